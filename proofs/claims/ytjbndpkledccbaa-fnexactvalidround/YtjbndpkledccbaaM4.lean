/- Walks of Go functions, printed by a program of ours. -/
import Derived.Test.YtjbndpkledccbaaProg
import Derived.Test.YtjbndpkledccbaaM1
import Derived.Test.YtjbndpkledccbaaM2
import Derived.Test.YtjbndpkledccbaaM3
set_option linter.unusedSimpArgs false
set_option linter.unusedVariables false
set_option linter.unusedSectionVars false
section
set_option maxRecDepth 100000
namespace KV
open Go Go.Eng Go.Proofs
def dqf : FD := { fn := 41, nb := 0, pre := ⟨[.sc (.fz 9 false 0), .sc (.i .i64 1)], []⟩, post := ⟨[.sc (.i .i64 0)], []⟩, sh := false, cuts := [⟨5, [0, 1, 5], ⟨[.sc (.fz 9 false 0), .sc (.i .i64 1), .sc (.i .i64 2)], []⟩⟩] }
noncomputable def Lqf : Option Nat → Lv → Option Lv := Lim Try.prog [] dqf Try.f41
theorem eqf_i (a0 : Rw) (a1 : Int) : Lqf none [.l a0, .i a1] =
 cond (decide ((IntKind.i64.wrap (a1 - (a0.length : Int))) < 0)) (
 some [.i (-1)]) (
 Lqf (some 5) [.l a0, .i (IntKind.i64.wrap (a1 - (a0.length : Int))), .i 0]) := (zd _ _).trans (by kernel_rfl)
theorem eqf_5 (a0 : Rw) (a1 a2 : Int) : Lqf (some 5) [.l a0, .i a1, .i a2] =
 cond (decide (a2 < (a0.length : Int))) (
 cond (inb a2 a0.length) (
 cond (decide ((IntKind.i64.wrap (a1 - (((rd a0 a2.toNat 0).str).size : Int))) < 0)) (
 some [.i (-1)]) (
 Lqf (some 5) [.l a0, .i (IntKind.i64.wrap (a1 - (((rd a0 a2.toNat 0).str).size : Int))), .i (IntKind.i64.wrap (a2 + 1))])) (
 none)) (
 some [.i a1]) := (zd _ _).trans (by kernel_rfl)
theorem kqf : SigOk Try.prog (dqf.sig (Lqf none)) ∧ (dqf.sig (Lqf none)).ok = true := zg zf (by kernel_rfl) (by kernel_rfl) (by kernel_rfl)
def dqbk : FD := { fn := 61, nb := 0, pre := ⟨[.ag [.s 0, .fz 9 false 1], .sc (.i .i64 2)], []⟩, post := ⟨[.sc (.i .i64 0)], []⟩, sh := false, cuts := [] }
noncomputable def Lqbk : Option Nat → Lv → Option Lv := Lim Try.prog [dqf.sig (Lqf none)] dqbk Try.f61
theorem eqbk_i (a0 : ByteArray) (a1 : Rw) (a2 : Int) : Lqbk none [.s a0, .l a1, .i a2] =
 cond (decide ((IntKind.i64.wrap (a2 - (a0.size : Int))) < 0)) (
 some [.i (-1)]) (
 (Lqf none [.l a1, .i (IntKind.i64.wrap (a2 - (a0.size : Int)))]).bind fun y1 =>
 cond (decide ((g y1 0).int < 0)) (
 some [.i (-1)]) (
 some [.i ((g y1 0).int)])) := (zd _ _).trans (by kernel_rfl)
theorem kqbk : SigOk Try.prog (dqbk.sig (Lqbk none)) ∧ (dqbk.sig (Lqbk none)).ok = true := zg (ze kqf (by kernel_rfl) zf) (by kernel_rfl) (by kernel_rfl) (by kernel_rfl)
def dqbd : FD := { fn := 46, nb := 0, pre := ⟨[.ag [.s 0, .i .i64 1, .s 2, .fz 9 false 3], .sc (.i .i64 4)], []⟩, post := ⟨[.sc (.i .i64 0)], []⟩, sh := false, cuts := [] }
noncomputable def Lqbd : Option Nat → Lv → Option Lv := Lim Try.prog [dqbk.sig (Lqbk none)] dqbd Try.f46
theorem eqbd_i (a0 : ByteArray) (a1 : Int) (a2 : ByteArray) (a3 : Rw) (a4 : Int) : Lqbd none [.s a0, .i a1, .s a2, .l a3, .i a4] =
 cond (decide ((IntKind.i64.wrap (a4 - (a0.size : Int))) < 0)) (
 some [.i (-1)]) (
 (Lqbk none [.s a2, .l a3, .i (IntKind.i64.wrap (a4 - (a0.size : Int)))]).bind fun y1 =>
 cond (decide ((g y1 0).int < 0)) (
 some [.i (-1)]) (
 some [.i ((g y1 0).int)])) := (zd _ _).trans (by kernel_rfl)
theorem kqbd : SigOk Try.prog (dqbd.sig (Lqbd none)) ∧ (dqbd.sig (Lqbd none)).ok = true := zg (ze kqbk (by kernel_rfl) zf) (by kernel_rfl) (by kernel_rfl) (by kernel_rfl)
def dqo : FD := { fn := 18, nb := 0, pre := ⟨[.sc (.fz 82 false 0), .sc (.i .i64 1)], []⟩, post := ⟨[.sc (.i .i64 0)], []⟩, sh := false, cuts := [⟨5, [0, 1, 5], ⟨[.sc (.fz 82 false 0), .sc (.i .i64 1), .sc (.i .i64 2)], []⟩⟩] }
noncomputable def Lqo : Option Nat → Lv → Option Lv := Lim Try.prog [dqbd.sig (Lqbd none)] dqo Try.f18
theorem eqo_i (a0 : Rw) (a1 : Int) : Lqo none [.l a0, .i a1] =
 cond (decide ((IntKind.i64.wrap (a1 - (a0.length : Int))) < 0)) (
 some [.i (-1)]) (
 Lqo (some 5) [.l a0, .i (IntKind.i64.wrap (a1 - (a0.length : Int))), .i 0]) := (zd _ _).trans (by kernel_rfl)
theorem eqo_5 (a0 : Rw) (a1 a2 : Int) : Lqo (some 5) [.l a0, .i a1, .i a2] =
 cond (decide (a2 < (a0.length : Int))) (
 cond (inb a2 a0.length) (
 (Lqbd none [.s ((rd a0 a2.toNat 0).str), .i ((rd a0 a2.toNat 1).int), .s ((rd a0 a2.toNat 2).str), .l ((rd a0 a2.toNat 3).list), .i a1]).bind fun y1 =>
 cond (decide ((g y1 0).int < 0)) (
 some [.i (-1)]) (
 Lqo (some 5) [.l a0, .i ((g y1 0).int), .i (IntKind.i64.wrap (a2 + 1))])) (
 none)) (
 some [.i a1]) := (zd _ _).trans (by kernel_rfl)
theorem kqo : SigOk Try.prog (dqo.sig (Lqo none)) ∧ (dqo.sig (Lqo none)).ok = true := zg (ze kqbd (by kernel_rfl) zf) (by kernel_rfl) (by kernel_rfl) (by kernel_rfl)
def dqbb : FD := { fn := 47, nb := 0, pre := ⟨[.ag [.s 0, .s 1], .sc (.i .i64 2)], []⟩, post := ⟨[.sc (.i .i64 0)], []⟩, sh := false, cuts := [] }
noncomputable def Lqbb : Option Nat → Lv → Option Lv := Lim Try.prog [] dqbb Try.f47
theorem eqbb_i (a0 a1 : ByteArray) (a2 : Int) : Lqbb none [.s a0, .s a1, .i a2] =
 cond (decide ((IntKind.i64.wrap (a2 - (a0.size : Int))) < 0)) (
 some [.i (-1)]) (
 cond (decide ((IntKind.i64.wrap ((IntKind.i64.wrap (a2 - (a0.size : Int))) - (a1.size : Int))) < 0)) (
 some [.i (-1)]) (
 some [.i (IntKind.i64.wrap ((IntKind.i64.wrap (a2 - (a0.size : Int))) - (a1.size : Int)))])) := (zd _ _).trans (by kernel_rfl)
theorem kqbb : SigOk Try.prog (dqbb.sig (Lqbb none)) ∧ (dqbb.sig (Lqbb none)).ok = true := zg zf (by kernel_rfl) (by kernel_rfl) (by kernel_rfl)
def dqm : FD := { fn := 19, nb := 0, pre := ⟨[.sc (.fz 84 false 0), .sc (.i .i64 1)], []⟩, post := ⟨[.sc (.i .i64 0)], []⟩, sh := false, cuts := [⟨5, [0, 1, 5], ⟨[.sc (.fz 84 false 0), .sc (.i .i64 1), .sc (.i .i64 2)], []⟩⟩] }
noncomputable def Lqm : Option Nat → Lv → Option Lv := Lim Try.prog [dqbb.sig (Lqbb none)] dqm Try.f19
theorem eqm_i (a0 : Rw) (a1 : Int) : Lqm none [.l a0, .i a1] =
 cond (decide ((IntKind.i64.wrap (a1 - (a0.length : Int))) < 0)) (
 some [.i (-1)]) (
 Lqm (some 5) [.l a0, .i (IntKind.i64.wrap (a1 - (a0.length : Int))), .i 0]) := (zd _ _).trans (by kernel_rfl)
theorem eqm_5 (a0 : Rw) (a1 a2 : Int) : Lqm (some 5) [.l a0, .i a1, .i a2] =
 cond (decide (a2 < (a0.length : Int))) (
 cond (inb a2 a0.length) (
 (Lqbb none [.s ((rd a0 a2.toNat 0).str), .s ((rd a0 a2.toNat 1).str), .i a1]).bind fun y1 =>
 cond (decide ((g y1 0).int < 0)) (
 some [.i (-1)]) (
 Lqm (some 5) [.l a0, .i ((g y1 0).int), .i (IntKind.i64.wrap (a2 + 1))])) (
 none)) (
 some [.i a1]) := (zd _ _).trans (by kernel_rfl)
theorem kqm : SigOk Try.prog (dqm.sig (Lqm none)) ∧ (dqm.sig (Lqm none)).ok = true := zg (ze kqbb (by kernel_rfl) zf) (by kernel_rfl) (by kernel_rfl) (by kernel_rfl)
def dqbe : FD := { fn := 48, nb := 0, pre := ⟨[.ag [.i .i64 0, .s 1, .i .i64 2], .sc (.i .i64 3)], []⟩, post := ⟨[.sc (.i .i64 0)], []⟩, sh := false, cuts := [] }
noncomputable def Lqbe : Option Nat → Lv → Option Lv := Lim Try.prog [] dqbe Try.f48
theorem eqbe_i (a0 : Int) (a1 : ByteArray) (a2 a3 : Int) : Lqbe none [.i a0, .s a1, .i a2, .i a3] =
 cond (decide ((IntKind.i64.wrap (a3 - (a1.size : Int))) < 0)) (
 some [.i (-1)]) (
 some [.i (IntKind.i64.wrap (a3 - (a1.size : Int)))]) := (zd _ _).trans (by kernel_rfl)
theorem kqbe : SigOk Try.prog (dqbe.sig (Lqbe none)) ∧ (dqbe.sig (Lqbe none)).ok = true := zg zf (by kernel_rfl) (by kernel_rfl) (by kernel_rfl)
def dqp : FD := { fn := 20, nb := 0, pre := ⟨[.sc (.fz 86 false 0), .sc (.i .i64 1)], []⟩, post := ⟨[.sc (.i .i64 0)], []⟩, sh := false, cuts := [⟨5, [0, 1, 5], ⟨[.sc (.fz 86 false 0), .sc (.i .i64 1), .sc (.i .i64 2)], []⟩⟩] }
noncomputable def Lqp : Option Nat → Lv → Option Lv := Lim Try.prog [dqbe.sig (Lqbe none)] dqp Try.f20
theorem eqp_i (a0 : Rw) (a1 : Int) : Lqp none [.l a0, .i a1] =
 cond (decide ((IntKind.i64.wrap (a1 - (a0.length : Int))) < 0)) (
 some [.i (-1)]) (
 Lqp (some 5) [.l a0, .i (IntKind.i64.wrap (a1 - (a0.length : Int))), .i 0]) := (zd _ _).trans (by kernel_rfl)
theorem eqp_5 (a0 : Rw) (a1 a2 : Int) : Lqp (some 5) [.l a0, .i a1, .i a2] =
 cond (decide (a2 < (a0.length : Int))) (
 cond (inb a2 a0.length) (
 (Lqbe none [.i ((rd a0 a2.toNat 0).int), .s ((rd a0 a2.toNat 1).str), .i ((rd a0 a2.toNat 2).int), .i a1]).bind fun y1 =>
 cond (decide ((g y1 0).int < 0)) (
 some [.i (-1)]) (
 Lqp (some 5) [.l a0, .i ((g y1 0).int), .i (IntKind.i64.wrap (a2 + 1))])) (
 none)) (
 some [.i a1]) := (zd _ _).trans (by kernel_rfl)
theorem kqp : SigOk Try.prog (dqp.sig (Lqp none)) ∧ (dqp.sig (Lqp none)).ok = true := zg (ze kqbe (by kernel_rfl) zf) (by kernel_rfl) (by kernel_rfl) (by kernel_rfl)
def dqbf : FD := { fn := 6, nb := 0, pre := ⟨[.ag [.i .i64 0, .i .i64 1, .i .i64 2, .i .i64 3, .fz 82 false 4, .fz 84 false 5, .fz 86 false 6], .sc (.i .i64 7)], []⟩, post := ⟨[.sc (.i .i64 0)], []⟩, sh := false, cuts := [] }
noncomputable def Lqbf : Option Nat → Lv → Option Lv := Lim Try.prog [dqo.sig (Lqo none), dqm.sig (Lqm none), dqp.sig (Lqp none)] dqbf Try.f6
theorem eqbf_i (a0 a1 a2 a3 : Int) (a4 a5 a6 : Rw) (a7 : Int) : Lqbf none [.i a0, .i a1, .i a2, .i a3, .l a4, .l a5, .l a6, .i a7] =
 (Lqo none [.l a4, .i a7]).bind fun y1 =>
 cond (decide ((g y1 0).int < 0)) (
 some [.i (-1)]) (
 (Lqm none [.l a5, .i ((g y1 0).int)]).bind fun y2 =>
 cond (decide ((g y2 0).int < 0)) (
 some [.i (-1)]) (
 (Lqp none [.l a6, .i ((g y2 0).int)]).bind fun y3 =>
 cond (decide ((g y3 0).int < 0)) (
 some [.i (-1)]) (
 some [.i ((g y3 0).int)]))) := (zd _ _).trans (by kernel_rfl)
theorem kqbf : SigOk Try.prog (dqbf.sig (Lqbf none)) ∧ (dqbf.sig (Lqbf none)).ok = true := zg (ze kqo (by kernel_rfl) (ze kqm (by kernel_rfl) (ze kqp (by kernel_rfl) zf))) (by kernel_rfl) (by kernel_rfl) (by kernel_rfl)
def dqs : FD := { fn := 43, nb := 0, pre := ⟨[.sc (.fz 9 false 0)], []⟩, post := ⟨[.sc (.ow 0)], [.dw 9 none 0]⟩, sh := false, cuts := [⟨3, [0, 3, 4], ⟨[.sc (.fz 9 false 0), .sc (.ow 0), .sc (.i .i64 1)], [.rw 9 true 2]⟩⟩] }
noncomputable def Lqs : Option Nat → Lv → Option Lv := Lim Try.prog [] dqs Try.f43
theorem eqs_i (a0 : Rw) : Lqs none [.l a0] =
 cond (decide (0 ≤ (a0.length : Int))) (
 cond ((a0.length : Int) == (a0.length : Int)) (
 cond (decide ((a0.length : Int) ≤ (most : Int))) (
 Lqs (some 3) [.l a0, .i 0, .l (List.replicate (a0.length : Int).toNat ([.s (⟨#[]⟩ : ByteArray)] : List C))]) (
 none)) (
 none)) (
 none) := (zd _ _).trans (by kernel_rfl)
theorem eqs_3 (a0 : Rw) (a1 : Int) (a2 : Rw) : Lqs (some 3) [.l a0, .i a1, .l a2] =
 cond (decide (a1 < (a0.length : Int))) (
 cond (inb a1 a0.length) (
 cond (inb a1 a2.length) (
 Lqs (some 3) [.l a0, .i (IntKind.i64.wrap (a1 + 1)), .l (wrs a2 a1.toNat 0 ([.s ((rd a0 a1.toNat 0).str)] : List C))]) (
 none)) (
 none)) (
 some [.l a2]) := (zd _ _).trans (by kernel_rfl)
theorem kqs : SigOk Try.prog (dqs.sig (Lqs none)) ∧ (dqs.sig (Lqs none)).ok = true := zg zf (by kernel_rfl) (by kernel_rfl) (by kernel_rfl)
def dqbl : FD := { fn := 62, nb := 0, pre := ⟨[.ag [.s 0, .fz 9 false 1]], []⟩, post := ⟨[.ag [.s 0, .ow 0]], [.dw 9 none 1]⟩, sh := false, cuts := [] }
noncomputable def Lqbl : Option Nat → Lv → Option Lv := Lim Try.prog [dqs.sig (Lqs none)] dqbl Try.f62
theorem eqbl_i (a0 : ByteArray) (a1 : Rw) : Lqbl none [.s a0, .l a1] =
 (Lqs none [.l a1]).bind fun y1 =>
 some [.s a0, .l ((g y1 0).list)] := (zd _ _).trans (by kernel_rfl)
theorem kqbl : SigOk Try.prog (dqbl.sig (Lqbl none)) ∧ (dqbl.sig (Lqbl none)).ok = true := zg (ze kqs (by kernel_rfl) zf) (by kernel_rfl) (by kernel_rfl) (by kernel_rfl)
def dqbg : FD := { fn := 52, nb := 0, pre := ⟨[.ag [.s 0, .i .i64 1, .s 2, .fz 9 false 3]], []⟩, post := ⟨[.ag [.s 0, .i .i64 1, .s 2, .ow 0]], [.dw 9 none 3]⟩, sh := false, cuts := [] }
noncomputable def Lqbg : Option Nat → Lv → Option Lv := Lim Try.prog [dqbl.sig (Lqbl none)] dqbg Try.f52
theorem eqbg_i (a0 : ByteArray) (a1 : Int) (a2 : ByteArray) (a3 : Rw) : Lqbg none [.s a0, .i a1, .s a2, .l a3] =
 (Lqbl none [.s a2, .l a3]).bind fun y1 =>
 some [.s a0, .i a1, .s ((g y1 0).str), .l ((g y1 1).list)] := (zd _ _).trans (by kernel_rfl)
theorem kqbg : SigOk Try.prog (dqbg.sig (Lqbg none)) ∧ (dqbg.sig (Lqbg none)).ok = true := zg (ze kqbl (by kernel_rfl) zf) (by kernel_rfl) (by kernel_rfl) (by kernel_rfl)
def dqt : FD := { fn := 26, nb := 0, pre := ⟨[.sc (.fz 82 false 0)], []⟩, post := ⟨[.sc (.ow 0)], [.dw 65 (some (3, 9)) 0]⟩, sh := false, cuts := [⟨3, [0, 3, 4], ⟨[.sc (.fz 82 false 0), .sc (.ow 0), .sc (.i .i64 1)], [.dw 65 (some (3, 9)) 2]⟩⟩] }
noncomputable def Lqt : Option Nat → Lv → Option Lv := Lim Try.prog [dqbg.sig (Lqbg none)] dqt Try.f26
theorem eqt_i (a0 : Rw) : Lqt none [.l a0] =
 cond (decide (0 ≤ (a0.length : Int))) (
 cond ((a0.length : Int) == (a0.length : Int)) (
 cond (decide ((a0.length : Int) ≤ (most : Int))) (
 Lqt (some 3) [.l a0, .i 0, .l (List.replicate (a0.length : Int).toNat ([.s (⟨#[]⟩ : ByteArray), .i 0, .s (⟨#[]⟩ : ByteArray), .l ([])] : List C))]) (
 none)) (
 none)) (
 none) := (zd _ _).trans (by kernel_rfl)
theorem eqt_3 (a0 : Rw) (a1 : Int) (a2 : Rw) : Lqt (some 3) [.l a0, .i a1, .l a2] =
 cond (decide (a1 < (a0.length : Int))) (
 cond (inb a1 a0.length) (
 (Lqbg none [.s ((rd a0 a1.toNat 0).str), .i ((rd a0 a1.toNat 1).int), .s ((rd a0 a1.toNat 2).str), .l ((rd a0 a1.toNat 3).list)]).bind fun y1 =>
 cond (inb a1 a2.length) (
 Lqt (some 3) [.l a0, .i (IntKind.i64.wrap (a1 + 1)), .l (wrs a2 a1.toNat 0 ([.s ((g y1 0).str), .i ((g y1 1).int), .s ((g y1 2).str), .l ((g y1 3).list)] : List C))]) (
 none)) (
 none)) (
 some [.l a2]) := (zd _ _).trans (by kernel_rfl)
theorem kqt : SigOk Try.prog (dqt.sig (Lqt none)) ∧ (dqt.sig (Lqt none)).ok = true := zg (ze kqbg (by kernel_rfl) zf) (by kernel_rfl) (by kernel_rfl) (by kernel_rfl)
def dqbm : FD := { fn := 53, nb := 0, pre := ⟨[.ag [.s 0, .s 1]], []⟩, post := ⟨[.ag [.s 0, .s 1]], []⟩, sh := false, cuts := [] }
noncomputable def Lqbm : Option Nat → Lv → Option Lv := Lim Try.prog [] dqbm Try.f53
theorem eqbm_i (a0 a1 : ByteArray) : Lqbm none [.s a0, .s a1] =
 some [.s a0, .s a1] := (zd _ _).trans (by kernel_rfl)
theorem kqbm : SigOk Try.prog (dqbm.sig (Lqbm none)) ∧ (dqbm.sig (Lqbm none)).ok = true := zg zf (by kernel_rfl) (by kernel_rfl) (by kernel_rfl)
end KV
end
section
set_option maxRecDepth 100000
namespace KV
open Go Go.Eng Go.Proofs
def dqu : FD := { fn := 27, nb := 0, pre := ⟨[.sc (.fz 84 false 0)], []⟩, post := ⟨[.sc (.ow 0)], [.dw 54 none 0]⟩, sh := false, cuts := [⟨3, [0, 3, 4], ⟨[.sc (.fz 84 false 0), .sc (.ow 0), .sc (.i .i64 1)], [.rw 54 true 2]⟩⟩] }
noncomputable def Lqu : Option Nat → Lv → Option Lv := Lim Try.prog [dqbm.sig (Lqbm none)] dqu Try.f27
theorem equ_i (a0 : Rw) : Lqu none [.l a0] =
 cond (decide (0 ≤ (a0.length : Int))) (
 cond ((a0.length : Int) == (a0.length : Int)) (
 cond (decide ((a0.length : Int) ≤ (most : Int))) (
 Lqu (some 3) [.l a0, .i 0, .l (List.replicate (a0.length : Int).toNat ([.s (⟨#[]⟩ : ByteArray), .s (⟨#[]⟩ : ByteArray)] : List C))]) (
 none)) (
 none)) (
 none) := (zd _ _).trans (by kernel_rfl)
theorem equ_3 (a0 : Rw) (a1 : Int) (a2 : Rw) : Lqu (some 3) [.l a0, .i a1, .l a2] =
 cond (decide (a1 < (a0.length : Int))) (
 cond (inb a1 a0.length) (
 (Lqbm none [.s ((rd a0 a1.toNat 0).str), .s ((rd a0 a1.toNat 1).str)]).bind fun y1 =>
 cond (inb a1 a2.length) (
 Lqu (some 3) [.l a0, .i (IntKind.i64.wrap (a1 + 1)), .l (wrs a2 a1.toNat 0 ([.s ((g y1 0).str), .s ((g y1 1).str)] : List C))]) (
 none)) (
 none)) (
 some [.l a2]) := (zd _ _).trans (by kernel_rfl)
theorem kqu : SigOk Try.prog (dqu.sig (Lqu none)) ∧ (dqu.sig (Lqu none)).ok = true := zg (ze kqbm (by kernel_rfl) zf) (by kernel_rfl) (by kernel_rfl) (by kernel_rfl)
def dqbn : FD := { fn := 54, nb := 0, pre := ⟨[.ag [.i .i64 0, .s 1, .i .i64 2]], []⟩, post := ⟨[.ag [.i .i64 0, .s 1, .i .i64 2]], []⟩, sh := false, cuts := [] }
noncomputable def Lqbn : Option Nat → Lv → Option Lv := Lim Try.prog [] dqbn Try.f54
theorem eqbn_i (a0 : Int) (a1 : ByteArray) (a2 : Int) : Lqbn none [.i a0, .s a1, .i a2] =
 some [.i a0, .s a1, .i a2] := (zd _ _).trans (by kernel_rfl)
theorem kqbn : SigOk Try.prog (dqbn.sig (Lqbn none)) ∧ (dqbn.sig (Lqbn none)).ok = true := zg zf (by kernel_rfl) (by kernel_rfl) (by kernel_rfl)
def dqv : FD := { fn := 28, nb := 0, pre := ⟨[.sc (.fz 86 false 0)], []⟩, post := ⟨[.sc (.ow 0)], [.dw 57 none 0]⟩, sh := false, cuts := [⟨3, [0, 3, 4], ⟨[.sc (.fz 86 false 0), .sc (.ow 0), .sc (.i .i64 1)], [.rw 57 true 2]⟩⟩] }
noncomputable def Lqv : Option Nat → Lv → Option Lv := Lim Try.prog [dqbn.sig (Lqbn none)] dqv Try.f28
theorem eqv_i (a0 : Rw) : Lqv none [.l a0] =
 cond (decide (0 ≤ (a0.length : Int))) (
 cond ((a0.length : Int) == (a0.length : Int)) (
 cond (decide ((a0.length : Int) ≤ (most : Int))) (
 Lqv (some 3) [.l a0, .i 0, .l (List.replicate (a0.length : Int).toNat ([.i 0, .s (⟨#[]⟩ : ByteArray), .i 0] : List C))]) (
 none)) (
 none)) (
 none) := (zd _ _).trans (by kernel_rfl)
theorem eqv_3 (a0 : Rw) (a1 : Int) (a2 : Rw) : Lqv (some 3) [.l a0, .i a1, .l a2] =
 cond (decide (a1 < (a0.length : Int))) (
 cond (inb a1 a0.length) (
 (Lqbn none [.i ((rd a0 a1.toNat 0).int), .s ((rd a0 a1.toNat 1).str), .i ((rd a0 a1.toNat 2).int)]).bind fun y1 =>
 cond (inb a1 a2.length) (
 Lqv (some 3) [.l a0, .i (IntKind.i64.wrap (a1 + 1)), .l (wrs a2 a1.toNat 0 ([.i ((g y1 0).int), .s ((g y1 1).str), .i ((g y1 2).int)] : List C))]) (
 none)) (
 none)) (
 some [.l a2]) := (zd _ _).trans (by kernel_rfl)
theorem kqv : SigOk Try.prog (dqv.sig (Lqv none)) ∧ (dqv.sig (Lqv none)).ok = true := zg (ze kqbn (by kernel_rfl) zf) (by kernel_rfl) (by kernel_rfl) (by kernel_rfl)
def dq7 : FD := { fn := 8, nb := 0, pre := ⟨[.ag [.i .i64 0, .i .i64 1, .i .i64 2, .i .i64 3, .fz 82 false 4, .fz 84 false 5, .fz 86 false 6]], []⟩, post := ⟨[.ag [.i .i64 0, .i .i64 1, .i .i64 2, .i .i64 3, .ow 0, .ow 1, .ow 2]], [.dw 65 (some (3, 9)) 4, .dw 54 none 5, .dw 57 none 6]⟩, sh := false, cuts := [] }
noncomputable def Lq7 : Option Nat → Lv → Option Lv := Lim Try.prog [dqt.sig (Lqt none), dqu.sig (Lqu none), dqv.sig (Lqv none)] dq7 Try.f8
theorem eq7_i (a0 a1 a2 a3 : Int) (a4 a5 a6 : Rw) : Lq7 none [.i a0, .i a1, .i a2, .i a3, .l a4, .l a5, .l a6] =
 (Lqt none [.l a4]).bind fun y1 =>
 (Lqu none [.l a5]).bind fun y2 =>
 (Lqv none [.l a6]).bind fun y3 =>
 some [.i a0, .i a1, .i a2, .i a3, .l ((g y1 0).list), .l ((g y2 0).list), .l ((g y3 0).list)] := (zd _ _).trans (by kernel_rfl)
theorem kq7 : SigOk Try.prog (dq7.sig (Lq7 none)) ∧ (dq7.sig (Lq7 none)).ok = true := zg (ze kqt (by kernel_rfl) (ze kqu (by kernel_rfl) (ze kqv (by kernel_rfl) zf))) (by kernel_rfl) (by kernel_rfl) (by kernel_rfl)
def dqk : FD := { fn := 45, nb := 0, pre := ⟨[.sc (.fz 9 false 0), .sc (.fz 9 false 1)], []⟩, post := ⟨[.sc (.b 0)], []⟩, sh := false, cuts := [⟨4, [0, 1, 5], ⟨[.sc (.fz 9 false 0), .sc (.fz 9 false 1), .sc (.i .i64 2)], []⟩⟩] }
noncomputable def Lqk : Option Nat → Lv → Option Lv := Lim Try.prog [] dqk Try.f45
theorem eqk_i (a0 a1 : Rw) : Lqk none [.l a0, .l a1] =
 cond ((a0.length : Int) != (a1.length : Int)) (
 some [.b false]) (
 Lqk (some 4) [.l a0, .l a1, .i 0]) := (zd _ _).trans (by kernel_rfl)
theorem eqk_4 (a0 a1 : Rw) (a2 : Int) : Lqk (some 4) [.l a0, .l a1, .i a2] =
 cond (decide (a2 < (a0.length : Int))) (
 cond (inb a2 a0.length) (
 cond (inb a2 a1.length) (
 cond (!Eng.seq ((rd a0 a2.toNat 0).str) ((rd a1 a2.toNat 0).str)) (
 some [.b false]) (
 Lqk (some 4) [.l a0, .l a1, .i (IntKind.i64.wrap (a2 + 1))])) (
 none)) (
 none)) (
 some [.b true]) := (zd _ _).trans (by kernel_rfl)
theorem kqk : SigOk Try.prog (dqk.sig (Lqk none)) ∧ (dqk.sig (Lqk none)).ok = true := zg zf (by kernel_rfl) (by kernel_rfl) (by kernel_rfl)
def dqbo : FD := { fn := 63, nb := 0, pre := ⟨[.ag [.s 0, .fz 9 false 1], .ag [.s 2, .fz 9 false 3]], []⟩, post := ⟨[.sc (.b 0)], []⟩, sh := false, cuts := [] }
noncomputable def Lqbo : Option Nat → Lv → Option Lv := Lim Try.prog [dqk.sig (Lqk none)] dqbo Try.f63
theorem eqbo_i (a0 : ByteArray) (a1 : Rw) (a2 : ByteArray) (a3 : Rw) : Lqbo none [.s a0, .l a1, .s a2, .l a3] =
 cond (!Eng.seq a0 a2) (
 some [.b false]) (
 (Lqk none [.l a1, .l a3]).bind fun y1 =>
 cond (!(g y1 0).bool) (
 some [.b false]) (
 some [.b true])) := (zd _ _).trans (by kernel_rfl)
theorem kqbo : SigOk Try.prog (dqbo.sig (Lqbo none)) ∧ (dqbo.sig (Lqbo none)).ok = true := zg (ze kqk (by kernel_rfl) zf) (by kernel_rfl) (by kernel_rfl) (by kernel_rfl)
def dqbp : FD := { fn := 57, nb := 0, pre := ⟨[.ag [.s 0, .i .i64 1, .s 2, .fz 9 false 3], .ag [.s 4, .i .i64 5, .s 6, .fz 9 false 7]], []⟩, post := ⟨[.sc (.b 0)], []⟩, sh := false, cuts := [] }
noncomputable def Lqbp : Option Nat → Lv → Option Lv := Lim Try.prog [dqbo.sig (Lqbo none)] dqbp Try.f57
theorem eqbp_i (a0 : ByteArray) (a1 : Int) (a2 : ByteArray) (a3 : Rw) (a4 : ByteArray) (a5 : Int) (a6 : ByteArray) (a7 : Rw) : Lqbp none [.s a0, .i a1, .s a2, .l a3, .s a4, .i a5, .s a6, .l a7] =
 cond (!Eng.seq a0 a4) (
 some [.b false]) (
 cond (a1 != a5) (
 some [.b false]) (
 (Lqbo none [.s a2, .l a3, .s a6, .l a7]).bind fun y1 =>
 cond (!(g y1 0).bool) (
 some [.b false]) (
 some [.b true]))) := (zd _ _).trans (by kernel_rfl)
theorem kqbp : SigOk Try.prog (dqbp.sig (Lqbp none)) ∧ (dqbp.sig (Lqbp none)).ok = true := zg (ze kqbo (by kernel_rfl) zf) (by kernel_rfl) (by kernel_rfl) (by kernel_rfl)
def dqw : FD := { fn := 36, nb := 0, pre := ⟨[.sc (.fz 65 false 0), .sc (.fz 65 false 1)], []⟩, post := ⟨[.sc (.b 0)], []⟩, sh := false, cuts := [⟨4, [0, 1, 5], ⟨[.sc (.fz 65 false 0), .sc (.fz 65 false 1), .sc (.i .i64 2)], []⟩⟩] }
noncomputable def Lqw : Option Nat → Lv → Option Lv := Lim Try.prog [dqbp.sig (Lqbp none)] dqw Try.f36
theorem eqw_i (a0 a1 : Rw) : Lqw none [.l a0, .l a1] =
 cond ((a0.length : Int) != (a1.length : Int)) (
 some [.b false]) (
 Lqw (some 4) [.l a0, .l a1, .i 0]) := (zd _ _).trans (by kernel_rfl)
theorem eqw_4 (a0 a1 : Rw) (a2 : Int) : Lqw (some 4) [.l a0, .l a1, .i a2] =
 cond (decide (a2 < (a0.length : Int))) (
 cond (inb a2 a0.length) (
 cond (inb a2 a1.length) (
 (Lqbp none [.s ((rd a0 a2.toNat 0).str), .i ((rd a0 a2.toNat 1).int), .s ((rd a0 a2.toNat 2).str), .l ((rd a0 a2.toNat 3).list), .s ((rd a1 a2.toNat 0).str), .i ((rd a1 a2.toNat 1).int), .s ((rd a1 a2.toNat 2).str), .l ((rd a1 a2.toNat 3).list)]).bind fun y1 =>
 cond (!(g y1 0).bool) (
 some [.b false]) (
 Lqw (some 4) [.l a0, .l a1, .i (IntKind.i64.wrap (a2 + 1))])) (
 none)) (
 none)) (
 some [.b true]) := (zd _ _).trans (by kernel_rfl)
theorem kqw : SigOk Try.prog (dqw.sig (Lqw none)) ∧ (dqw.sig (Lqw none)).ok = true := zg (ze kqbp (by kernel_rfl) zf) (by kernel_rfl) (by kernel_rfl) (by kernel_rfl)
def dqbq : FD := { fn := 58, nb := 0, pre := ⟨[.ag [.s 0, .s 1], .ag [.s 2, .s 3]], []⟩, post := ⟨[.sc (.b 0)], []⟩, sh := false, cuts := [] }
noncomputable def Lqbq : Option Nat → Lv → Option Lv := Lim Try.prog [] dqbq Try.f58
theorem eqbq_i (a0 a1 a2 a3 : ByteArray) : Lqbq none [.s a0, .s a1, .s a2, .s a3] =
 cond (!Eng.seq a0 a2) (
 some [.b false]) (
 cond (!Eng.seq a1 a3) (
 some [.b false]) (
 some [.b true])) := (zd _ _).trans (by kernel_rfl)
theorem kqbq : SigOk Try.prog (dqbq.sig (Lqbq none)) ∧ (dqbq.sig (Lqbq none)).ok = true := zg zf (by kernel_rfl) (by kernel_rfl) (by kernel_rfl)
def dqx : FD := { fn := 37, nb := 0, pre := ⟨[.sc (.fz 54 false 0), .sc (.fz 54 false 1)], []⟩, post := ⟨[.sc (.b 0)], []⟩, sh := false, cuts := [⟨4, [0, 1, 5], ⟨[.sc (.fz 54 false 0), .sc (.fz 54 false 1), .sc (.i .i64 2)], []⟩⟩] }
noncomputable def Lqx : Option Nat → Lv → Option Lv := Lim Try.prog [dqbq.sig (Lqbq none)] dqx Try.f37
theorem eqx_i (a0 a1 : Rw) : Lqx none [.l a0, .l a1] =
 cond ((a0.length : Int) != (a1.length : Int)) (
 some [.b false]) (
 Lqx (some 4) [.l a0, .l a1, .i 0]) := (zd _ _).trans (by kernel_rfl)
theorem eqx_4 (a0 a1 : Rw) (a2 : Int) : Lqx (some 4) [.l a0, .l a1, .i a2] =
 cond (decide (a2 < (a0.length : Int))) (
 cond (inb a2 a0.length) (
 cond (inb a2 a1.length) (
 (Lqbq none [.s ((rd a0 a2.toNat 0).str), .s ((rd a0 a2.toNat 1).str), .s ((rd a1 a2.toNat 0).str), .s ((rd a1 a2.toNat 1).str)]).bind fun y1 =>
 cond (!(g y1 0).bool) (
 some [.b false]) (
 Lqx (some 4) [.l a0, .l a1, .i (IntKind.i64.wrap (a2 + 1))])) (
 none)) (
 none)) (
 some [.b true]) := (zd _ _).trans (by kernel_rfl)
theorem kqx : SigOk Try.prog (dqx.sig (Lqx none)) ∧ (dqx.sig (Lqx none)).ok = true := zg (ze kqbq (by kernel_rfl) zf) (by kernel_rfl) (by kernel_rfl) (by kernel_rfl)
def dqbr : FD := { fn := 59, nb := 0, pre := ⟨[.ag [.i .i64 0, .s 1, .i .i64 2], .ag [.i .i64 3, .s 4, .i .i64 5]], []⟩, post := ⟨[.sc (.b 0)], []⟩, sh := false, cuts := [] }
noncomputable def Lqbr : Option Nat → Lv → Option Lv := Lim Try.prog [] dqbr Try.f59
theorem eqbr_i (a0 : Int) (a1 : ByteArray) (a2 a3 : Int) (a4 : ByteArray) (a5 : Int) : Lqbr none [.i a0, .s a1, .i a2, .i a3, .s a4, .i a5] =
 cond (a0 != a3) (
 some [.b false]) (
 cond (!Eng.seq a1 a4) (
 some [.b false]) (
 cond (a2 != a5) (
 some [.b false]) (
 some [.b true]))) := (zd _ _).trans (by kernel_rfl)
theorem kqbr : SigOk Try.prog (dqbr.sig (Lqbr none)) ∧ (dqbr.sig (Lqbr none)).ok = true := zg zf (by kernel_rfl) (by kernel_rfl) (by kernel_rfl)
def dqy : FD := { fn := 38, nb := 0, pre := ⟨[.sc (.fz 57 false 0), .sc (.fz 57 false 1)], []⟩, post := ⟨[.sc (.b 0)], []⟩, sh := false, cuts := [⟨4, [0, 1, 5], ⟨[.sc (.fz 57 false 0), .sc (.fz 57 false 1), .sc (.i .i64 2)], []⟩⟩] }
noncomputable def Lqy : Option Nat → Lv → Option Lv := Lim Try.prog [dqbr.sig (Lqbr none)] dqy Try.f38
theorem eqy_i (a0 a1 : Rw) : Lqy none [.l a0, .l a1] =
 cond ((a0.length : Int) != (a1.length : Int)) (
 some [.b false]) (
 Lqy (some 4) [.l a0, .l a1, .i 0]) := (zd _ _).trans (by kernel_rfl)
theorem eqy_4 (a0 a1 : Rw) (a2 : Int) : Lqy (some 4) [.l a0, .l a1, .i a2] =
 cond (decide (a2 < (a0.length : Int))) (
 cond (inb a2 a0.length) (
 cond (inb a2 a1.length) (
 (Lqbr none [.i ((rd a0 a2.toNat 0).int), .s ((rd a0 a2.toNat 1).str), .i ((rd a0 a2.toNat 2).int), .i ((rd a1 a2.toNat 0).int), .s ((rd a1 a2.toNat 1).str), .i ((rd a1 a2.toNat 2).int)]).bind fun y1 =>
 cond (!(g y1 0).bool) (
 some [.b false]) (
 Lqy (some 4) [.l a0, .l a1, .i (IntKind.i64.wrap (a2 + 1))])) (
 none)) (
 none)) (
 some [.b true]) := (zd _ _).trans (by kernel_rfl)
theorem kqy : SigOk Try.prog (dqy.sig (Lqy none)) ∧ (dqy.sig (Lqy none)).ok = true := zg (ze kqbr (by kernel_rfl) zf) (by kernel_rfl) (by kernel_rfl) (by kernel_rfl)
def dqbc : FD := { fn := 10, nb := 0, pre := ⟨[.ag [.i .i64 0, .i .i64 1, .i .i64 2, .i .i64 3, .fz 65 false 4, .fz 54 false 5, .fz 57 false 6], .ag [.i .i64 7, .i .i64 8, .i .i64 9, .i .i64 10, .fz 65 false 11, .fz 54 false 12, .fz 57 false 13]], []⟩, post := ⟨[.sc (.b 0)], []⟩, sh := false, cuts := [] }
noncomputable def Lqbc : Option Nat → Lv → Option Lv := Lim Try.prog [dqw.sig (Lqw none), dqx.sig (Lqx none), dqy.sig (Lqy none)] dqbc Try.f10
theorem eqbc_i (a0 a1 a2 a3 : Int) (a4 a5 a6 : Rw) (a7 a8 a9 a10 : Int) (a11 a12 a13 : Rw) : Lqbc none [.i a0, .i a1, .i a2, .i a3, .l a4, .l a5, .l a6, .i a7, .i a8, .i a9, .i a10, .l a11, .l a12, .l a13] =
 cond (a0 != a7) (
 some [.b false]) (
 cond (a1 != a8) (
 some [.b false]) (
 cond (a2 != a9) (
 some [.b false]) (
 cond (a3 != a10) (
 some [.b false]) (
 (Lqw none [.l a4, .l a11]).bind fun y1 =>
 cond (!(g y1 0).bool) (
 some [.b false]) (
 (Lqx none [.l a5, .l a12]).bind fun y2 =>
 cond (!(g y2 0).bool) (
 some [.b false]) (
 (Lqy none [.l a6, .l a13]).bind fun y3 =>
 cond (!(g y3 0).bool) (
 some [.b false]) (
 some [.b true]))))))) := (zd _ _).trans (by kernel_rfl)
theorem kqbc : SigOk Try.prog (dqbc.sig (Lqbc none)) ∧ (dqbc.sig (Lqbc none)).ok = true := zg (ze kqw (by kernel_rfl) (ze kqx (by kernel_rfl) (ze kqy (by kernel_rfl) zf))) (by kernel_rfl) (by kernel_rfl) (by kernel_rfl)
def dqbh : FD := { fn := 13, nb := 0, pre := ⟨[.ag [.i .i64 0, .fz 9 false 1, .fz 9 false 2, .i .i64 3, .i .i64 4, .i .i64 5], .sc (.i .i64 6)], []⟩, post := ⟨[.sc (.i .i64 0)], []⟩, sh := false, cuts := [] }
noncomputable def Lqbh : Option Nat → Lv → Option Lv := Lim Try.prog [dqf.sig (Lqf none)] dqbh Try.f13
theorem eqbh_i (a0 : Int) (a1 a2 : Rw) (a3 a4 a5 a6 : Int) : Lqbh none [.i a0, .l a1, .l a2, .i a3, .i a4, .i a5, .i a6] =
 (Lqf none [.l a1, .i a6]).bind fun y1 =>
 cond (decide ((g y1 0).int < 0)) (
 some [.i (-1)]) (
 (Lqf none [.l a2, .i ((g y1 0).int)]).bind fun y2 =>
 cond (decide ((g y2 0).int < 0)) (
 some [.i (-1)]) (
 some [.i ((g y2 0).int)])) := (zd _ _).trans (by kernel_rfl)
theorem kqbh : SigOk Try.prog (dqbh.sig (Lqbh none)) ∧ (dqbh.sig (Lqbh none)).ok = true := zg (ze kqf (by kernel_rfl) zf) (by kernel_rfl) (by kernel_rfl) (by kernel_rfl)
end KV
end
section
set_option maxRecDepth 100000
namespace KV
open Go Go.Eng Go.Proofs
def dq4 : FD := { fn := 21, nb := 0, pre := ⟨[.sc (.i .i64 0)], []⟩, post := ⟨[.sc (.b 0)], []⟩, sh := false, cuts := [] }
noncomputable def Lq4 : Option Nat → Lv → Option Lv := Lim Try.prog [] dq4 Try.f21
theorem eq4_i (a0 : Int) : Lq4 none [.i a0] =
 cond (decide (1 ≤ a0)) (
 some [.b (decide (a0 ≤ 8))]) (
 some [.b false]) := (zd _ _).trans (by kernel_rfl)
theorem kq4 : SigOk Try.prog (dq4.sig (Lq4 none)) ∧ (dq4.sig (Lq4 none)).ok = true := zg zf (by kernel_rfl) (by kernel_rfl) (by kernel_rfl)
def dql : FD := { fn := 22, nb := 0, pre := ⟨[.sc (.i .i64 0), .sc (.i .i64 1), .sc (.i .i64 2)], []⟩, post := ⟨[.sc (.b 0)], []⟩, sh := false, cuts := [] }
noncomputable def Lql : Option Nat → Lv → Option Lv := Lim Try.prog [] dql Try.f22
theorem eql_i (a0 a1 a2 : Int) : Lql none [.i a0, .i a1, .i a2] =
 cond (decide (a1 ≤ a0)) (
 some [.b (decide (a0 ≤ a2))]) (
 some [.b false]) := (zd _ _).trans (by kernel_rfl)
theorem kql : SigOk Try.prog (dql.sig (Lql none)) ∧ (dql.sig (Lql none)).ok = true := zg zf (by kernel_rfl) (by kernel_rfl) (by kernel_rfl)
def dqg : FD := { fn := 25, nb := 0, pre := ⟨[.ag [.i .i64 0, .i .i64 1, .i .i64 2, .i .i64 3, .fz 65 false 4, .fz 54 false 5, .fz 57 false 6], .sc (.s 7)], []⟩, post := ⟨[.sc (.i .i64 0)], []⟩, sh := false, cuts := [⟨2, [1, 2, 5], ⟨[.sc (.s 0), .sc (.pt 0 0), .sc (.i .i64 1)], [.bx [.i .i64 2, .i .i64 3, .i .i64 4, .i .i64 5, .fz 65 false 6, .fz 54 false 7, .fz 57 false 8]]⟩⟩] }
noncomputable def Lqg : Option Nat → Lv → Option Lv := Lim Try.prog [] dqg Try.f25
theorem eqg_i (a0 a1 a2 a3 : Int) (a4 a5 a6 : Rw) (a7 : ByteArray) : Lqg none [.i a0, .i a1, .i a2, .i a3, .l a4, .l a5, .l a6, .s a7] =
 Lqg (some 2) [.s a7, .i 0, .i a0, .i a1, .i a2, .i a3, .l a4, .l a5, .l a6] := (zd _ _).trans (by kernel_rfl)
theorem eqg_2 (a0 : ByteArray) (a1 a2 a3 a4 a5 : Int) (a6 a7 a8 : Rw) : Lqg (some 2) [.s a0, .i a1, .i a2, .i a3, .i a4, .i a5, .l a6, .l a7, .l a8] =
 cond (decide (a1 < (a6.length : Int))) (
 cond (inb a1 a6.length) (
 cond (Eng.seq ((rd a6 a1.toNat 0).str) a0) (
 some [.i a1]) (
 Lqg (some 2) [.s a0, .i (IntKind.i64.wrap (a1 + 1)), .i a2, .i a3, .i a4, .i a5, .l a6, .l a7, .l a8])) (
 none)) (
 some [.i (-1)]) := (zd _ _).trans (by kernel_rfl)
theorem kqg : SigOk Try.prog (dqg.sig (Lqg none)) ∧ (dqg.sig (Lqg none)).ok = true := zg zf (by kernel_rfl) (by kernel_rfl) (by kernel_rfl)
def dqi : FD := { fn := 49, nb := 0, pre := ⟨[.ag [.s 0, .fz 9 false 1], .sc (.i .i64 2)], []⟩, post := ⟨[.sc (.b 0)], []⟩, sh := false, cuts := [⟨4, [1, 2, 5], ⟨[.sc (.i .i64 0), .sc (.pt 0 0), .sc (.i .i64 1)], [.bx [.s 2, .fz 9 false 3]]⟩⟩] }
noncomputable def Lqi : Option Nat → Lv → Option Lv := Lim Try.prog [dq4.sig (Lq4 none)] dqi Try.f49
theorem eqi_i (a0 : ByteArray) (a1 : Rw) (a2 : Int) : Lqi none [.s a0, .l a1, .i a2] =
 (Lq4 none [.i a2]).bind fun y1 =>
 cond (!(g y1 0).bool) (
 some [.b false]) (
 cond (decide (2000 < (a0.size : Int))) (
 some [.b false]) (
 cond (decide (30 < (a1.length : Int))) (
 some [.b false]) (
 Lqi (some 4) [.i a2, .i 0, .s a0, .l a1]))) := (zd _ _).trans (by kernel_rfl)
theorem eqi_4 (a0 a1 : Int) (a2 : ByteArray) (a3 : Rw) : Lqi (some 4) [.i a0, .i a1, .s a2, .l a3] =
 cond (decide (a1 < (a3.length : Int))) (
 cond (inb a1 a3.length) (
 cond ((((rd a3 a1.toNat 0).str).size : Int) != a0) (
 some [.b false]) (
 cond (decide (0 < a1)) (
 cond (inb (IntKind.i64.wrap (a1 - 1)) a3.length) (
 cond (inb a1 a3.length) (
 cond (!slt ((rd a3 ((IntKind.i64.wrap (a1 - 1)).toNat) 0).str) ((rd a3 a1.toNat 0).str)) (
 some [.b false]) (
 Lqi (some 4) [.i a0, .i (IntKind.i64.wrap (a1 + 1)), .s a2, .l a3])) (
 none)) (
 none)) (
 Lqi (some 4) [.i a0, .i (IntKind.i64.wrap (a1 + 1)), .s a2, .l a3]))) (
 none)) (
 some [.b true]) := (zd _ _).trans (by kernel_rfl)
theorem kqi : SigOk Try.prog (dqi.sig (Lqi none)) ∧ (dqi.sig (Lqi none)).ok = true := zg (ze kq4 (by kernel_rfl) zf) (by kernel_rfl) (by kernel_rfl) (by kernel_rfl)
def dqj : FD := { fn := 50, nb := 0, pre := ⟨[.sc (.s 0), .sc (.i .i64 1)], []⟩, post := ⟨[.sc (.s 0)], []⟩, sh := false, cuts := [⟨5, [0, 1, 5, 6], ⟨[.sc (.s 0), .sc (.i .i64 1), .sc (.i .u64 2), .sc (.i .i64 3)], []⟩⟩, ⟨10, [1, 5, 7, 8], ⟨[.sc (.i .i64 0), .sc (.i .u64 1), .sc (.ow 0), .sc (.i .i64 2)], [.rw 5 true 3]⟩⟩] }
noncomputable def Lqj : Option Nat → Lv → Option Lv := Lim Try.prog [dq4.sig (Lq4 none)] dqj Try.f50
theorem eqj_i (a0 : ByteArray) (a1 : Int) : Lqj none [.s a0, .i a1] =
 (Lq4 none [.i a1]).bind fun y1 =>
 cond (!(g y1 0).bool) (
 some [.s (⟨#[]⟩ : ByteArray)]) (
 Lqj (some 5) [.s a0, .i a1, .i 14695981039346656037, .i 0]) := (zd _ _).trans (by kernel_rfl)
theorem eqj_5 (a0 : ByteArray) (a1 a2 a3 : Int) : Lqj (some 5) [.s a0, .i a1, .i a2, .i a3] =
 cond (decide (a3 < (a0.size : Int))) (
 cond (inb a3 a0.size) (
 Lqj (some 5) [.s a0, .i a1, .i (IntKind.u64.wrap ((IntKind.u64.wrap (BitVec.ofInt (IntKind.u64).bits a2 ^^^ BitVec.ofInt (IntKind.u64).bits (IntKind.u64.wrap (byteAt a0 a3.toNat))).toNat) * 1099511628211)), .i (IntKind.i64.wrap (a3 + 1))]) (
 none)) (
 Lqj (some 10) [.i a1, .i a2, .i 0, .l ([] : Rw)]) := (zd _ _).trans (by kernel_rfl)
theorem eqj_10 (a0 a1 a2 : Int) (a3 : Rw) : Lqj (some 10) [.i a0, .i a1, .i a2, .l a3] =
 cond (decide (a2 < a0)) (
 cond (decide (([[.i (IntKind.u8.wrap (a1.tmod 256))]] : Rw).length + a3.length ≤ most)) (
 Lqj (some 10) [.i a0, .i (IntKind.u64.wrap (a1.tdiv 256)), .i (IntKind.i64.wrap (a2 + 1)), .l (([[.i (IntKind.u8.wrap (a1.tmod 256))]] : Rw) ++ a3)]) (
 none)) (
 some [.s (bytesOf a3)]) := (zd _ _).trans (by kernel_rfl)
theorem kqj : SigOk Try.prog (dqj.sig (Lqj none)) ∧ (dqj.sig (Lqj none)).ok = true := zg (ze kq4 (by kernel_rfl) zf) (by kernel_rfl) (by kernel_rfl) (by kernel_rfl)
def dqz : FD := { fn := 51, nb := 0, pre := ⟨[.ag [.s 0, .fz 9 false 1], .sc (.i .i64 2)], []⟩, post := ⟨[.sc (.s 0)], []⟩, sh := false, cuts := [⟨5, [2, 5, 6], ⟨[.sc (.pt 0 0), .sc (.ow 1), .sc (.i .i64 0)], [.bx [.s 1, .fz 9 false 2], .rw 5 true 3]⟩⟩] }
noncomputable def Lqz : Option Nat → Lv → Option Lv := Lim Try.prog [dqi.sig (Lqi none)] dqz Try.f51
theorem eqz_i (a0 : ByteArray) (a1 : Rw) (a2 : Int) : Lqz none [.s a0, .l a1, .i a2] =
 (Lqi none [.s a0, .l a1, .i a2]).bind fun y1 =>
 cond (!(g y1 0).bool) (
 some [.s (⟨#[]⟩ : ByteArray)]) (
 Lqz (some 5) [.i 0, .s a0, .l a1, .l ([[.i (IntKind.u8.wrap (a1.length : Int))]] : Rw)]) := (zd _ _).trans (by kernel_rfl)
theorem eqz_5 (a0 : Int) (a1 : ByteArray) (a2 a3 : Rw) : Lqz (some 5) [.i a0, .s a1, .l a2, .l a3] =
 cond (decide (a0 < (a2.length : Int))) (
 cond (inb a0 a2.length) (
 cond (decide (a3.length + (rowsOf ((rd a2 a0.toNat 0).str)).length ≤ most)) (
 Lqz (some 5) [.i (IntKind.i64.wrap (a0 + 1)), .s a1, .l a2, .l (a3 ++ (rowsOf ((rd a2 a0.toNat 0).str)))]) (
 none)) (
 none)) (
 cond (decide (a3.length + (rowsOf a1).length ≤ most)) (
 some [.s (bytesOf (a3 ++ (rowsOf a1)))]) (
 none)) := (zd _ _).trans (by kernel_rfl)
theorem kqz : SigOk Try.prog (dqz.sig (Lqz none)) ∧ (dqz.sig (Lqz none)).ok = true := zg (ze kqi (by kernel_rfl) zf) (by kernel_rfl) (by kernel_rfl) (by kernel_rfl)
def dqb : FD := { fn := 23, nb := 0, pre := ⟨[.ag [.i .i64 0, .i .i64 1, .i .i64 2, .i .i64 3, .fz 65 false 4, .fz 54 false 5, .fz 57 false 6]], []⟩, post := ⟨[.sc (.b 0)], []⟩, sh := false, cuts := [⟨4, [1, 3, 4, 5], ⟨[.sc (.pt 0 0), .sc (.ow 1), .sc (.ow 2), .sc (.i .i64 0)], [.bx [.i .i64 1, .i .i64 2, .i .i64 3, .i .i64 4, .fz 65 false 5, .fz 54 false 6, .fz 57 false 7], .rw 4 true 8, .rw 3 true 9]⟩⟩, ⟨14, [1, 3, 4, 5, 6, 7], ⟨[.sc (.pt 0 0), .sc (.ow 1), .sc (.ow 2), .sc (.i .i64 0), .sc (.pt 3 0), .sc (.i .i64 1)], [.bx [.i .i64 2, .i .i64 3, .i .i64 4, .i .i64 5, .fz 65 false 6, .fz 54 false 7, .fz 57 false 8], .rw 4 true 9, .rw 3 true 10, .bx [.s 11, .i .i64 12, .s 13, .fz 9 false 14]]⟩⟩, ⟨20, [1, 8], ⟨[.sc (.pt 0 0), .sc (.i .i64 0)], [.bx [.i .i64 1, .i .i64 2, .i .i64 3, .i .i64 4, .fz 65 false 5, .fz 54 false 6, .fz 57 false 7]]⟩⟩, ⟨23, [1, 8, 9], ⟨[.sc (.pt 0 0), .sc (.i .i64 0), .sc (.i .i64 1)], [.bx [.i .i64 2, .i .i64 3, .i .i64 4, .i .i64 5, .fz 65 false 6, .fz 54 false 7, .fz 57 false 8]]⟩⟩] }
noncomputable def Lqb : Option Nat → Lv → Option Lv := Lim Try.prog [dql.sig (Lql none), dqg.sig (Lqg none), dqi.sig (Lqi none), dqj.sig (Lqj none), dqz.sig (Lqz none)] dqb Try.f23
theorem eqb_i (a0 a1 a2 a3 : Int) (a4 a5 a6 : Rw) : Lqb none [.i a0, .i a1, .i a2, .i a3, .l a4, .l a5, .l a6] =
 Lqb (some 4) [.i 0, .i a0, .i a1, .i a2, .i a3, .l a4, .l a5, .l a6, .l (List.replicate 601 ([.b false] : List C)), .l ([] : Rw)] := (zd _ _).trans (by kernel_rfl)
theorem eqb_4 (a0 a1 a2 a3 a4 : Int) (a5 a6 a7 a8 a9 : Rw) : Lqb (some 4) [.i a0, .i a1, .i a2, .i a3, .i a4, .l a5, .l a6, .l a7, .l a8, .l a9] =
 cond (decide (a0 < (a5.length : Int))) (
 cond (inb a0 a5.length) (
 (Lqi none [.s ((rd a5 a0.toNat 2).str), .l ((rd a5 a0.toNat 3).list), .i a1]).bind fun y1 =>
 cond (!(g y1 0).bool) (
 some [.b false]) (
 (Lqz none [.s ((rd a5 a0.toNat 2).str), .l ((rd a5 a0.toNat 3).list), .i a1]).bind fun y2 =>
 (Lqj none [.s ((g y2 0).str), .i a1]).bind fun y3 =>
 cond (!Eng.seq ((rd a5 a0.toNat 0).str) ((g y3 0).str)) (
 some [.b false]) (
 cond (decide (0 < a0)) (
 cond (inb (IntKind.i64.wrap (a0 - 1)) a5.length) (
 cond (!slt ((rd a5 ((IntKind.i64.wrap (a0 - 1)).toNat) 0).str) ((rd a5 a0.toNat 0).str)) (
 some [.b false]) (
 (Lql none [.i ((rd a5 a0.toNat 1).int), .i 1, .i a4]).bind fun y4 =>
 cond (!(g y4 0).bool) (
 some [.b false]) (
 cond (decide ((rd a5 a0.toNat 1).int ≤ 600)) (
 cond (inb ((rd a5 a0.toNat 1).int) a8.length) (
 cond ((rd a8 (((rd a5 a0.toNat 1).int).toNat) 0).bool) (
 some [.b false]) (
 cond (inb ((rd a5 a0.toNat 1).int) a8.length) (
 Lqb (some 4) [.i (IntKind.i64.wrap (a0 + 1)), .i a1, .i a2, .i a3, .i a4, .l a5, .l a6, .l a7, .l (wrs a8 (((rd a5 a0.toNat 1).int).toNat) 0 ([.b true] : List C)), .l a9]) (
 none))) (
 none)) (
 Lqb (some 14) [.i a0, .i 0, .i a1, .i a2, .i a3, .i a4, .l a5, .l a6, .l a7, .l a8, .l a9, .s ((rd a5 a0.toNat 0).str), .i ((rd a5 a0.toNat 1).int), .s ((rd a5 a0.toNat 2).str), .l ((rd a5 a0.toNat 3).list)])))) (
 none)) (
 (Lql none [.i ((rd a5 a0.toNat 1).int), .i 1, .i a4]).bind fun y5 =>
 cond (!(g y5 0).bool) (
 some [.b false]) (
 cond (decide ((rd a5 a0.toNat 1).int ≤ 600)) (
 cond (inb ((rd a5 a0.toNat 1).int) a8.length) (
 cond ((rd a8 (((rd a5 a0.toNat 1).int).toNat) 0).bool) (
 some [.b false]) (
 cond (inb ((rd a5 a0.toNat 1).int) a8.length) (
 Lqb (some 4) [.i (IntKind.i64.wrap (a0 + 1)), .i a1, .i a2, .i a3, .i a4, .l a5, .l a6, .l a7, .l (wrs a8 (((rd a5 a0.toNat 1).int).toNat) 0 ([.b true] : List C)), .l a9]) (
 none))) (
 none)) (
 Lqb (some 14) [.i a0, .i 0, .i a1, .i a2, .i a3, .i a4, .l a5, .l a6, .l a7, .l a8, .l a9, .s ((rd a5 a0.toNat 0).str), .i ((rd a5 a0.toNat 1).int), .s ((rd a5 a0.toNat 2).str), .l ((rd a5 a0.toNat 3).list)])))))) (
 none)) (
 Lqb (some 20) [.i 0, .i a1, .i a2, .i a3, .i a4, .l a5, .l a6, .l a7]) := (zd _ _).trans (by kernel_rfl)
theorem eqb_14 (a0 a1 a2 a3 a4 a5 : Int) (a6 a7 a8 a9 a10 : Rw) (a11 : ByteArray) (a12 : Int) (a13 : ByteArray) (a14 : Rw) : Lqb (some 14) [.i a0, .i a1, .i a2, .i a3, .i a4, .i a5, .l a6, .l a7, .l a8, .l a9, .l a10, .s a11, .i a12, .s a13, .l a14] =
 cond (decide (a1 < (a10.length : Int))) (
 cond (inb a1 a10.length) (
 cond ((rd a10 a1.toNat 0).int == a12) (
 some [.b false]) (
 Lqb (some 14) [.i a0, .i (IntKind.i64.wrap (a1 + 1)), .i a2, .i a3, .i a4, .i a5, .l a6, .l a7, .l a8, .l a9, .l a10, .s a11, .i a12, .s a13, .l a14])) (
 none)) (
 cond (decide (a10.length + ([[.i a12]] : Rw).length ≤ most)) (
 Lqb (some 4) [.i (IntKind.i64.wrap (a0 + 1)), .i a2, .i a3, .i a4, .i a5, .l a6, .l a7, .l a8, .l a9, .l (a10 ++ ([[.i a12]] : Rw))]) (
 none)) := (zd _ _).trans (by kernel_rfl)
theorem eqb_20 (a0 a1 a2 a3 a4 : Int) (a5 a6 a7 : Rw) : Lqb (some 20) [.i a0, .i a1, .i a2, .i a3, .i a4, .l a5, .l a6, .l a7] =
 cond (decide (a0 < (a5.length : Int))) (
 Lqb (some 23) [.i a0, .i 0, .i a1, .i a2, .i a3, .i a4, .l a5, .l a6, .l a7]) (
 some [.b true]) := (zd _ _).trans (by kernel_rfl)
theorem eqb_23 (a0 a1 a2 a3 a4 a5 : Int) (a6 a7 a8 : Rw) : Lqb (some 23) [.i a0, .i a1, .i a2, .i a3, .i a4, .i a5, .l a6, .l a7, .l a8] =
 cond (inb a0 a6.length) (
 cond (decide (a1 < (((rd a6 a0.toNat 3).list).length : Int))) (
 cond (inb a0 a6.length) (
 cond (inb a1 (((rd a6 a0.toNat 3).list).length)) (
 (Lqg none [.i a2, .i a3, .i a4, .i a5, .l a6, .l a7, .l a8, .s ((rd ((rd a6 a0.toNat 3).list) a1.toNat 0).str)]).bind fun y1 =>
 cond (decide ((g y1 0).int < 0)) (
 some [.b false]) (
 cond (inb ((g y1 0).int) a6.length) (
 cond (inb a0 a6.length) (
 cond (decide ((rd a6 a0.toNat 1).int ≤ (rd a6 (((g y1 0).int).toNat) 1).int)) (
 some [.b false]) (
 Lqb (some 23) [.i a0, .i (IntKind.i64.wrap (a1 + 1)), .i a2, .i a3, .i a4, .i a5, .l a6, .l a7, .l a8])) (
 none)) (
 none))) (
 none)) (
 none)) (
 Lqb (some 20) [.i (IntKind.i64.wrap (a0 + 1)), .i a2, .i a3, .i a4, .i a5, .l a6, .l a7, .l a8])) (
 none) := (zd _ _).trans (by kernel_rfl)
theorem kqb : SigOk Try.prog (dqb.sig (Lqb none)) ∧ (dqb.sig (Lqb none)).ok = true := zg (ze kql (by kernel_rfl) (ze kqg (by kernel_rfl) (ze kqi (by kernel_rfl) (ze kqj (by kernel_rfl) (ze kqz (by kernel_rfl) zf))))) (by kernel_rfl) (by kernel_rfl) (by kernel_rfl)
def dq0 : FD := { fn := 24, nb := 0, pre := ⟨[.sc (.s 0)], []⟩, post := ⟨[.sc (.b 0)], []⟩, sh := false, cuts := [⟨2, [0, 3], ⟨[.sc (.s 0), .sc (.i .i64 1)], []⟩⟩] }
noncomputable def Lq0 : Option Nat → Lv → Option Lv := Lim Try.prog [] dq0 Try.f24
theorem eq0_i (a0 : ByteArray) : Lq0 none [.s a0] =
 Lq0 (some 2) [.s a0, .i 0] := (zd _ _).trans (by kernel_rfl)
theorem eq0_2 (a0 : ByteArray) (a1 : Int) : Lq0 (some 2) [.s a0, .i a1] =
 cond (decide (a1 < (a0.size : Int))) (
 cond (inb a1 a0.size) (
 cond (decide ((byteAt a0 a1.toNat) < 33)) (
 some [.b false]) (
 cond (inb a1 a0.size) (
 cond (decide (126 < (byteAt a0 a1.toNat))) (
 some [.b false]) (
 Lq0 (some 2) [.s a0, .i (IntKind.i64.wrap (a1 + 1))])) (
 none))) (
 none)) (
 cond (decide (1 ≤ (a0.size : Int))) (
 some [.b (decide ((a0.size : Int) ≤ 40))]) (
 some [.b false])) := (zd _ _).trans (by kernel_rfl)
theorem kq0 : SigOk Try.prog (dq0.sig (Lq0 none)) ∧ (dq0.sig (Lq0 none)).ok = true := zg zf (by kernel_rfl) (by kernel_rfl) (by kernel_rfl)
def dqc : FD := { fn := 7, nb := 0, pre := ⟨[.ag [.i .i64 0, .i .i64 1, .i .i64 2, .i .i64 3, .fz 65 false 4, .fz 54 false 5, .fz 57 false 6]], []⟩, post := ⟨[.sc (.b 0)], []⟩, sh := false, cuts := [⟨6, [1, 3], ⟨[.sc (.pt 0 0), .sc (.i .i64 0)], [.bx [.i .i64 1, .i .i64 2, .i .i64 3, .i .i64 4, .fz 65 false 5, .fz 54 false 6, .fz 57 false 7]]⟩⟩, ⟨11, [1, 4], ⟨[.sc (.pt 0 0), .sc (.i .i64 0)], [.bx [.i .i64 1, .i .i64 2, .i .i64 3, .i .i64 4, .fz 65 false 5, .fz 54 false 6, .fz 57 false 7]]⟩⟩] }
noncomputable def Lqc : Option Nat → Lv → Option Lv := Lim Try.prog [dq4.sig (Lq4 none), dql.sig (Lql none), dqg.sig (Lqg none), dqb.sig (Lqb none), dq0.sig (Lq0 none)] dqc Try.f7
theorem eqc_i (a0 a1 a2 a3 : Int) (a4 a5 a6 : Rw) : Lqc none [.i a0, .i a1, .i a2, .i a3, .l a4, .l a5, .l a6] =
 (Lq4 none [.i a0]).bind fun y1 =>
 cond (!(g y1 0).bool) (
 some [.b false]) (
 (Lql none [.i a1, .i 0, .i 1000000000]).bind fun y2 =>
 cond (!(g y2 0).bool) (
 some [.b false]) (
 (Lql none [.i a2, .i 0, .i 1000000000]).bind fun y3 =>
 cond (!(g y3 0).bool) (
 some [.b false]) (
 (Lql none [.i a3, .i 0, .i 1000000000]).bind fun y4 =>
 cond (!(g y4 0).bool) (
 some [.b false]) (
 cond (decide (600 < (a4.length : Int))) (
 some [.b false]) (
 cond (decide (100 < (a5.length : Int))) (
 some [.b false]) (
 cond (decide (200 < (a6.length : Int))) (
 some [.b false]) (
 (Lqb none [.i a0, .i a1, .i a2, .i a3, .l a4, .l a5, .l a6]).bind fun y5 =>
 cond (!(g y5 0).bool) (
 some [.b false]) (
 Lqc (some 6) [.i 0, .i a0, .i a1, .i a2, .i a3, .l a4, .l a5, .l a6])))))))) := (zd _ _).trans (by kernel_rfl)
theorem eqc_6 (a0 a1 a2 a3 a4 : Int) (a5 a6 a7 : Rw) : Lqc (some 6) [.i a0, .i a1, .i a2, .i a3, .i a4, .l a5, .l a6, .l a7] =
 cond (decide (a0 < (a6.length : Int))) (
 cond (inb a0 a6.length) (
 (Lq0 none [.s ((rd a6 a0.toNat 0).str)]).bind fun y1 =>
 cond (!(g y1 0).bool) (
 some [.b false]) (
 cond (decide (0 < a0)) (
 cond (inb (IntKind.i64.wrap (a0 - 1)) a6.length) (
 cond (inb a0 a6.length) (
 cond (!slt ((rd a6 ((IntKind.i64.wrap (a0 - 1)).toNat) 0).str) ((rd a6 a0.toNat 0).str)) (
 some [.b false]) (
 cond (inb a0 a6.length) (
 (Lqg none [.i a1, .i a2, .i a3, .i a4, .l a5, .l a6, .l a7, .s ((rd a6 a0.toNat 1).str)]).bind fun y2 =>
 cond (decide ((g y2 0).int < 0)) (
 some [.b false]) (
 Lqc (some 6) [.i (IntKind.i64.wrap (a0 + 1)), .i a1, .i a2, .i a3, .i a4, .l a5, .l a6, .l a7])) (
 none))) (
 none)) (
 none)) (
 cond (inb a0 a6.length) (
 (Lqg none [.i a1, .i a2, .i a3, .i a4, .l a5, .l a6, .l a7, .s ((rd a6 a0.toNat 1).str)]).bind fun y3 =>
 cond (decide ((g y3 0).int < 0)) (
 some [.b false]) (
 Lqc (some 6) [.i (IntKind.i64.wrap (a0 + 1)), .i a1, .i a2, .i a3, .i a4, .l a5, .l a6, .l a7])) (
 none)))) (
 none)) (
 Lqc (some 11) [.i 0, .i a1, .i a2, .i a3, .i a4, .l a5, .l a6, .l a7]) := (zd _ _).trans (by kernel_rfl)
theorem eqc_11 (a0 a1 a2 a3 a4 : Int) (a5 a6 a7 : Rw) : Lqc (some 11) [.i a0, .i a1, .i a2, .i a3, .i a4, .l a5, .l a6, .l a7] =
 cond (decide (a0 < (a7.length : Int))) (
 cond (inb a0 a7.length) (
 (Lql none [.i ((rd a7 a0.toNat 0).int), .i 1, .i a3]).bind fun y1 =>
 cond (!(g y1 0).bool) (
 some [.b false]) (
 cond (decide (0 < a0)) (
 cond (inb (IntKind.i64.wrap (a0 - 1)) a7.length) (
 cond (decide ((rd a7 a0.toNat 0).int ≤ (rd a7 ((IntKind.i64.wrap (a0 - 1)).toNat) 0).int)) (
 some [.b false]) (
 (Lqg none [.i a1, .i a2, .i a3, .i a4, .l a5, .l a6, .l a7, .s ((rd a7 a0.toNat 1).str)]).bind fun y2 =>
 cond (decide ((g y2 0).int < 0)) (
 some [.b false]) (
 cond (decide ((rd a7 a0.toNat 2).int ≤ a2)) (
 some [.b false]) (
 cond (decide ((IntKind.i64.wrap (a2 + 100000)) < (rd a7 a0.toNat 2).int)) (
 some [.b false]) (
 Lqc (some 11) [.i (IntKind.i64.wrap (a0 + 1)), .i a1, .i a2, .i a3, .i a4, .l a5, .l a6, .l a7]))))) (
 none)) (
 (Lqg none [.i a1, .i a2, .i a3, .i a4, .l a5, .l a6, .l a7, .s ((rd a7 a0.toNat 1).str)]).bind fun y3 =>
 cond (decide ((g y3 0).int < 0)) (
 some [.b false]) (
 cond (decide ((rd a7 a0.toNat 2).int ≤ a2)) (
 some [.b false]) (
 cond (decide ((IntKind.i64.wrap (a2 + 100000)) < (rd a7 a0.toNat 2).int)) (
 some [.b false]) (
 Lqc (some 11) [.i (IntKind.i64.wrap (a0 + 1)), .i a1, .i a2, .i a3, .i a4, .l a5, .l a6, .l a7])))))) (
 none)) (
 some [.b true]) := (zd _ _).trans (by kernel_rfl)
theorem kqc : SigOk Try.prog (dqc.sig (Lqc none)) ∧ (dqc.sig (Lqc none)).ok = true := zg (ze kq4 (by kernel_rfl) (ze kql (by kernel_rfl) (ze kqg (by kernel_rfl) (ze kqb (by kernel_rfl) (ze kq0 (by kernel_rfl) zf))))) (by kernel_rfl) (by kernel_rfl) (by kernel_rfl)
def dq1 : FD := { fn := 60, nb := 0, pre := ⟨[.sc (.fz 9 false 0), .sc (.s 1)], []⟩, post := ⟨[.sc (.b 0)], []⟩, sh := false, cuts := [⟨2, [0, 1, 5], ⟨[.sc (.fz 9 false 0), .sc (.s 1), .sc (.i .i64 2)], []⟩⟩] }
noncomputable def Lq1 : Option Nat → Lv → Option Lv := Lim Try.prog [] dq1 Try.f60
theorem eq1_i (a0 : Rw) (a1 : ByteArray) : Lq1 none [.l a0, .s a1] =
 Lq1 (some 2) [.l a0, .s a1, .i 0] := (zd _ _).trans (by kernel_rfl)
theorem eq1_2 (a0 : Rw) (a1 : ByteArray) (a2 : Int) : Lq1 (some 2) [.l a0, .s a1, .i a2] =
 cond (decide (a2 < (a0.length : Int))) (
 cond (inb a2 a0.length) (
 cond (Eng.seq ((rd a0 a2.toNat 0).str) a1) (
 some [.b true]) (
 Lq1 (some 2) [.l a0, .s a1, .i (IntKind.i64.wrap (a2 + 1))])) (
 none)) (
 some [.b false]) := (zd _ _).trans (by kernel_rfl)
theorem kq1 : SigOk Try.prog (dq1.sig (Lq1 none)) ∧ (dq1.sig (Lq1 none)).ok = true := zg zf (by kernel_rfl) (by kernel_rfl) (by kernel_rfl)
def dqd : FD := { fn := 42, nb := 0, pre := ⟨[.ag [.i .i64 0, .i .i64 1, .i .i64 2, .i .i64 3, .fz 65 false 4, .fz 54 false 5, .fz 57 false 6], .ag [.i .i64 7, .fz 9 false 8, .fz 9 false 9, .i .i64 10, .i .i64 11, .i .i64 12]], []⟩, post := ⟨[.sc (.b 0)], []⟩, sh := false, cuts := [⟨4, [2, 3, 5], ⟨[.sc (.pt 0 0), .sc (.pt 1 0), .sc (.i .i64 0)], [.bx [.i .i64 1, .i .i64 2, .i .i64 3, .i .i64 4, .fz 65 false 5, .fz 54 false 6, .fz 57 false 7], .bx [.i .i64 8, .fz 9 false 9, .fz 9 false 10, .i .i64 11, .i .i64 12, .i .i64 13]]⟩⟩, ⟨9, [2, 3, 6], ⟨[.sc (.pt 0 0), .sc (.pt 1 0), .sc (.i .i64 0)], [.bx [.i .i64 1, .i .i64 2, .i .i64 3, .i .i64 4, .fz 65 false 5, .fz 54 false 6, .fz 57 false 7], .bx [.i .i64 8, .fz 9 false 9, .fz 9 false 10, .i .i64 11, .i .i64 12, .i .i64 13]]⟩⟩] }
noncomputable def Lqd : Option Nat → Lv → Option Lv := Lim Try.prog [dql.sig (Lql none), dq1.sig (Lq1 none)] dqd Try.f42
theorem eqd_i (a0 a1 a2 a3 : Int) (a4 a5 a6 : Rw) (a7 : Int) (a8 a9 : Rw) (a10 a11 a12 : Int) : Lqd none [.i a0, .i a1, .i a2, .i a3, .l a4, .l a5, .l a6, .i a7, .l a8, .l a9, .i a10, .i a11, .i a12] =
 cond (decide (a7 < 0)) (
 some [.b false]) (
 cond (decide (2 < a7)) (
 some [.b false]) (
 (Lql none [.i a12, .i 0, .i 1000000000]).bind fun y1 =>
 cond (!(g y1 0).bool) (
 some [.b false]) (
 cond (decide (23200 < (a8.length : Int))) (
 some [.b false]) (
 cond (decide (600 < (a9.length : Int))) (
 some [.b false]) (
 Lqd (some 4) [.i 0, .i a0, .i a1, .i a2, .i a3, .l a4, .l a5, .l a6, .i a7, .l a8, .l a9, .i a10, .i a11, .i a12]))))) := (zd _ _).trans (by kernel_rfl)
theorem eqd_4 (a0 a1 a2 a3 a4 : Int) (a5 a6 a7 : Rw) (a8 : Int) (a9 a10 : Rw) (a11 a12 a13 : Int) : Lqd (some 4) [.i a0, .i a1, .i a2, .i a3, .i a4, .l a5, .l a6, .l a7, .i a8, .l a9, .l a10, .i a11, .i a12, .i a13] =
 cond (decide (a0 < (a9.length : Int))) (
 cond (inb a0 a9.length) (
 cond ((((rd a9 a0.toNat 0).str).size : Int) != a1) (
 some [.b false]) (
 Lqd (some 4) [.i (IntKind.i64.wrap (a0 + 1)), .i a1, .i a2, .i a3, .i a4, .l a5, .l a6, .l a7, .i a8, .l a9, .l a10, .i a11, .i a12, .i a13])) (
 none)) (
 Lqd (some 9) [.i 0, .i a1, .i a2, .i a3, .i a4, .l a5, .l a6, .l a7, .i a8, .l a9, .l a10, .i a11, .i a12, .i a13]) := (zd _ _).trans (by kernel_rfl)
theorem eqd_9 (a0 a1 a2 a3 a4 : Int) (a5 a6 a7 : Rw) (a8 : Int) (a9 a10 : Rw) (a11 a12 a13 : Int) : Lqd (some 9) [.i a0, .i a1, .i a2, .i a3, .i a4, .l a5, .l a6, .l a7, .i a8, .l a9, .l a10, .i a11, .i a12, .i a13] =
 cond (decide (a0 < (a10.length : Int))) (
 cond (inb a0 a10.length) (
 cond ((((rd a10 a0.toNat 0).str).size : Int) != a1) (
 some [.b false]) (
 cond (decide (0 ≤ a0)) (
 cond (decide (a0 ≤ (a10.length : Int))) (
 cond (inb a0 a10.length) (
 (Lq1 none [.l (Eng.sub a10 0 a0.toNat), .s ((rd a10 a0.toNat 0).str)]).bind fun y1 =>
 cond ((g y1 0).bool) (
 some [.b false]) (
 Lqd (some 9) [.i (IntKind.i64.wrap (a0 + 1)), .i a1, .i a2, .i a3, .i a4, .l a5, .l a6, .l a7, .i a8, .l a9, .l a10, .i a11, .i a12, .i a13])) (
 none)) (
 none)) (
 none))) (
 none)) (
 cond (a8 == 0) (
 cond ((a9.length : Int) == 0) (
 cond ((a10.length : Int) == 0) (
 cond (a11 == 0) (
 some [.b (a12 == 0)]) (
 some [.b false])) (
 some [.b false])) (
 some [.b false])) (
 (Lql none [.i a11, .i 0, .i a4]).bind fun y2 =>
 cond (!(g y2 0).bool) (
 some [.b false]) (
 (Lql none [.i a12, .i 1, .i (IntKind.i64.wrap (a11 + 1))]).bind fun y3 =>
 cond (!(g y3 0).bool) (
 some [.b false]) (
 cond (a8 == 2) (
 some [.b true]) (
 some [.b (a12 == (IntKind.i64.wrap (a11 + 1)))]))))) := (zd _ _).trans (by kernel_rfl)
theorem kqd : SigOk Try.prog (dqd.sig (Lqd none)) ∧ (dqd.sig (Lqd none)).ok = true := zg (ze kql (by kernel_rfl) (ze kq1 (by kernel_rfl) zf)) (by kernel_rfl) (by kernel_rfl) (by kernel_rfl)
def dq8 : FD := { fn := 14, nb := 0, pre := ⟨[.ag [.i .i64 0, .i .i64 1, .i .i64 2, .i .i64 3, .fz 65 false 4, .fz 54 false 5, .fz 57 false 6], .ag [.i .i64 7, .fz 9 false 8, .fz 9 false 9, .i .i64 10, .i .i64 11, .i .i64 12]], []⟩, post := ⟨[.sc (.b 0)], []⟩, sh := false, cuts := [] }
noncomputable def Lq8 : Option Nat → Lv → Option Lv := Lim Try.prog [dqc.sig (Lqc none), dqd.sig (Lqd none)] dq8 Try.f14
theorem eq8_i (a0 a1 a2 a3 : Int) (a4 a5 a6 : Rw) (a7 : Int) (a8 a9 : Rw) (a10 a11 a12 : Int) : Lq8 none [.i a0, .i a1, .i a2, .i a3, .l a4, .l a5, .l a6, .i a7, .l a8, .l a9, .i a10, .i a11, .i a12] =
 (Lqc none [.i a0, .i a1, .i a2, .i a3, .l a4, .l a5, .l a6]).bind fun y1 =>
 cond ((g y1 0).bool) (
 (Lqd none [.i a0, .i a1, .i a2, .i a3, .l a4, .l a5, .l a6, .i a7, .l a8, .l a9, .i a10, .i a11, .i a12]).bind fun y2 =>
 some [.b ((g y2 0).bool)]) (
 some [.b false]) := (zd _ _).trans (by kernel_rfl)
theorem kq8 : SigOk Try.prog (dq8.sig (Lq8 none)) ∧ (dq8.sig (Lq8 none)).ok = true := zg (ze kqc (by kernel_rfl) (ze kqd (by kernel_rfl) zf)) (by kernel_rfl) (by kernel_rfl) (by kernel_rfl)
def dqr : FD := { fn := 43, nb := 0, pre := ⟨[.sc (.fz 9 false 0)], []⟩, post := ⟨[.sc (.ow 0)], [.rw 9 true 0]⟩, sh := false, cuts := [⟨3, [0, 3, 4], ⟨[.sc (.fz 9 false 0), .sc (.ow 0), .sc (.i .i64 1)], [.rw 9 true 2]⟩⟩] }
noncomputable def Lqr : Option Nat → Lv → Option Lv := Lim Try.prog [] dqr Try.f43
theorem eqr_i (a0 : Rw) : Lqr none [.l a0] =
 cond (decide (0 ≤ (a0.length : Int))) (
 cond ((a0.length : Int) == (a0.length : Int)) (
 cond (decide ((a0.length : Int) ≤ (most : Int))) (
 Lqr (some 3) [.l a0, .i 0, .l (List.replicate (a0.length : Int).toNat ([.s (⟨#[]⟩ : ByteArray)] : List C))]) (
 none)) (
 none)) (
 none) := (zd _ _).trans (by kernel_rfl)
theorem eqr_3 (a0 : Rw) (a1 : Int) (a2 : Rw) : Lqr (some 3) [.l a0, .i a1, .l a2] =
 cond (decide (a1 < (a0.length : Int))) (
 cond (inb a1 a0.length) (
 cond (inb a1 a2.length) (
 Lqr (some 3) [.l a0, .i (IntKind.i64.wrap (a1 + 1)), .l (wrs a2 a1.toNat 0 ([.s ((rd a0 a1.toNat 0).str)] : List C))]) (
 none)) (
 none)) (
 some [.l a2]) := (zd _ _).trans (by kernel_rfl)
theorem kqr : SigOk Try.prog (dqr.sig (Lqr none)) ∧ (dqr.sig (Lqr none)).ok = true := zg zf (by kernel_rfl) (by kernel_rfl) (by kernel_rfl)
def dq9 : FD := { fn := 15, nb := 0, pre := ⟨[.ag [.i .i64 0, .fz 9 false 1, .fz 9 false 2, .i .i64 3, .i .i64 4, .i .i64 5]], []⟩, post := ⟨[.ag [.i .i64 0, .ow 0, .ow 1, .i .i64 1, .i .i64 2, .i .i64 3]], [.rw 9 true 4, .rw 9 true 5]⟩, sh := false, cuts := [] }
noncomputable def Lq9 : Option Nat → Lv → Option Lv := Lim Try.prog [dqr.sig (Lqr none)] dq9 Try.f15
theorem eq9_i (a0 : Int) (a1 a2 : Rw) (a3 a4 a5 : Int) : Lq9 none [.i a0, .l a1, .l a2, .i a3, .i a4, .i a5] =
 (Lqr none [.l a1]).bind fun y1 =>
 (Lqr none [.l a2]).bind fun y2 =>
 some [.i a0, .i a3, .i a4, .i a5, .l ((g y1 0).list), .l ((g y2 0).list)] := (zd _ _).trans (by kernel_rfl)
theorem kq9 : SigOk Try.prog (dq9.sig (Lq9 none)) ∧ (dq9.sig (Lq9 none)).ok = true := zg (ze kqr (by kernel_rfl) zf) (by kernel_rfl) (by kernel_rfl) (by kernel_rfl)
end KV
end
section
set_option maxRecDepth 100000
namespace KV
open Go Go.Eng Go.Proofs
def dq5 : FD := { fn := 29, nb := 0, pre := ⟨[.sc (.i .i64 0)], []⟩, post := ⟨[.sc (.b 0)], []⟩, sh := false, cuts := [] }
noncomputable def Lq5 : Option Nat → Lv → Option Lv := Lim Try.prog [] dq5 Try.f29
theorem eq5_i (a0 : Int) : Lq5 none [.i a0] =
 cond (decide (1 ≤ a0)) (
 some [.b (decide (a0 ≤ 8))]) (
 some [.b false]) := (zd _ _).trans (by kernel_rfl)
theorem kq5 : SigOk Try.prog (dq5.sig (Lq5 none)) ∧ (dq5.sig (Lq5 none)).ok = true := zg zf (by kernel_rfl) (by kernel_rfl) (by kernel_rfl)
def dq6 : FD := { fn := 30, nb := 0, pre := ⟨[.sc (.i .i64 0)], []⟩, post := ⟨[.sc (.b 0)], []⟩, sh := false, cuts := [] }
noncomputable def Lq6 : Option Nat → Lv → Option Lv := Lim Try.prog [] dq6 Try.f30
theorem eq6_i (a0 : Int) : Lq6 none [.i a0] =
 cond (decide (0 ≤ a0)) (
 some [.b (decide (a0 ≤ 1000000000))]) (
 some [.b false]) := (zd _ _).trans (by kernel_rfl)
theorem kq6 : SigOk Try.prog (dq6.sig (Lq6 none)) ∧ (dq6.sig (Lq6 none)).ok = true := zg zf (by kernel_rfl) (by kernel_rfl) (by kernel_rfl)
def dqn : FD := { fn := 31, nb := 0, pre := ⟨[.ag [.s 0, .fz 9 false 1], .sc (.i .i64 2)], []⟩, post := ⟨[.sc (.b 0)], []⟩, sh := false, cuts := [⟨4, [1, 2, 18, 19, 20], ⟨[.sc (.i .i64 0), .sc (.pt 0 0), .sc (.fz 9 false 1), .sc (.i .i64 2), .sc (.i .i64 3)], [.bx [.s 4, .fz 9 false 5]]⟩⟩] }
noncomputable def Lqn : Option Nat → Lv → Option Lv := Lim Try.prog [dq5.sig (Lq5 none)] dqn Try.f31
theorem eqn_i (a0 : ByteArray) (a1 : Rw) (a2 : Int) : Lqn none [.s a0, .l a1, .i a2] =
 cond (decide (2000 < (a0.size : Int))) (
 some [.b false]) (
 cond (decide (30 < (a1.length : Int))) (
 some [.b false]) (
 Lqn (some 4) [.i a2, .l a1, .i (a1.length : Int), .i 0, .s a0, .l a1])) := (zd _ _).trans (by kernel_rfl)
theorem eqn_4 (a0 : Int) (a1 : Rw) (a2 a3 : Int) (a4 : ByteArray) (a5 : Rw) : Lqn (some 4) [.i a0, .l a1, .i a2, .i a3, .s a4, .l a5] =
 cond (decide (a3 < a2)) (
 cond (inb a3 a1.length) (
 cond ((((rd a1 a3.toNat 0).str).size : Int) != a0) (
 some [.b false]) (
 cond (decide (0 < a3)) (
 cond (inb (IntKind.i64.wrap (a3 - 1)) a5.length) (
 cond (!slt ((rd a5 ((IntKind.i64.wrap (a3 - 1)).toNat) 0).str) ((rd a1 a3.toNat 0).str)) (
 some [.b false]) (
 Lqn (some 4) [.i a0, .l a1, .i a2, .i (IntKind.i64.wrap (a3 + 1)), .s a4, .l a5])) (
 none)) (
 Lqn (some 4) [.i a0, .l a1, .i a2, .i (IntKind.i64.wrap (a3 + 1)), .s a4, .l a5]))) (
 none)) (
 (Lq5 none [.i a0]).bind fun y1 =>
 some [.b ((g y1 0).bool)]) := (zd _ _).trans (by kernel_rfl)
theorem kqn : SigOk Try.prog (dqn.sig (Lqn none)) ∧ (dqn.sig (Lqn none)).ok = true := zg (ze kq5 (by kernel_rfl) zf) (by kernel_rfl) (by kernel_rfl) (by kernel_rfl)
def dqh : FD := { fn := 32, nb := 0, pre := ⟨[.sc (.s 0), .sc (.i .i64 1)], []⟩, post := ⟨[.sc (.s 0)], []⟩, sh := false, cuts := [⟨5, [0, 1, 5, 13, 14], ⟨[.sc (.s 0), .sc (.i .i64 1), .sc (.i .u64 2), .sc (.i .i64 3), .sc (.i .i64 4)], []⟩⟩, ⟨12, [5, 7, 8], ⟨[.sc (.i .u64 0), .sc (.ow 0), .sc (.i .i64 1)], [.rw 5 true 2]⟩⟩] }
noncomputable def Lqh : Option Nat → Lv → Option Lv := Lim Try.prog [dq5.sig (Lq5 none)] dqh Try.f32
theorem eqh_i (a0 : ByteArray) (a1 : Int) : Lqh none [.s a0, .i a1] =
 (Lq5 none [.i a1]).bind fun y1 =>
 cond (!(g y1 0).bool) (
 some [.s (⟨#[]⟩ : ByteArray)]) (
 Lqh (some 5) [.s a0, .i a1, .i 14695981039346656037, .i (a0.size : Int), .i 0]) := (zd _ _).trans (by kernel_rfl)
theorem eqh_5 (a0 : ByteArray) (a1 a2 a3 a4 : Int) : Lqh (some 5) [.s a0, .i a1, .i a2, .i a3, .i a4] =
 cond (decide (a4 < a3)) (
 cond (inb a4 a0.size) (
 Lqh (some 5) [.s a0, .i a1, .i (IntKind.u64.wrap ((IntKind.u64.wrap (BitVec.ofInt (IntKind.u64).bits a2 ^^^ BitVec.ofInt (IntKind.u64).bits (IntKind.u64.wrap (byteAt a0 a4.toNat))).toNat) * 1099511628211)), .i a3, .i (IntKind.i64.wrap (a4 + 1))]) (
 none)) (
 cond (decide (0 ≤ a1)) (
 cond (a1 == a1) (
 cond (decide (a1 ≤ (most : Int))) (
 Lqh (some 12) [.i a2, .i (IntKind.i64.wrap (a1 - 1)), .l (List.replicate a1.toNat ([.i 0] : List C))]) (
 none)) (
 none)) (
 none)) := (zd _ _).trans (by kernel_rfl)
theorem eqh_12 (a0 a1 : Int) (a2 : Rw) : Lqh (some 12) [.i a0, .i a1, .l a2] =
 cond (decide (0 ≤ a1)) (
 cond (inb a1 a2.length) (
 Lqh (some 12) [.i (a0.fdiv (2 ^ 8)), .i (IntKind.i64.wrap (a1 - 1)), .l (wrs a2 a1.toNat 0 ([.i (IntKind.u8.wrap a0)] : List C))]) (
 none)) (
 some [.s (bytesOf a2)]) := (zd _ _).trans (by kernel_rfl)
theorem kqh : SigOk Try.prog (dqh.sig (Lqh none)) ∧ (dqh.sig (Lqh none)).ok = true := zg (ze kq5 (by kernel_rfl) zf) (by kernel_rfl) (by kernel_rfl) (by kernel_rfl)
def dqq : FD := { fn := 33, nb := 0, pre := ⟨[.ag [.s 0, .fz 9 false 1]], []⟩, post := ⟨[.sc (.s 0)], []⟩, sh := false, cuts := [⟨3, [1, 3, 13, 14, 15], ⟨[.sc (.pt 0 0), .sc (.s 0), .sc (.fz 9 false 1), .sc (.i .i64 2), .sc (.i .i64 3)], [.bx [.s 4, .fz 9 false 5]]⟩⟩] }
noncomputable def Lqq : Option Nat → Lv → Option Lv := Lim Try.prog [] dqq Try.f33
theorem eqq_i (a0 : ByteArray) (a1 : Rw) : Lqq none [.s a0, .l a1] =
 Lqq (some 3) [.s (bytesOf ([[.i (IntKind.u8.wrap (a1.length : Int))]] : Rw)), .l a1, .i (a1.length : Int), .i 0, .s a0, .l a1] := (zd _ _).trans (by kernel_rfl)
theorem eqq_3 (a0 : ByteArray) (a1 : Rw) (a2 a3 : Int) (a4 : ByteArray) (a5 : Rw) : Lqq (some 3) [.s a0, .l a1, .i a2, .i a3, .s a4, .l a5] =
 cond (decide (a3 < a2)) (
 cond (inb a3 a1.length) (
 cond (decide (a0.size + ((rd a1 a3.toNat 0).str).size ≤ most)) (
 Lqq (some 3) [.s (a0 ++ ((rd a1 a3.toNat 0).str)), .l a1, .i a2, .i (IntKind.i64.wrap (a3 + 1)), .s a4, .l a5]) (
 none)) (
 none)) (
 cond (decide (a0.size + a4.size ≤ most)) (
 some [.s (a0 ++ a4)]) (
 none)) := (zd _ _).trans (by kernel_rfl)
theorem kqq : SigOk Try.prog (dqq.sig (Lqq none)) ∧ (dqq.sig (Lqq none)).ok = true := zg zf (by kernel_rfl) (by kernel_rfl) (by kernel_rfl)
def dqbs : FD := { fn := 56, nb := 0, pre := ⟨[.sc (.i .i64 0), .sc (.pt 0 0), .sc (.pt 2 0)], [.rb [.pt 1 0], .rb [.i .i64 1, .i .i64 2, .i .i64 3, .i .i64 4, .fz 65 false 5, .fz 54 false 6, .fz 57 false 7], .rb [.s 8]]⟩, post := ⟨[.sc (.b 0)], []⟩, sh := false, cuts := [] }
noncomputable def Lqbs : Option Nat → Lv → Option Lv := Lim Try.prog [] dqbs Try.f56
theorem eqbs_i (a0 a1 a2 a3 a4 : Int) (a5 a6 a7 : Rw) (a8 : ByteArray) : Lqbs none [.i a0, .i a1, .i a2, .i a3, .i a4, .l a5, .l a6, .l a7, .s a8] =
 cond (inb a0 a5.length) (
 some [.b (!slt ((rd a5 a0.toNat 0).str) a8)]) (
 none) := (zd _ _).trans (by kernel_rfl)
theorem kqbs : SigOk Try.prog (dqbs.sig (Lqbs none)) ∧ (dqbs.sig (Lqbs none)).ok = true := zg zf (by kernel_rfl) (by kernel_rfl) (by kernel_rfl)
def dq2 : FD := { fn := 55, nb := 0, pre := ⟨[.sc (.i .i64 0), .sc (.fn 56 [(0, 0), (2, 0)])], [.rb [.pt 1 0], .rb [.i .i64 1, .i .i64 2, .i .i64 3, .i .i64 4, .fz 65 false 5, .fz 54 false 6, .fz 57 false 7], .rb [.s 8]]⟩, post := ⟨[.sc (.i .i64 0)], []⟩, sh := false, cuts := [⟨2, [1, 5, 6], ⟨[.sc (.fn 56 [(0, 0), (1, 0)]), .sc (.i .i64 0), .sc (.i .i64 1)], [.rb [.pt 2 0], .rb [.s 2], .rb [.i .i64 3, .i .i64 4, .i .i64 5, .i .i64 6, .fz 65 false 7, .fz 54 false 8, .fz 57 false 9]]⟩⟩] }
noncomputable def Lq2 : Option Nat → Lv → Option Lv := Lim Try.prog [dqbs.sig (Lqbs none)] dq2 Try.f55
theorem eq2_i (a0 a1 a2 a3 a4 : Int) (a5 a6 a7 : Rw) (a8 : ByteArray) : Lq2 none [.i a0, .i a1, .i a2, .i a3, .i a4, .l a5, .l a6, .l a7, .s a8] =
 Lq2 (some 2) [.i 0, .i a0, .s a8, .i a1, .i a2, .i a3, .i a4, .l a5, .l a6, .l a7] := (zd _ _).trans (by kernel_rfl)
theorem eq2_2 (a0 a1 : Int) (a2 : ByteArray) (a3 a4 a5 a6 : Int) (a7 a8 a9 : Rw) : Lq2 (some 2) [.i a0, .i a1, .s a2, .i a3, .i a4, .i a5, .i a6, .l a7, .l a8, .l a9] =
 cond (decide (a0 < a1)) (
 (Lqbs none [.i (IntKind.i64.wrap ((IntKind.u64.wrap (IntKind.i64.wrap (a0 + a1))).fdiv (2 ^ 1))), .i a3, .i a4, .i a5, .i a6, .l a7, .l a8, .l a9, .s a2]).bind fun y1 =>
 cond (!(g y1 0).bool) (
 Lq2 (some 2) [.i (IntKind.i64.wrap ((IntKind.i64.wrap ((IntKind.u64.wrap (IntKind.i64.wrap (a0 + a1))).fdiv (2 ^ 1))) + 1)), .i a1, .s a2, .i a3, .i a4, .i a5, .i a6, .l a7, .l a8, .l a9]) (
 Lq2 (some 2) [.i a0, .i (IntKind.i64.wrap ((IntKind.u64.wrap (IntKind.i64.wrap (a0 + a1))).fdiv (2 ^ 1))), .s a2, .i a3, .i a4, .i a5, .i a6, .l a7, .l a8, .l a9])) (
 some [.i a0]) := (zd _ _).trans (by kernel_rfl)
theorem kq2 : SigOk Try.prog (dq2.sig (Lq2 none)) ∧ (dq2.sig (Lq2 none)).ok = true := zg (ze kqbs (by kernel_rfl) zf) (by kernel_rfl) (by kernel_rfl) (by kernel_rfl)
def dqba : FD := { fn := 34, nb := 0, pre := ⟨[.sc (.pt 0 0), .sc (.s 0)], [.rb [.i .i64 1, .i .i64 2, .i .i64 3, .i .i64 4, .fz 65 false 5, .fz 54 false 6, .fz 57 false 7]]⟩, post := ⟨[.tu [(false, [.i .i64 0]), (false, [.b 1])]], []⟩, sh := false, cuts := [] }
noncomputable def Lqba : Option Nat → Lv → Option Lv := Lim Try.prog [dq2.sig (Lq2 none)] dqba Try.f34
theorem eqba_i (a0 : ByteArray) (a1 a2 a3 a4 : Int) (a5 a6 a7 : Rw) : Lqba none [.s a0, .i a1, .i a2, .i a3, .i a4, .l a5, .l a6, .l a7] =
 (Lq2 none [.i (a5.length : Int), .i a1, .i a2, .i a3, .i a4, .l a5, .l a6, .l a7, .s a0]).bind fun y1 =>
 cond (decide ((g y1 0).int < (a5.length : Int))) (
 cond (inb ((g y1 0).int) a5.length) (
 some [.i ((g y1 0).int), .b (Eng.seq ((rd a5 (((g y1 0).int).toNat) 0).str) a0)]) (
 none)) (
 some [.i ((g y1 0).int), .b false]) := (zd _ _).trans (by kernel_rfl)
theorem kqba : SigOk Try.prog (dqba.sig (Lqba none)) ∧ (dqba.sig (Lqba none)).ok = true := zg (ze kq2 (by kernel_rfl) zf) (by kernel_rfl) (by kernel_rfl) (by kernel_rfl)
def dq3 : FD := { fn := 35, nb := 0, pre := ⟨[.sc (.s 0)], []⟩, post := ⟨[.sc (.b 0)], []⟩, sh := false, cuts := [⟨2, [0, 5, 6], ⟨[.sc (.s 0), .sc (.i .i64 1), .sc (.i .i64 2)], []⟩⟩] }
noncomputable def Lq3 : Option Nat → Lv → Option Lv := Lim Try.prog [] dq3 Try.f35
theorem eq3_i (a0 : ByteArray) : Lq3 none [.s a0] =
 Lq3 (some 2) [.s a0, .i (a0.size : Int), .i 0] := (zd _ _).trans (by kernel_rfl)
theorem eq3_2 (a0 : ByteArray) (a1 a2 : Int) : Lq3 (some 2) [.s a0, .i a1, .i a2] =
 cond (decide (a2 < a1)) (
 cond (inb a2 a0.size) (
 cond (decide ((byteAt a0 a2.toNat) < 33)) (
 some [.b false]) (
 cond (inb a2 a0.size) (
 cond (decide (126 < (byteAt a0 a2.toNat))) (
 some [.b false]) (
 Lq3 (some 2) [.s a0, .i a1, .i (IntKind.i64.wrap (a2 + 1))])) (
 none))) (
 none)) (
 cond (decide (1 ≤ (a0.size : Int))) (
 some [.b (decide ((a0.size : Int) ≤ 40))]) (
 some [.b false])) := (zd _ _).trans (by kernel_rfl)
theorem kq3 : SigOk Try.prog (dq3.sig (Lq3 none)) ∧ (dq3.sig (Lq3 none)).ok = true := zg zf (by kernel_rfl) (by kernel_rfl) (by kernel_rfl)
def dqa : FD := { fn := 9, nb := 0, pre := ⟨[.ag [.i .i64 0, .i .i64 1, .i .i64 2, .i .i64 3, .fz 65 false 4, .fz 54 false 5, .fz 57 false 6]], []⟩, post := ⟨[.sc (.b 0)], []⟩, sh := false, cuts := [⟨5, [1, 3, 62, 63, 64], ⟨[.sc (.pt 0 0), .sc (.mp 1), .sc (.fz 65 false 0), .sc (.i .i64 1), .sc (.i .i64 2)], [.bx [.i .i64 3, .i .i64 4, .i .i64 5, .i .i64 6, .fz 65 false 7, .fz 54 false 8, .fz 57 false 9], .mp 3 4 10]⟩⟩, ⟨12, [1, 125, 126, 127], ⟨[.sc (.pt 0 0), .sc (.fz 65 false 0), .sc (.i .i64 1), .sc (.i .i64 2)], [.bx [.i .i64 3, .i .i64 4, .i .i64 5, .i .i64 6, .fz 65 false 7, .fz 54 false 8, .fz 57 false 9]]⟩⟩, ⟨15, [1, 7, 125, 126, 127, 133, 134, 135], ⟨[.sc (.pt 0 0), .sc (.pt 1 0), .sc (.fz 65 false 0), .sc (.i .i64 1), .sc (.i .i64 2), .sc (.fz 9 false 3), .sc (.i .i64 4), .sc (.i .i64 5)], [.bx [.i .i64 6, .i .i64 7, .i .i64 8, .i .i64 9, .fz 65 false 10, .fz 54 false 11, .fz 57 false 12], .bx [.s 13, .i .i64 14, .s 15, .fz 9 false 16]]⟩⟩, ⟨23, [1, 160, 161, 162], ⟨[.sc (.pt 0 0), .sc (.fz 54 false 0), .sc (.i .i64 1), .sc (.i .i64 2)], [.bx [.i .i64 3, .i .i64 4, .i .i64 5, .i .i64 6, .fz 65 false 7, .fz 54 false 8, .fz 57 false 9]]⟩⟩, ⟨30, [1, 199, 200, 201], ⟨[.sc (.pt 0 0), .sc (.fz 57 false 0), .sc (.i .i64 1), .sc (.i .i64 2)], [.bx [.i .i64 3, .i .i64 4, .i .i64 5, .i .i64 6, .fz 65 false 7, .fz 54 false 8, .fz 57 false 9]]⟩⟩] }
noncomputable def Lqa : Option Nat → Lv → Option Lv := Lim Try.prog [dq5.sig (Lq5 none), dq6.sig (Lq6 none), dqn.sig (Lqn none), dqh.sig (Lqh none), dqq.sig (Lqq none), dqba.sig (Lqba none), dq3.sig (Lq3 none)] dqa Try.f9
theorem eqa_i (a0 a1 a2 a3 : Int) (a4 a5 a6 : Rw) : Lqa none [.i a0, .i a1, .i a2, .i a3, .l a4, .l a5, .l a6] =
 (Lq5 none [.i a0]).bind fun y1 =>
 cond (!(g y1 0).bool) (
 some [.b false]) (
 (Lq6 none [.i a1]).bind fun y2 =>
 cond (!(g y2 0).bool) (
 some [.b false]) (
 (Lq6 none [.i a2]).bind fun y3 =>
 cond (!(g y3 0).bool) (
 some [.b false]) (
 (Lq6 none [.i a3]).bind fun y4 =>
 cond (!(g y4 0).bool) (
 some [.b false]) (
 cond (decide (600 < (a4.length : Int))) (
 some [.b false]) (
 cond (decide (100 < (a5.length : Int))) (
 some [.b false]) (
 cond (decide (200 < (a6.length : Int))) (
 some [.b false]) (
 Lqa (some 5) [.l a4, .i (a4.length : Int), .i 0, .i a0, .i a1, .i a2, .i a3, .l a4, .l a5, .l a6, .m ([])]))))))) := (zd _ _).trans (by kernel_rfl)
theorem eqa_5 (a0 : Rw) (a1 a2 a3 a4 a5 a6 : Int) (a7 a8 a9 : Rw) (a10 : List (C × C)) : Lqa (some 5) [.l a0, .i a1, .i a2, .i a3, .i a4, .i a5, .i a6, .l a7, .l a8, .l a9, .m a10] =
 cond (decide (a2 < a1)) (
 cond (inb a2 a0.length) (
 cond (decide (0 < a2)) (
 cond (inb (IntKind.i64.wrap (a2 - 1)) a7.length) (
 cond (!slt ((rd a7 ((IntKind.i64.wrap (a2 - 1)).toNat) 0).str) ((rd a0 a2.toNat 0).str)) (
 some [.b false]) (
 (Lqn none [.s ((rd a0 a2.toNat 2).str), .l ((rd a0 a2.toNat 3).list), .i a3]).bind fun y1 =>
 cond (!(g y1 0).bool) (
 some [.b false]) (
 (Lqq none [.s ((rd a0 a2.toNat 2).str), .l ((rd a0 a2.toNat 3).list)]).bind fun y2 =>
 (Lqh none [.s ((g y2 0).str), .i a3]).bind fun y3 =>
 cond (!Eng.seq ((rd a0 a2.toNat 0).str) ((g y3 0).str)) (
 some [.b false]) (
 cond (decide ((rd a0 a2.toNat 1).int < 1)) (
 some [.b false]) (
 cond (decide (a6 < (rd a0 a2.toNat 1).int)) (
 some [.b false]) (
 cond (((mget (.i .i64) (.i ((rd a0 a2.toNat 1).int)) a10).getD (.b false)).bool) (
 some [.b false]) (
 Lqa (some 5) [.l a0, .i a1, .i (IntKind.i64.wrap (a2 + 1)), .i a3, .i a4, .i a5, .i a6, .l a7, .l a8, .l a9, .m (mput (.i .i64) (.i ((rd a0 a2.toNat 1).int)) (.b true) a10)]))))))) (
 none)) (
 (Lqn none [.s ((rd a0 a2.toNat 2).str), .l ((rd a0 a2.toNat 3).list), .i a3]).bind fun y4 =>
 cond (!(g y4 0).bool) (
 some [.b false]) (
 (Lqq none [.s ((rd a0 a2.toNat 2).str), .l ((rd a0 a2.toNat 3).list)]).bind fun y5 =>
 (Lqh none [.s ((g y5 0).str), .i a3]).bind fun y6 =>
 cond (!Eng.seq ((rd a0 a2.toNat 0).str) ((g y6 0).str)) (
 some [.b false]) (
 cond (decide ((rd a0 a2.toNat 1).int < 1)) (
 some [.b false]) (
 cond (decide (a6 < (rd a0 a2.toNat 1).int)) (
 some [.b false]) (
 cond (((mget (.i .i64) (.i ((rd a0 a2.toNat 1).int)) a10).getD (.b false)).bool) (
 some [.b false]) (
 Lqa (some 5) [.l a0, .i a1, .i (IntKind.i64.wrap (a2 + 1)), .i a3, .i a4, .i a5, .i a6, .l a7, .l a8, .l a9, .m (mput (.i .i64) (.i ((rd a0 a2.toNat 1).int)) (.b true) a10)]))))))) (
 none)) (
 Lqa (some 12) [.l a7, .i (a7.length : Int), .i 0, .i a3, .i a4, .i a5, .i a6, .l a7, .l a8, .l a9]) := (zd _ _).trans (by kernel_rfl)
theorem eqa_12 (a0 : Rw) (a1 a2 a3 a4 a5 a6 : Int) (a7 a8 a9 : Rw) : Lqa (some 12) [.l a0, .i a1, .i a2, .i a3, .i a4, .i a5, .i a6, .l a7, .l a8, .l a9] =
 cond (decide (a2 < a1)) (
 cond (inb a2 a0.length) (
 Lqa (some 15) [.l a0, .i a1, .i a2, .l ((rd a0 a2.toNat 3).list), .i (((rd a0 a2.toNat 3).list).length : Int), .i 0, .i a3, .i a4, .i a5, .i a6, .l a7, .l a8, .l a9, .s ((rd a0 a2.toNat 0).str), .i ((rd a0 a2.toNat 1).int), .s ((rd a0 a2.toNat 2).str), .l ((rd a0 a2.toNat 3).list)]) (
 none)) (
 Lqa (some 23) [.l a8, .i (a8.length : Int), .i 0, .i a3, .i a4, .i a5, .i a6, .l a7, .l a8, .l a9]) := (zd _ _).trans (by kernel_rfl)
theorem eqa_15 (a0 : Rw) (a1 a2 : Int) (a3 : Rw) (a4 a5 a6 a7 a8 a9 : Int) (a10 a11 a12 : Rw) (a13 : ByteArray) (a14 : Int) (a15 : ByteArray) (a16 : Rw) : Lqa (some 15) [.l a0, .i a1, .i a2, .l a3, .i a4, .i a5, .i a6, .i a7, .i a8, .i a9, .l a10, .l a11, .l a12, .s a13, .i a14, .s a15, .l a16] =
 cond (decide (a5 < a4)) (
 cond (inb a5 a3.length) (
 (Lqba none [.s ((rd a3 a5.toNat 0).str), .i a6, .i a7, .i a8, .i a9, .l a10, .l a11, .l a12]).bind fun y1 =>
 cond (!(g y1 1).bool) (
 some [.b false]) (
 cond (inb ((g y1 0).int) a10.length) (
 cond (decide (a14 ≤ (rd a10 (((g y1 0).int).toNat) 1).int)) (
 some [.b false]) (
 Lqa (some 15) [.l a0, .i a1, .i a2, .l a3, .i a4, .i (IntKind.i64.wrap (a5 + 1)), .i a6, .i a7, .i a8, .i a9, .l a10, .l a11, .l a12, .s a13, .i a14, .s a15, .l a16])) (
 none))) (
 none)) (
 Lqa (some 12) [.l a0, .i a1, .i (IntKind.i64.wrap (a2 + 1)), .i a6, .i a7, .i a8, .i a9, .l a10, .l a11, .l a12]) := (zd _ _).trans (by kernel_rfl)
theorem eqa_23 (a0 : Rw) (a1 a2 a3 a4 a5 a6 : Int) (a7 a8 a9 : Rw) : Lqa (some 23) [.l a0, .i a1, .i a2, .i a3, .i a4, .i a5, .i a6, .l a7, .l a8, .l a9] =
 cond (decide (a2 < a1)) (
 cond (inb a2 a0.length) (
 (Lqba none [.s ((rd a0 a2.toNat 1).str), .i a3, .i a4, .i a5, .i a6, .l a7, .l a8, .l a9]).bind fun y1 =>
 cond (!(g y1 1).bool) (
 some [.b false]) (
 (Lq3 none [.s ((rd a0 a2.toNat 0).str)]).bind fun y2 =>
 cond (!(g y2 0).bool) (
 some [.b false]) (
 cond (decide (0 < a2)) (
 cond (inb (IntKind.i64.wrap (a2 - 1)) a8.length) (
 cond (!slt ((rd a8 ((IntKind.i64.wrap (a2 - 1)).toNat) 0).str) ((rd a0 a2.toNat 0).str)) (
 some [.b false]) (
 Lqa (some 23) [.l a0, .i a1, .i (IntKind.i64.wrap (a2 + 1)), .i a3, .i a4, .i a5, .i a6, .l a7, .l a8, .l a9])) (
 none)) (
 Lqa (some 23) [.l a0, .i a1, .i (IntKind.i64.wrap (a2 + 1)), .i a3, .i a4, .i a5, .i a6, .l a7, .l a8, .l a9])))) (
 none)) (
 Lqa (some 30) [.l a9, .i (a9.length : Int), .i 0, .i a3, .i a4, .i a5, .i a6, .l a7, .l a8, .l a9]) := (zd _ _).trans (by kernel_rfl)
theorem eqa_30 (a0 : Rw) (a1 a2 a3 a4 a5 a6 : Int) (a7 a8 a9 : Rw) : Lqa (some 30) [.l a0, .i a1, .i a2, .i a3, .i a4, .i a5, .i a6, .l a7, .l a8, .l a9] =
 cond (decide (a2 < a1)) (
 cond (inb a2 a0.length) (
 (Lqba none [.s ((rd a0 a2.toNat 1).str), .i a3, .i a4, .i a5, .i a6, .l a7, .l a8, .l a9]).bind fun y1 =>
 cond (!(g y1 1).bool) (
 some [.b false]) (
 cond (decide ((rd a0 a2.toNat 0).int < 1)) (
 some [.b false]) (
 cond (decide (a5 < (rd a0 a2.toNat 0).int)) (
 some [.b false]) (
 cond (decide (0 < a2)) (
 cond (inb (IntKind.i64.wrap (a2 - 1)) a9.length) (
 cond (decide ((rd a0 a2.toNat 0).int ≤ (rd a9 ((IntKind.i64.wrap (a2 - 1)).toNat) 0).int)) (
 some [.b false]) (
 cond (decide ((rd a0 a2.toNat 2).int ≤ a4)) (
 some [.b false]) (
 cond (decide ((IntKind.i64.wrap (a4 + 100000)) < (rd a0 a2.toNat 2).int)) (
 some [.b false]) (
 Lqa (some 30) [.l a0, .i a1, .i (IntKind.i64.wrap (a2 + 1)), .i a3, .i a4, .i a5, .i a6, .l a7, .l a8, .l a9])))) (
 none)) (
 cond (decide ((rd a0 a2.toNat 2).int ≤ a4)) (
 some [.b false]) (
 cond (decide ((IntKind.i64.wrap (a4 + 100000)) < (rd a0 a2.toNat 2).int)) (
 some [.b false]) (
 Lqa (some 30) [.l a0, .i a1, .i (IntKind.i64.wrap (a2 + 1)), .i a3, .i a4, .i a5, .i a6, .l a7, .l a8, .l a9]))))))) (
 none)) (
 some [.b true]) := (zd _ _).trans (by kernel_rfl)
theorem kqa : SigOk Try.prog (dqa.sig (Lqa none)) ∧ (dqa.sig (Lqa none)).ok = true := zg (ze kq5 (by kernel_rfl) (ze kq6 (by kernel_rfl) (ze kqn (by kernel_rfl) (ze kqh (by kernel_rfl) (ze kqq (by kernel_rfl) (ze kqba (by kernel_rfl) (ze kq3 (by kernel_rfl) zf))))))) (by kernel_rfl) (by kernel_rfl) (by kernel_rfl)
def dqe : FD := { fn := 44, nb := 0, pre := ⟨[.sc (.pt 0 0), .ag [.i .i64 0, .fz 9 false 1, .fz 9 false 2, .i .i64 3, .i .i64 4, .i .i64 5]], [.rb [.i .i64 6, .i .i64 7, .i .i64 8, .i .i64 9, .fz 65 false 10, .fz 54 false 11, .fz 57 false 12]]⟩, post := ⟨[.sc (.b 0)], []⟩, sh := false, cuts := [⟨5, [0, 3, 5, 38, 39, 40], ⟨[.sc (.pt 0 0), .sc (.pt 1 0), .sc (.mp 2), .sc (.fz 9 false 0), .sc (.i .i64 1), .sc (.i .i64 2)], [.rb [.i .i64 3, .i .i64 4, .i .i64 5, .i .i64 6, .fz 65 false 7, .fz 54 false 8, .fz 57 false 9], .bx [.i .i64 10, .fz 9 false 11, .fz 9 false 12, .i .i64 13, .i .i64 14, .i .i64 15], .mp 9 4 16]⟩⟩, ⟨12, [0, 3, 60, 61, 62], ⟨[.sc (.pt 0 0), .sc (.pt 1 0), .sc (.fz 9 false 0), .sc (.i .i64 1), .sc (.i .i64 2)], [.rb [.i .i64 3, .i .i64 4, .i .i64 5, .i .i64 6, .fz 65 false 7, .fz 54 false 8, .fz 57 false 9], .bx [.i .i64 10, .fz 9 false 11, .fz 9 false 12, .i .i64 13, .i .i64 14, .i .i64 15]]⟩⟩] }
noncomputable def Lqe : Option Nat → Lv → Option Lv := Lim Try.prog [dq6.sig (Lq6 none)] dqe Try.f44
theorem eqe_i (a0 : Int) (a1 a2 : Rw) (a3 a4 a5 a6 a7 a8 a9 : Int) (a10 a11 a12 : Rw) : Lqe none [.i a0, .l a1, .l a2, .i a3, .i a4, .i a5, .i a6, .i a7, .i a8, .i a9, .l a10, .l a11, .l a12] =
 cond (decide (a0 < 0)) (
 some [.b false]) (
 cond (decide (2 < a0)) (
 some [.b false]) (
 (Lq6 none [.i a5]).bind fun y1 =>
 cond (!(g y1 0).bool) (
 some [.b false]) (
 cond (decide (23200 < (a1.length : Int))) (
 some [.b false]) (
 cond (decide (600 < (a2.length : Int))) (
 some [.b false]) (
 Lqe (some 5) [.l a2, .i (a2.length : Int), .i 0, .i a6, .i a7, .i a8, .i a9, .l a10, .l a11, .l a12, .i a0, .l a1, .l a2, .i a3, .i a4, .i a5, .m ([])]))))) := (zd _ _).trans (by kernel_rfl)
theorem eqe_5 (a0 : Rw) (a1 a2 a3 a4 a5 a6 : Int) (a7 a8 a9 : Rw) (a10 : Int) (a11 a12 : Rw) (a13 a14 a15 : Int) (a16 : List (C × C)) : Lqe (some 5) [.l a0, .i a1, .i a2, .i a3, .i a4, .i a5, .i a6, .l a7, .l a8, .l a9, .i a10, .l a11, .l a12, .i a13, .i a14, .i a15, .m a16] =
 cond (decide (a2 < a1)) (
 cond (inb a2 a0.length) (
 cond ((((rd a0 a2.toNat 0).str).size : Int) != a3) (
 some [.b false]) (
 cond (((mget .s (.s ((rd a0 a2.toNat 0).str)) a16).getD (.b false)).bool) (
 some [.b false]) (
 Lqe (some 5) [.l a0, .i a1, .i (IntKind.i64.wrap (a2 + 1)), .i a3, .i a4, .i a5, .i a6, .l a7, .l a8, .l a9, .i a10, .l a11, .l a12, .i a13, .i a14, .i a15, .m (mput .s (.s ((rd a0 a2.toNat 0).str)) (.b true) a16)]))) (
 none)) (
 Lqe (some 12) [.l a11, .i (a11.length : Int), .i 0, .i a3, .i a4, .i a5, .i a6, .l a7, .l a8, .l a9, .i a10, .l a11, .l a12, .i a13, .i a14, .i a15]) := (zd _ _).trans (by kernel_rfl)
theorem eqe_12 (a0 : Rw) (a1 a2 a3 a4 a5 a6 : Int) (a7 a8 a9 : Rw) (a10 : Int) (a11 a12 : Rw) (a13 a14 a15 : Int) : Lqe (some 12) [.l a0, .i a1, .i a2, .i a3, .i a4, .i a5, .i a6, .l a7, .l a8, .l a9, .i a10, .l a11, .l a12, .i a13, .i a14, .i a15] =
 cond (decide (a2 < a1)) (
 cond (inb a2 a0.length) (
 cond ((((rd a0 a2.toNat 0).str).size : Int) != a3) (
 some [.b false]) (
 Lqe (some 12) [.l a0, .i a1, .i (IntKind.i64.wrap (a2 + 1)), .i a3, .i a4, .i a5, .i a6, .l a7, .l a8, .l a9, .i a10, .l a11, .l a12, .i a13, .i a14, .i a15])) (
 none)) (
 cond (a10 == 0) (
 cond ((IntKind.i64.wrap ((a11.length : Int) + (a12.length : Int))) == 0) (
 cond (a13 == 0) (
 some [.b (a14 == 0)]) (
 some [.b false])) (
 some [.b false])) (
 cond (decide (0 ≤ a13)) (
 cond (decide (a13 ≤ a6)) (
 cond (decide (1 ≤ a14)) (
 cond (decide (a14 ≤ (IntKind.i64.wrap (a13 + 1)))) (
 cond (a10 != 1) (
 some [.b true]) (
 some [.b (a14 == (IntKind.i64.wrap (a13 + 1)))])) (
 some [.b false])) (
 some [.b false])) (
 some [.b false])) (
 some [.b false]))) := (zd _ _).trans (by kernel_rfl)
theorem kqe : SigOk Try.prog (dqe.sig (Lqe none)) ∧ (dqe.sig (Lqe none)).ok = true := zg (ze kq6 (by kernel_rfl) zf) (by kernel_rfl) (by kernel_rfl) (by kernel_rfl)
def dqbi : FD := { fn := 16, nb := 0, pre := ⟨[.ag [.i .i64 0, .i .i64 1, .i .i64 2, .i .i64 3, .fz 65 false 4, .fz 54 false 5, .fz 57 false 6], .ag [.i .i64 7, .fz 9 false 8, .fz 9 false 9, .i .i64 10, .i .i64 11, .i .i64 12]], []⟩, post := ⟨[.sc (.b 0)], []⟩, sh := false, cuts := [] }
noncomputable def Lqbi : Option Nat → Lv → Option Lv := Lim Try.prog [dqa.sig (Lqa none), dqe.sig (Lqe none)] dqbi Try.f16
theorem eqbi_i (a0 a1 a2 a3 : Int) (a4 a5 a6 : Rw) (a7 : Int) (a8 a9 : Rw) (a10 a11 a12 : Int) : Lqbi none [.i a0, .i a1, .i a2, .i a3, .l a4, .l a5, .l a6, .i a7, .l a8, .l a9, .i a10, .i a11, .i a12] =
 (Lqa none [.i a0, .i a1, .i a2, .i a3, .l a4, .l a5, .l a6]).bind fun y1 =>
 cond ((g y1 0).bool) (
 (Lqe none [.i a7, .l a8, .l a9, .i a10, .i a11, .i a12, .i a0, .i a1, .i a2, .i a3, .l a4, .l a5, .l a6]).bind fun y2 =>
 some [.b ((g y2 0).bool)]) (
 some [.b false]) := (zd _ _).trans (by kernel_rfl)
theorem kqbi : SigOk Try.prog (dqbi.sig (Lqbi none)) ∧ (dqbi.sig (Lqbi none)).ok = true := zg (ze kqa (by kernel_rfl) (ze kqe (by kernel_rfl) zf)) (by kernel_rfl) (by kernel_rfl) (by kernel_rfl)
def dqbj : FD := { fn := 17, nb := 0, pre := ⟨[.ag [.i .i64 0, .fz 9 false 1, .fz 9 false 2, .i .i64 3, .i .i64 4, .i .i64 5], .ag [.i .i64 6, .fz 9 false 7, .fz 9 false 8, .i .i64 9, .i .i64 10, .i .i64 11]], []⟩, post := ⟨[.sc (.b 0)], []⟩, sh := false, cuts := [] }
noncomputable def Lqbj : Option Nat → Lv → Option Lv := Lim Try.prog [dqk.sig (Lqk none)] dqbj Try.f17
theorem eqbj_i (a0 : Int) (a1 a2 : Rw) (a3 a4 a5 a6 : Int) (a7 a8 : Rw) (a9 a10 a11 : Int) : Lqbj none [.i a0, .l a1, .l a2, .i a3, .i a4, .i a5, .i a6, .l a7, .l a8, .i a9, .i a10, .i a11] =
 cond (a0 != a6) (
 some [.b false]) (
 (Lqk none [.l a1, .l a7]).bind fun y1 =>
 cond (!(g y1 0).bool) (
 some [.b false]) (
 (Lqk none [.l a2, .l a8]).bind fun y2 =>
 cond (!(g y2 0).bool) (
 some [.b false]) (
 cond (a3 != a9) (
 some [.b false]) (
 cond (a4 != a10) (
 some [.b false]) (
 cond (a5 != a11) (
 some [.b false]) (
 some [.b true])))))) := (zd _ _).trans (by kernel_rfl)
theorem kqbj : SigOk Try.prog (dqbj.sig (Lqbj none)) ∧ (dqbj.sig (Lqbj none)).ok = true := zg (ze kqk (by kernel_rfl) zf) (by kernel_rfl) (by kernel_rfl) (by kernel_rfl)
def dqbt : FD := { fn := 5, nb := 0, pre := ⟨[.ag [.i .i64 0, .i .i64 1, .i .i64 2, .i .i64 3, .fz 82 false 4, .fz 84 false 5, .fz 86 false 6], .ag [.i .i64 7, .fz 9 false 8, .fz 9 false 9, .i .i64 10, .i .i64 11, .i .i64 12]], []⟩, post := ⟨[.sc (.b 0)], []⟩, sh := false, cuts := [] }
noncomputable def Lqbt : Option Nat → Lv → Option Lv := Lim Try.prog [dqbf.sig (Lqbf none), dq7.sig (Lq7 none), dqbc.sig (Lqbc none), dqbh.sig (Lqbh none), dq8.sig (Lq8 none), dq9.sig (Lq9 none), dqbi.sig (Lqbi none), dqbj.sig (Lqbj none)] dqbt Try.f5
theorem eqbt_i (a0 a1 a2 a3 : Int) (a4 a5 a6 : Rw) (a7 : Int) (a8 a9 : Rw) (a10 a11 a12 : Int) : Lqbt none [.i a0, .i a1, .i a2, .i a3, .l a4, .l a5, .l a6, .i a7, .l a8, .l a9, .i a10, .i a11, .i a12] =
 (Lqbf none [.i a0, .i a1, .i a2, .i a3, .l a4, .l a5, .l a6, .i 1048576]).bind fun y1 =>
 cond (decide ((g y1 0).int < 0)) (
 some [.b true]) (
 (Lqbh none [.i a7, .l a8, .l a9, .i a10, .i a11, .i a12, .i ((g y1 0).int)]).bind fun y2 =>
 cond (decide ((g y2 0).int < 0)) (
 some [.b true]) (
 (Lq7 none [.i a0, .i a1, .i a2, .i a3, .l a4, .l a5, .l a6]).bind fun y3 =>
 (Lq9 none [.i a7, .l a8, .l a9, .i a10, .i a11, .i a12]).bind fun y4 =>
 (Lq8 none [.i ((g y3 0).int), .i ((g y3 1).int), .i ((g y3 2).int), .i ((g y3 3).int), .l ((g y3 4).list), .l ((g y3 5).list), .l ((g y3 6).list), .i ((g y4 0).int), .l ((g y4 4).list), .l ((g y4 5).list), .i ((g y4 1).int), .i ((g y4 2).int), .i ((g y4 3).int)]).bind fun y5 =>
 (Lq7 none [.i a0, .i a1, .i a2, .i a3, .l a4, .l a5, .l a6]).bind fun y6 =>
 (Lq9 none [.i a7, .l a8, .l a9, .i a10, .i a11, .i a12]).bind fun y7 =>
 (Lqbi none [.i ((g y6 0).int), .i ((g y6 1).int), .i ((g y6 2).int), .i ((g y6 3).int), .l ((g y6 4).list), .l ((g y6 5).list), .l ((g y6 6).list), .i ((g y7 0).int), .l ((g y7 4).list), .l ((g y7 5).list), .i ((g y7 1).int), .i ((g y7 2).int), .i ((g y7 3).int)]).bind fun y8 =>
 cond (!((g y8 0).bool == (g y5 0).bool)) (
 some [.b false]) (
 (Lq7 none [.i a0, .i a1, .i a2, .i a3, .l a4, .l a5, .l a6]).bind fun y9 =>
 (Lqbc none [.i ((g y6 0).int), .i ((g y6 1).int), .i ((g y6 2).int), .i ((g y6 3).int), .l ((g y6 4).list), .l ((g y6 5).list), .l ((g y6 6).list), .i ((g y9 0).int), .i ((g y9 1).int), .i ((g y9 2).int), .i ((g y9 3).int), .l ((g y9 4).list), .l ((g y9 5).list), .l ((g y9 6).list)]).bind fun y10 =>
 cond (!(g y10 0).bool) (
 some [.b false]) (
 (Lq9 none [.i a7, .l a8, .l a9, .i a10, .i a11, .i a12]).bind fun y11 =>
 (Lqbj none [.i ((g y7 0).int), .l ((g y7 4).list), .l ((g y7 5).list), .i ((g y7 1).int), .i ((g y7 2).int), .i ((g y7 3).int), .i ((g y11 0).int), .l ((g y11 4).list), .l ((g y11 5).list), .i ((g y11 1).int), .i ((g y11 2).int), .i ((g y11 3).int)]).bind fun y12 =>
 cond (!(g y12 0).bool) (
 some [.b false]) (
 some [.b true]))))) := (zd _ _).trans (by kernel_rfl)
theorem kqbt : SigOk Try.prog (dqbt.sig (Lqbt none)) ∧ (dqbt.sig (Lqbt none)).ok = true := zg (ze kqbf (by kernel_rfl) (ze kq7 (by kernel_rfl) (ze kqbc (by kernel_rfl) (ze kqbh (by kernel_rfl) (ze kq8 (by kernel_rfl) (ze kq9 (by kernel_rfl) (ze kqbi (by kernel_rfl) (ze kqbj (by kernel_rfl) zf)))))))) (by kernel_rfl) (by kernel_rfl) (by kernel_rfl)
end KV
end
