/- Walks of Go functions, printed by a program of ours. -/
import Derived.Test.YtogabpledkjioaaProg
import Derived.Shelf.Sort.AssemblysIn
import Derived.Shelf.Slices.In.SortNone2
import Derived.Sort.EveryDepth
import Derived.Test.YtogabpledkjioaaM1
import Derived.Test.YtogabpledkjioaaM2
import Derived.Test.YtogabpledkjioaaM3
set_option linter.unusedSimpArgs false
set_option linter.unusedVariables false
set_option linter.unusedSectionVars false
section
set_option maxRecDepth 100000
namespace KV
open Go Go.Eng Go.Proofs
def dqr : FD := { fn := 29, nb := 0, pre := ⟨[.sc (.fz 9 false 0), .sc (.i .i64 1)], []⟩, post := ⟨[.sc (.i .i64 0)], []⟩, sh := false, cuts := [⟨5, [0, 1, 5], ⟨[.sc (.fz 9 false 0), .sc (.i .i64 1), .sc (.i .i64 2)], []⟩⟩] }
noncomputable def Lqr : Option Nat → Lv → Option Lv := Lim Try.prog [] dqr Try.f29
theorem eqr_i (a0 : Rw) (a1 : Int) : Lqr none [.l a0, .i a1] =
 cond (decide ((IntKind.i64.wrap (a1 - (a0.length : Int))) < 0)) (
 some [.i (-1)]) (
 Lqr (some 5) [.l a0, .i (IntKind.i64.wrap (a1 - (a0.length : Int))), .i 0]) := (zd _ _).trans (by kernel_rfl)
theorem eqr_5 (a0 : Rw) (a1 a2 : Int) : Lqr (some 5) [.l a0, .i a1, .i a2] =
 cond (decide (a2 < (a0.length : Int))) (
 cond (inb a2 a0.length) (
 cond (decide ((IntKind.i64.wrap (a1 - (((rd a0 a2.toNat 0).str).size : Int))) < 0)) (
 some [.i (-1)]) (
 Lqr (some 5) [.l a0, .i (IntKind.i64.wrap (a1 - (((rd a0 a2.toNat 0).str).size : Int))), .i (IntKind.i64.wrap (a2 + 1))])) (
 none)) (
 some [.i a1]) := (zd _ _).trans (by kernel_rfl)
theorem kqr : SigOk Try.prog (dqr.sig (Lqr none)) ∧ (dqr.sig (Lqr none)).ok = true := zf zg (by kernel_rfl) (by kernel_rfl) (by kernel_rfl)
def dqbr : FD := { fn := 110, nb := 0, pre := ⟨[.ag [.s 0, .fz 9 false 1], .sc (.i .i64 2)], []⟩, post := ⟨[.sc (.i .i64 0)], []⟩, sh := false, cuts := [] }
noncomputable def Lqbr : Option Nat → Lv → Option Lv := Lim Try.prog [dqr.sig (Lqr none)] dqbr Try.f110
theorem eqbr_i (a0 : ByteArray) (a1 : Rw) (a2 : Int) : Lqbr none [.s a0, .l a1, .i a2] =
 cond (decide ((IntKind.i64.wrap (a2 - (a0.size : Int))) < 0)) (
 some [.i (-1)]) (
 (Lqr none [.l a1, .i (IntKind.i64.wrap (a2 - (a0.size : Int)))]).bind fun y1 =>
 cond (decide ((g y1 0).int < 0)) (
 some [.i (-1)]) (
 some [.i ((g y1 0).int)])) := (zd _ _).trans (by kernel_rfl)
theorem kqbr : SigOk Try.prog (dqbr.sig (Lqbr none)) ∧ (dqbr.sig (Lqbr none)).ok = true := zf (ze kqr (by kernel_rfl) zg) (by kernel_rfl) (by kernel_rfl) (by kernel_rfl)
def dqbm : FD := { fn := 116, nb := 0, pre := ⟨[.ag [.s 0, .i .i64 1, .s 2, .fz 9 false 3], .sc (.i .i64 4)], []⟩, post := ⟨[.sc (.i .i64 0)], []⟩, sh := false, cuts := [] }
noncomputable def Lqbm : Option Nat → Lv → Option Lv := Lim Try.prog [dqbr.sig (Lqbr none)] dqbm Try.f116
theorem eqbm_i (a0 : ByteArray) (a1 : Int) (a2 : ByteArray) (a3 : Rw) (a4 : Int) : Lqbm none [.s a0, .i a1, .s a2, .l a3, .i a4] =
 cond (decide ((IntKind.i64.wrap (a4 - (a0.size : Int))) < 0)) (
 some [.i (-1)]) (
 (Lqbr none [.s a2, .l a3, .i (IntKind.i64.wrap (a4 - (a0.size : Int)))]).bind fun y1 =>
 cond (decide ((g y1 0).int < 0)) (
 some [.i (-1)]) (
 some [.i ((g y1 0).int)])) := (zd _ _).trans (by kernel_rfl)
theorem kqbm : SigOk Try.prog (dqbm.sig (Lqbm none)) ∧ (dqbm.sig (Lqbm none)).ok = true := zf (ze kqbr (by kernel_rfl) zg) (by kernel_rfl) (by kernel_rfl) (by kernel_rfl)
def dqs : FD := { fn := 61, nb := 0, pre := ⟨[.sc (.fz 150 false 0), .sc (.i .i64 1)], []⟩, post := ⟨[.sc (.i .i64 0)], []⟩, sh := false, cuts := [⟨5, [0, 1, 5], ⟨[.sc (.fz 150 false 0), .sc (.i .i64 1), .sc (.i .i64 2)], []⟩⟩] }
noncomputable def Lqs : Option Nat → Lv → Option Lv := Lim Try.prog [dqbm.sig (Lqbm none)] dqs Try.f61
theorem eqs_i (a0 : Rw) (a1 : Int) : Lqs none [.l a0, .i a1] =
 cond (decide ((IntKind.i64.wrap (a1 - (a0.length : Int))) < 0)) (
 some [.i (-1)]) (
 Lqs (some 5) [.l a0, .i (IntKind.i64.wrap (a1 - (a0.length : Int))), .i 0]) := (zd _ _).trans (by kernel_rfl)
theorem eqs_5 (a0 : Rw) (a1 a2 : Int) : Lqs (some 5) [.l a0, .i a1, .i a2] =
 cond (decide (a2 < (a0.length : Int))) (
 cond (inb a2 a0.length) (
 (Lqbm none [.s ((rd a0 a2.toNat 0).str), .i ((rd a0 a2.toNat 1).int), .s ((rd a0 a2.toNat 2).str), .l ((rd a0 a2.toNat 3).list), .i a1]).bind fun y1 =>
 cond (decide ((g y1 0).int < 0)) (
 some [.i (-1)]) (
 Lqs (some 5) [.l a0, .i ((g y1 0).int), .i (IntKind.i64.wrap (a2 + 1))])) (
 none)) (
 some [.i a1]) := (zd _ _).trans (by kernel_rfl)
theorem kqs : SigOk Try.prog (dqs.sig (Lqs none)) ∧ (dqs.sig (Lqs none)).ok = true := zf (ze kqbm (by kernel_rfl) zg) (by kernel_rfl) (by kernel_rfl) (by kernel_rfl)
def dqbj : FD := { fn := 117, nb := 0, pre := ⟨[.ag [.s 0, .s 1], .sc (.i .i64 2)], []⟩, post := ⟨[.sc (.i .i64 0)], []⟩, sh := false, cuts := [] }
noncomputable def Lqbj : Option Nat → Lv → Option Lv := Lim Try.prog [] dqbj Try.f117
theorem eqbj_i (a0 a1 : ByteArray) (a2 : Int) : Lqbj none [.s a0, .s a1, .i a2] =
 cond (decide ((IntKind.i64.wrap (a2 - (a0.size : Int))) < 0)) (
 some [.i (-1)]) (
 cond (decide ((IntKind.i64.wrap ((IntKind.i64.wrap (a2 - (a0.size : Int))) - (a1.size : Int))) < 0)) (
 some [.i (-1)]) (
 some [.i (IntKind.i64.wrap ((IntKind.i64.wrap (a2 - (a0.size : Int))) - (a1.size : Int)))])) := (zd _ _).trans (by kernel_rfl)
theorem kqbj : SigOk Try.prog (dqbj.sig (Lqbj none)) ∧ (dqbj.sig (Lqbj none)).ok = true := zf zg (by kernel_rfl) (by kernel_rfl) (by kernel_rfl)
def dqo : FD := { fn := 62, nb := 0, pre := ⟨[.sc (.fz 152 false 0), .sc (.i .i64 1)], []⟩, post := ⟨[.sc (.i .i64 0)], []⟩, sh := false, cuts := [⟨5, [0, 1, 5], ⟨[.sc (.fz 152 false 0), .sc (.i .i64 1), .sc (.i .i64 2)], []⟩⟩] }
noncomputable def Lqo : Option Nat → Lv → Option Lv := Lim Try.prog [dqbj.sig (Lqbj none)] dqo Try.f62
theorem eqo_i (a0 : Rw) (a1 : Int) : Lqo none [.l a0, .i a1] =
 cond (decide ((IntKind.i64.wrap (a1 - (a0.length : Int))) < 0)) (
 some [.i (-1)]) (
 Lqo (some 5) [.l a0, .i (IntKind.i64.wrap (a1 - (a0.length : Int))), .i 0]) := (zd _ _).trans (by kernel_rfl)
theorem eqo_5 (a0 : Rw) (a1 a2 : Int) : Lqo (some 5) [.l a0, .i a1, .i a2] =
 cond (decide (a2 < (a0.length : Int))) (
 cond (inb a2 a0.length) (
 (Lqbj none [.s ((rd a0 a2.toNat 0).str), .s ((rd a0 a2.toNat 1).str), .i a1]).bind fun y1 =>
 cond (decide ((g y1 0).int < 0)) (
 some [.i (-1)]) (
 Lqo (some 5) [.l a0, .i ((g y1 0).int), .i (IntKind.i64.wrap (a2 + 1))])) (
 none)) (
 some [.i a1]) := (zd _ _).trans (by kernel_rfl)
theorem kqo : SigOk Try.prog (dqo.sig (Lqo none)) ∧ (dqo.sig (Lqo none)).ok = true := zf (ze kqbj (by kernel_rfl) zg) (by kernel_rfl) (by kernel_rfl) (by kernel_rfl)
def dqbn : FD := { fn := 118, nb := 0, pre := ⟨[.ag [.i .i64 0, .s 1, .i .i64 2], .sc (.i .i64 3)], []⟩, post := ⟨[.sc (.i .i64 0)], []⟩, sh := false, cuts := [] }
noncomputable def Lqbn : Option Nat → Lv → Option Lv := Lim Try.prog [] dqbn Try.f118
theorem eqbn_i (a0 : Int) (a1 : ByteArray) (a2 a3 : Int) : Lqbn none [.i a0, .s a1, .i a2, .i a3] =
 cond (decide ((IntKind.i64.wrap (a3 - (a1.size : Int))) < 0)) (
 some [.i (-1)]) (
 some [.i (IntKind.i64.wrap (a3 - (a1.size : Int)))]) := (zd _ _).trans (by kernel_rfl)
theorem kqbn : SigOk Try.prog (dqbn.sig (Lqbn none)) ∧ (dqbn.sig (Lqbn none)).ok = true := zf zg (by kernel_rfl) (by kernel_rfl) (by kernel_rfl)
def dqt : FD := { fn := 63, nb := 0, pre := ⟨[.sc (.fz 154 false 0), .sc (.i .i64 1)], []⟩, post := ⟨[.sc (.i .i64 0)], []⟩, sh := false, cuts := [⟨5, [0, 1, 5], ⟨[.sc (.fz 154 false 0), .sc (.i .i64 1), .sc (.i .i64 2)], []⟩⟩] }
noncomputable def Lqt : Option Nat → Lv → Option Lv := Lim Try.prog [dqbn.sig (Lqbn none)] dqt Try.f63
theorem eqt_i (a0 : Rw) (a1 : Int) : Lqt none [.l a0, .i a1] =
 cond (decide ((IntKind.i64.wrap (a1 - (a0.length : Int))) < 0)) (
 some [.i (-1)]) (
 Lqt (some 5) [.l a0, .i (IntKind.i64.wrap (a1 - (a0.length : Int))), .i 0]) := (zd _ _).trans (by kernel_rfl)
theorem eqt_5 (a0 : Rw) (a1 a2 : Int) : Lqt (some 5) [.l a0, .i a1, .i a2] =
 cond (decide (a2 < (a0.length : Int))) (
 cond (inb a2 a0.length) (
 (Lqbn none [.i ((rd a0 a2.toNat 0).int), .s ((rd a0 a2.toNat 1).str), .i ((rd a0 a2.toNat 2).int), .i a1]).bind fun y1 =>
 cond (decide ((g y1 0).int < 0)) (
 some [.i (-1)]) (
 Lqt (some 5) [.l a0, .i ((g y1 0).int), .i (IntKind.i64.wrap (a2 + 1))])) (
 none)) (
 some [.i a1]) := (zd _ _).trans (by kernel_rfl)
theorem kqt : SigOk Try.prog (dqt.sig (Lqt none)) ∧ (dqt.sig (Lqt none)).ok = true := zf (ze kqbn (by kernel_rfl) zg) (by kernel_rfl) (by kernel_rfl) (by kernel_rfl)
def dqbo : FD := { fn := 11, nb := 0, pre := ⟨[.ag [.i .i64 0, .i .i64 1, .i .i64 2, .i .i64 3, .fz 150 false 4, .fz 152 false 5, .fz 154 false 6], .sc (.i .i64 7)], []⟩, post := ⟨[.sc (.i .i64 0)], []⟩, sh := false, cuts := [] }
noncomputable def Lqbo : Option Nat → Lv → Option Lv := Lim Try.prog [dqs.sig (Lqs none), dqo.sig (Lqo none), dqt.sig (Lqt none)] dqbo Try.f11
theorem eqbo_i (a0 a1 a2 a3 : Int) (a4 a5 a6 : Rw) (a7 : Int) : Lqbo none [.i a0, .i a1, .i a2, .i a3, .l a4, .l a5, .l a6, .i a7] =
 (Lqs none [.l a4, .i a7]).bind fun y1 =>
 cond (decide ((g y1 0).int < 0)) (
 some [.i (-1)]) (
 (Lqo none [.l a5, .i ((g y1 0).int)]).bind fun y2 =>
 cond (decide ((g y2 0).int < 0)) (
 some [.i (-1)]) (
 (Lqt none [.l a6, .i ((g y2 0).int)]).bind fun y3 =>
 cond (decide ((g y3 0).int < 0)) (
 some [.i (-1)]) (
 some [.i ((g y3 0).int)]))) := (zd _ _).trans (by kernel_rfl)
theorem kqbo : SigOk Try.prog (dqbo.sig (Lqbo none)) ∧ (dqbo.sig (Lqbo none)).ok = true := zf (ze kqs (by kernel_rfl) (ze kqo (by kernel_rfl) (ze kqt (by kernel_rfl) zg))) (by kernel_rfl) (by kernel_rfl) (by kernel_rfl)
def dqy : FD := { fn := 31, nb := 0, pre := ⟨[.sc (.fz 9 false 0)], []⟩, post := ⟨[.sc (.ow 0)], [.dw 9 none 0]⟩, sh := false, cuts := [⟨3, [0, 3, 4], ⟨[.sc (.fz 9 false 0), .sc (.ow 0), .sc (.i .i64 1)], [.rw 9 true 2]⟩⟩] }
noncomputable def Lqy : Option Nat → Lv → Option Lv := Lim Try.prog [] dqy Try.f31
theorem eqy_i (a0 : Rw) : Lqy none [.l a0] =
 cond (decide (0 ≤ (a0.length : Int))) (
 cond ((a0.length : Int) == (a0.length : Int)) (
 cond (decide ((a0.length : Int) ≤ (most : Int))) (
 Lqy (some 3) [.l a0, .i 0, .l (List.replicate (a0.length : Int).toNat ([.s (⟨#[]⟩ : ByteArray)] : List C))]) (
 none)) (
 none)) (
 none) := (zd _ _).trans (by kernel_rfl)
theorem eqy_3 (a0 : Rw) (a1 : Int) (a2 : Rw) : Lqy (some 3) [.l a0, .i a1, .l a2] =
 cond (decide (a1 < (a0.length : Int))) (
 cond (inb a1 a0.length) (
 cond (inb a1 a2.length) (
 Lqy (some 3) [.l a0, .i (IntKind.i64.wrap (a1 + 1)), .l (wrs a2 a1.toNat 0 ([.s ((rd a0 a1.toNat 0).str)] : List C))]) (
 none)) (
 none)) (
 some [.l a2]) := (zd _ _).trans (by kernel_rfl)
theorem kqy : SigOk Try.prog (dqy.sig (Lqy none)) ∧ (dqy.sig (Lqy none)).ok = true := zf zg (by kernel_rfl) (by kernel_rfl) (by kernel_rfl)
def dqbs : FD := { fn := 112, nb := 0, pre := ⟨[.ag [.s 0, .fz 9 false 1]], []⟩, post := ⟨[.ag [.s 0, .ow 0]], [.dw 9 none 1]⟩, sh := false, cuts := [] }
noncomputable def Lqbs : Option Nat → Lv → Option Lv := Lim Try.prog [dqy.sig (Lqy none)] dqbs Try.f112
theorem eqbs_i (a0 : ByteArray) (a1 : Rw) : Lqbs none [.s a0, .l a1] =
 (Lqy none [.l a1]).bind fun y1 =>
 some [.s a0, .l ((g y1 0).list)] := (zd _ _).trans (by kernel_rfl)
theorem kqbs : SigOk Try.prog (dqbs.sig (Lqbs none)) ∧ (dqbs.sig (Lqbs none)).ok = true := zf (ze kqy (by kernel_rfl) zg) (by kernel_rfl) (by kernel_rfl) (by kernel_rfl)
def dqbp : FD := { fn := 121, nb := 0, pre := ⟨[.ag [.s 0, .i .i64 1, .s 2, .fz 9 false 3]], []⟩, post := ⟨[.ag [.s 0, .i .i64 1, .s 2, .ow 0]], [.dw 9 none 3]⟩, sh := false, cuts := [] }
noncomputable def Lqbp : Option Nat → Lv → Option Lv := Lim Try.prog [dqbs.sig (Lqbs none)] dqbp Try.f121
theorem eqbp_i (a0 : ByteArray) (a1 : Int) (a2 : ByteArray) (a3 : Rw) : Lqbp none [.s a0, .i a1, .s a2, .l a3] =
 (Lqbs none [.s a2, .l a3]).bind fun y1 =>
 some [.s a0, .i a1, .s ((g y1 0).str), .l ((g y1 1).list)] := (zd _ _).trans (by kernel_rfl)
theorem kqbp : SigOk Try.prog (dqbp.sig (Lqbp none)) ∧ (dqbp.sig (Lqbp none)).ok = true := zf (ze kqbs (by kernel_rfl) zg) (by kernel_rfl) (by kernel_rfl) (by kernel_rfl)
def dqz : FD := { fn := 68, nb := 0, pre := ⟨[.sc (.fz 150 false 0)], []⟩, post := ⟨[.sc (.ow 0)], [.dw 116 (some (3, 9)) 0]⟩, sh := false, cuts := [⟨3, [0, 3, 4], ⟨[.sc (.fz 150 false 0), .sc (.ow 0), .sc (.i .i64 1)], [.dw 116 (some (3, 9)) 2]⟩⟩] }
noncomputable def Lqz : Option Nat → Lv → Option Lv := Lim Try.prog [dqbp.sig (Lqbp none)] dqz Try.f68
theorem eqz_i (a0 : Rw) : Lqz none [.l a0] =
 cond (decide (0 ≤ (a0.length : Int))) (
 cond ((a0.length : Int) == (a0.length : Int)) (
 cond (decide ((a0.length : Int) ≤ (most : Int))) (
 Lqz (some 3) [.l a0, .i 0, .l (List.replicate (a0.length : Int).toNat ([.s (⟨#[]⟩ : ByteArray), .i 0, .s (⟨#[]⟩ : ByteArray), .l ([])] : List C))]) (
 none)) (
 none)) (
 none) := (zd _ _).trans (by kernel_rfl)
theorem eqz_3 (a0 : Rw) (a1 : Int) (a2 : Rw) : Lqz (some 3) [.l a0, .i a1, .l a2] =
 cond (decide (a1 < (a0.length : Int))) (
 cond (inb a1 a0.length) (
 (Lqbp none [.s ((rd a0 a1.toNat 0).str), .i ((rd a0 a1.toNat 1).int), .s ((rd a0 a1.toNat 2).str), .l ((rd a0 a1.toNat 3).list)]).bind fun y1 =>
 cond (inb a1 a2.length) (
 Lqz (some 3) [.l a0, .i (IntKind.i64.wrap (a1 + 1)), .l (wrs a2 a1.toNat 0 ([.s ((g y1 0).str), .i ((g y1 1).int), .s ((g y1 2).str), .l ((g y1 3).list)] : List C))]) (
 none)) (
 none)) (
 some [.l a2]) := (zd _ _).trans (by kernel_rfl)
theorem kqz : SigOk Try.prog (dqz.sig (Lqz none)) ∧ (dqz.sig (Lqz none)).ok = true := zf (ze kqbp (by kernel_rfl) zg) (by kernel_rfl) (by kernel_rfl) (by kernel_rfl)
def dqbt : FD := { fn := 122, nb := 0, pre := ⟨[.ag [.s 0, .s 1]], []⟩, post := ⟨[.ag [.s 0, .s 1]], []⟩, sh := false, cuts := [] }
noncomputable def Lqbt : Option Nat → Lv → Option Lv := Lim Try.prog [] dqbt Try.f122
theorem eqbt_i (a0 a1 : ByteArray) : Lqbt none [.s a0, .s a1] =
 some [.s a0, .s a1] := (zd _ _).trans (by kernel_rfl)
theorem kqbt : SigOk Try.prog (dqbt.sig (Lqbt none)) ∧ (dqbt.sig (Lqbt none)).ok = true := zf zg (by kernel_rfl) (by kernel_rfl) (by kernel_rfl)
end KV
end
section
set_option maxRecDepth 100000
namespace KV
open Go Go.Eng Go.Proofs
def dq0 : FD := { fn := 69, nb := 0, pre := ⟨[.sc (.fz 152 false 0)], []⟩, post := ⟨[.sc (.ow 0)], [.dw 127 none 0]⟩, sh := false, cuts := [⟨3, [0, 3, 4], ⟨[.sc (.fz 152 false 0), .sc (.ow 0), .sc (.i .i64 1)], [.rw 127 true 2]⟩⟩] }
noncomputable def Lq0 : Option Nat → Lv → Option Lv := Lim Try.prog [dqbt.sig (Lqbt none)] dq0 Try.f69
theorem eq0_i (a0 : Rw) : Lq0 none [.l a0] =
 cond (decide (0 ≤ (a0.length : Int))) (
 cond ((a0.length : Int) == (a0.length : Int)) (
 cond (decide ((a0.length : Int) ≤ (most : Int))) (
 Lq0 (some 3) [.l a0, .i 0, .l (List.replicate (a0.length : Int).toNat ([.s (⟨#[]⟩ : ByteArray), .s (⟨#[]⟩ : ByteArray)] : List C))]) (
 none)) (
 none)) (
 none) := (zd _ _).trans (by kernel_rfl)
theorem eq0_3 (a0 : Rw) (a1 : Int) (a2 : Rw) : Lq0 (some 3) [.l a0, .i a1, .l a2] =
 cond (decide (a1 < (a0.length : Int))) (
 cond (inb a1 a0.length) (
 (Lqbt none [.s ((rd a0 a1.toNat 0).str), .s ((rd a0 a1.toNat 1).str)]).bind fun y1 =>
 cond (inb a1 a2.length) (
 Lq0 (some 3) [.l a0, .i (IntKind.i64.wrap (a1 + 1)), .l (wrs a2 a1.toNat 0 ([.s ((g y1 0).str), .s ((g y1 1).str)] : List C))]) (
 none)) (
 none)) (
 some [.l a2]) := (zd _ _).trans (by kernel_rfl)
theorem kq0 : SigOk Try.prog (dq0.sig (Lq0 none)) ∧ (dq0.sig (Lq0 none)).ok = true := zf (ze kqbt (by kernel_rfl) zg) (by kernel_rfl) (by kernel_rfl) (by kernel_rfl)
def dqbu : FD := { fn := 123, nb := 0, pre := ⟨[.ag [.i .i64 0, .s 1, .i .i64 2]], []⟩, post := ⟨[.ag [.i .i64 0, .s 1, .i .i64 2]], []⟩, sh := false, cuts := [] }
noncomputable def Lqbu : Option Nat → Lv → Option Lv := Lim Try.prog [] dqbu Try.f123
theorem eqbu_i (a0 : Int) (a1 : ByteArray) (a2 : Int) : Lqbu none [.i a0, .s a1, .i a2] =
 some [.i a0, .s a1, .i a2] := (zd _ _).trans (by kernel_rfl)
theorem kqbu : SigOk Try.prog (dqbu.sig (Lqbu none)) ∧ (dqbu.sig (Lqbu none)).ok = true := zf zg (by kernel_rfl) (by kernel_rfl) (by kernel_rfl)
def dq1 : FD := { fn := 70, nb := 0, pre := ⟨[.sc (.fz 154 false 0)], []⟩, post := ⟨[.sc (.ow 0)], [.dw 129 none 0]⟩, sh := false, cuts := [⟨3, [0, 3, 4], ⟨[.sc (.fz 154 false 0), .sc (.ow 0), .sc (.i .i64 1)], [.rw 129 true 2]⟩⟩] }
noncomputable def Lq1 : Option Nat → Lv → Option Lv := Lim Try.prog [dqbu.sig (Lqbu none)] dq1 Try.f70
theorem eq1_i (a0 : Rw) : Lq1 none [.l a0] =
 cond (decide (0 ≤ (a0.length : Int))) (
 cond ((a0.length : Int) == (a0.length : Int)) (
 cond (decide ((a0.length : Int) ≤ (most : Int))) (
 Lq1 (some 3) [.l a0, .i 0, .l (List.replicate (a0.length : Int).toNat ([.i 0, .s (⟨#[]⟩ : ByteArray), .i 0] : List C))]) (
 none)) (
 none)) (
 none) := (zd _ _).trans (by kernel_rfl)
theorem eq1_3 (a0 : Rw) (a1 : Int) (a2 : Rw) : Lq1 (some 3) [.l a0, .i a1, .l a2] =
 cond (decide (a1 < (a0.length : Int))) (
 cond (inb a1 a0.length) (
 (Lqbu none [.i ((rd a0 a1.toNat 0).int), .s ((rd a0 a1.toNat 1).str), .i ((rd a0 a1.toNat 2).int)]).bind fun y1 =>
 cond (inb a1 a2.length) (
 Lq1 (some 3) [.l a0, .i (IntKind.i64.wrap (a1 + 1)), .l (wrs a2 a1.toNat 0 ([.i ((g y1 0).int), .s ((g y1 1).str), .i ((g y1 2).int)] : List C))]) (
 none)) (
 none)) (
 some [.l a2]) := (zd _ _).trans (by kernel_rfl)
theorem kq1 : SigOk Try.prog (dq1.sig (Lq1 none)) ∧ (dq1.sig (Lq1 none)).ok = true := zf (ze kqbu (by kernel_rfl) zg) (by kernel_rfl) (by kernel_rfl) (by kernel_rfl)
def dqbh : FD := { fn := 13, nb := 0, pre := ⟨[.ag [.i .i64 0, .i .i64 1, .i .i64 2, .i .i64 3, .fz 150 false 4, .fz 152 false 5, .fz 154 false 6]], []⟩, post := ⟨[.ag [.i .i64 0, .i .i64 1, .i .i64 2, .i .i64 3, .ow 0, .ow 1, .ow 2]], [.dw 116 (some (3, 9)) 4, .dw 127 none 5, .dw 129 none 6]⟩, sh := false, cuts := [] }
noncomputable def Lqbh : Option Nat → Lv → Option Lv := Lim Try.prog [dqz.sig (Lqz none), dq0.sig (Lq0 none), dq1.sig (Lq1 none)] dqbh Try.f13
theorem eqbh_i (a0 a1 a2 a3 : Int) (a4 a5 a6 : Rw) : Lqbh none [.i a0, .i a1, .i a2, .i a3, .l a4, .l a5, .l a6] =
 (Lqz none [.l a4]).bind fun y1 =>
 (Lq0 none [.l a5]).bind fun y2 =>
 (Lq1 none [.l a6]).bind fun y3 =>
 some [.i a0, .i a1, .i a2, .i a3, .l ((g y1 0).list), .l ((g y2 0).list), .l ((g y3 0).list)] := (zd _ _).trans (by kernel_rfl)
theorem kqbh : SigOk Try.prog (dqbh.sig (Lqbh none)) ∧ (dqbh.sig (Lqbh none)).ok = true := zf (ze kqz (by kernel_rfl) (ze kq0 (by kernel_rfl) (ze kq1 (by kernel_rfl) zg))) (by kernel_rfl) (by kernel_rfl) (by kernel_rfl)
def dqk : FD := { fn := 15, nb := 0, pre := ⟨[.sc (.fz 9 false 0), .sc (.fz 9 false 1)], []⟩, post := ⟨[.sc (.b 0)], []⟩, sh := false, cuts := [⟨4, [0, 1, 5], ⟨[.sc (.fz 9 false 0), .sc (.fz 9 false 1), .sc (.i .i64 2)], []⟩⟩] }
noncomputable def Lqk : Option Nat → Lv → Option Lv := Lim Try.prog [] dqk Try.f15
theorem eqk_i (a0 a1 : Rw) : Lqk none [.l a0, .l a1] =
 cond ((a0.length : Int) != (a1.length : Int)) (
 some [.b false]) (
 Lqk (some 4) [.l a0, .l a1, .i 0]) := (zd _ _).trans (by kernel_rfl)
theorem eqk_4 (a0 a1 : Rw) (a2 : Int) : Lqk (some 4) [.l a0, .l a1, .i a2] =
 cond (decide (a2 < (a0.length : Int))) (
 cond (inb a2 a0.length) (
 cond (inb a2 a1.length) (
 cond (!Eng.seq ((rd a0 a2.toNat 0).str) ((rd a1 a2.toNat 0).str)) (
 some [.b false]) (
 Lqk (some 4) [.l a0, .l a1, .i (IntKind.i64.wrap (a2 + 1))])) (
 none)) (
 none)) (
 some [.b true]) := (zd _ _).trans (by kernel_rfl)
theorem kqk : SigOk Try.prog (dqk.sig (Lqk none)) ∧ (dqk.sig (Lqk none)).ok = true := zf zg (by kernel_rfl) (by kernel_rfl) (by kernel_rfl)
def dqbv : FD := { fn := 114, nb := 0, pre := ⟨[.ag [.s 0, .fz 9 false 1], .ag [.s 2, .fz 9 false 3]], []⟩, post := ⟨[.sc (.b 0)], []⟩, sh := false, cuts := [] }
noncomputable def Lqbv : Option Nat → Lv → Option Lv := Lim Try.prog [dqk.sig (Lqk none)] dqbv Try.f114
theorem eqbv_i (a0 : ByteArray) (a1 : Rw) (a2 : ByteArray) (a3 : Rw) : Lqbv none [.s a0, .l a1, .s a2, .l a3] =
 cond (!Eng.seq a0 a2) (
 some [.b false]) (
 (Lqk none [.l a1, .l a3]).bind fun y1 =>
 cond (!(g y1 0).bool) (
 some [.b false]) (
 some [.b true])) := (zd _ _).trans (by kernel_rfl)
theorem kqbv : SigOk Try.prog (dqbv.sig (Lqbv none)) ∧ (dqbv.sig (Lqbv none)).ok = true := zf (ze kqk (by kernel_rfl) zg) (by kernel_rfl) (by kernel_rfl) (by kernel_rfl)
def dqbw : FD := { fn := 129, nb := 0, pre := ⟨[.ag [.s 0, .i .i64 1, .s 2, .fz 9 false 3], .ag [.s 4, .i .i64 5, .s 6, .fz 9 false 7]], []⟩, post := ⟨[.sc (.b 0)], []⟩, sh := false, cuts := [] }
noncomputable def Lqbw : Option Nat → Lv → Option Lv := Lim Try.prog [dqbv.sig (Lqbv none)] dqbw Try.f129
theorem eqbw_i (a0 : ByteArray) (a1 : Int) (a2 : ByteArray) (a3 : Rw) (a4 : ByteArray) (a5 : Int) (a6 : ByteArray) (a7 : Rw) : Lqbw none [.s a0, .i a1, .s a2, .l a3, .s a4, .i a5, .s a6, .l a7] =
 cond (!Eng.seq a0 a4) (
 some [.b false]) (
 cond (a1 != a5) (
 some [.b false]) (
 (Lqbv none [.s a2, .l a3, .s a6, .l a7]).bind fun y1 =>
 cond (!(g y1 0).bool) (
 some [.b false]) (
 some [.b true]))) := (zd _ _).trans (by kernel_rfl)
theorem kqbw : SigOk Try.prog (dqbw.sig (Lqbw none)) ∧ (dqbw.sig (Lqbw none)).ok = true := zf (ze kqbv (by kernel_rfl) zg) (by kernel_rfl) (by kernel_rfl) (by kernel_rfl)
def dq2 : FD := { fn := 74, nb := 0, pre := ⟨[.sc (.fz 116 false 0), .sc (.fz 116 false 1)], []⟩, post := ⟨[.sc (.b 0)], []⟩, sh := false, cuts := [⟨4, [0, 1, 5], ⟨[.sc (.fz 116 false 0), .sc (.fz 116 false 1), .sc (.i .i64 2)], []⟩⟩] }
noncomputable def Lq2 : Option Nat → Lv → Option Lv := Lim Try.prog [dqbw.sig (Lqbw none)] dq2 Try.f74
theorem eq2_i (a0 a1 : Rw) : Lq2 none [.l a0, .l a1] =
 cond ((a0.length : Int) != (a1.length : Int)) (
 some [.b false]) (
 Lq2 (some 4) [.l a0, .l a1, .i 0]) := (zd _ _).trans (by kernel_rfl)
theorem eq2_4 (a0 a1 : Rw) (a2 : Int) : Lq2 (some 4) [.l a0, .l a1, .i a2] =
 cond (decide (a2 < (a0.length : Int))) (
 cond (inb a2 a0.length) (
 cond (inb a2 a1.length) (
 (Lqbw none [.s ((rd a0 a2.toNat 0).str), .i ((rd a0 a2.toNat 1).int), .s ((rd a0 a2.toNat 2).str), .l ((rd a0 a2.toNat 3).list), .s ((rd a1 a2.toNat 0).str), .i ((rd a1 a2.toNat 1).int), .s ((rd a1 a2.toNat 2).str), .l ((rd a1 a2.toNat 3).list)]).bind fun y1 =>
 cond (!(g y1 0).bool) (
 some [.b false]) (
 Lq2 (some 4) [.l a0, .l a1, .i (IntKind.i64.wrap (a2 + 1))])) (
 none)) (
 none)) (
 some [.b true]) := (zd _ _).trans (by kernel_rfl)
theorem kq2 : SigOk Try.prog (dq2.sig (Lq2 none)) ∧ (dq2.sig (Lq2 none)).ok = true := zf (ze kqbw (by kernel_rfl) zg) (by kernel_rfl) (by kernel_rfl) (by kernel_rfl)
def dqbx : FD := { fn := 130, nb := 0, pre := ⟨[.ag [.s 0, .s 1], .ag [.s 2, .s 3]], []⟩, post := ⟨[.sc (.b 0)], []⟩, sh := false, cuts := [] }
noncomputable def Lqbx : Option Nat → Lv → Option Lv := Lim Try.prog [] dqbx Try.f130
theorem eqbx_i (a0 a1 a2 a3 : ByteArray) : Lqbx none [.s a0, .s a1, .s a2, .s a3] =
 cond (!Eng.seq a0 a2) (
 some [.b false]) (
 cond (!Eng.seq a1 a3) (
 some [.b false]) (
 some [.b true])) := (zd _ _).trans (by kernel_rfl)
theorem kqbx : SigOk Try.prog (dqbx.sig (Lqbx none)) ∧ (dqbx.sig (Lqbx none)).ok = true := zf zg (by kernel_rfl) (by kernel_rfl) (by kernel_rfl)
def dq3 : FD := { fn := 75, nb := 0, pre := ⟨[.sc (.fz 127 false 0), .sc (.fz 127 false 1)], []⟩, post := ⟨[.sc (.b 0)], []⟩, sh := false, cuts := [⟨4, [0, 1, 5], ⟨[.sc (.fz 127 false 0), .sc (.fz 127 false 1), .sc (.i .i64 2)], []⟩⟩] }
noncomputable def Lq3 : Option Nat → Lv → Option Lv := Lim Try.prog [dqbx.sig (Lqbx none)] dq3 Try.f75
theorem eq3_i (a0 a1 : Rw) : Lq3 none [.l a0, .l a1] =
 cond ((a0.length : Int) != (a1.length : Int)) (
 some [.b false]) (
 Lq3 (some 4) [.l a0, .l a1, .i 0]) := (zd _ _).trans (by kernel_rfl)
theorem eq3_4 (a0 a1 : Rw) (a2 : Int) : Lq3 (some 4) [.l a0, .l a1, .i a2] =
 cond (decide (a2 < (a0.length : Int))) (
 cond (inb a2 a0.length) (
 cond (inb a2 a1.length) (
 (Lqbx none [.s ((rd a0 a2.toNat 0).str), .s ((rd a0 a2.toNat 1).str), .s ((rd a1 a2.toNat 0).str), .s ((rd a1 a2.toNat 1).str)]).bind fun y1 =>
 cond (!(g y1 0).bool) (
 some [.b false]) (
 Lq3 (some 4) [.l a0, .l a1, .i (IntKind.i64.wrap (a2 + 1))])) (
 none)) (
 none)) (
 some [.b true]) := (zd _ _).trans (by kernel_rfl)
theorem kq3 : SigOk Try.prog (dq3.sig (Lq3 none)) ∧ (dq3.sig (Lq3 none)).ok = true := zf (ze kqbx (by kernel_rfl) zg) (by kernel_rfl) (by kernel_rfl) (by kernel_rfl)
def dqby : FD := { fn := 131, nb := 0, pre := ⟨[.ag [.i .i64 0, .s 1, .i .i64 2], .ag [.i .i64 3, .s 4, .i .i64 5]], []⟩, post := ⟨[.sc (.b 0)], []⟩, sh := false, cuts := [] }
noncomputable def Lqby : Option Nat → Lv → Option Lv := Lim Try.prog [] dqby Try.f131
theorem eqby_i (a0 : Int) (a1 : ByteArray) (a2 a3 : Int) (a4 : ByteArray) (a5 : Int) : Lqby none [.i a0, .s a1, .i a2, .i a3, .s a4, .i a5] =
 cond (a0 != a3) (
 some [.b false]) (
 cond (!Eng.seq a1 a4) (
 some [.b false]) (
 cond (a2 != a5) (
 some [.b false]) (
 some [.b true]))) := (zd _ _).trans (by kernel_rfl)
theorem kqby : SigOk Try.prog (dqby.sig (Lqby none)) ∧ (dqby.sig (Lqby none)).ok = true := zf zg (by kernel_rfl) (by kernel_rfl) (by kernel_rfl)
def dq4 : FD := { fn := 76, nb := 0, pre := ⟨[.sc (.fz 129 false 0), .sc (.fz 129 false 1)], []⟩, post := ⟨[.sc (.b 0)], []⟩, sh := false, cuts := [⟨4, [0, 1, 5], ⟨[.sc (.fz 129 false 0), .sc (.fz 129 false 1), .sc (.i .i64 2)], []⟩⟩] }
noncomputable def Lq4 : Option Nat → Lv → Option Lv := Lim Try.prog [dqby.sig (Lqby none)] dq4 Try.f76
theorem eq4_i (a0 a1 : Rw) : Lq4 none [.l a0, .l a1] =
 cond ((a0.length : Int) != (a1.length : Int)) (
 some [.b false]) (
 Lq4 (some 4) [.l a0, .l a1, .i 0]) := (zd _ _).trans (by kernel_rfl)
theorem eq4_4 (a0 a1 : Rw) (a2 : Int) : Lq4 (some 4) [.l a0, .l a1, .i a2] =
 cond (decide (a2 < (a0.length : Int))) (
 cond (inb a2 a0.length) (
 cond (inb a2 a1.length) (
 (Lqby none [.i ((rd a0 a2.toNat 0).int), .s ((rd a0 a2.toNat 1).str), .i ((rd a0 a2.toNat 2).int), .i ((rd a1 a2.toNat 0).int), .s ((rd a1 a2.toNat 1).str), .i ((rd a1 a2.toNat 2).int)]).bind fun y1 =>
 cond (!(g y1 0).bool) (
 some [.b false]) (
 Lq4 (some 4) [.l a0, .l a1, .i (IntKind.i64.wrap (a2 + 1))])) (
 none)) (
 none)) (
 some [.b true]) := (zd _ _).trans (by kernel_rfl)
theorem kq4 : SigOk Try.prog (dq4.sig (Lq4 none)) ∧ (dq4.sig (Lq4 none)).ok = true := zf (ze kqby (by kernel_rfl) zg) (by kernel_rfl) (by kernel_rfl) (by kernel_rfl)
def dqbk : FD := { fn := 16, nb := 0, pre := ⟨[.ag [.i .i64 0, .i .i64 1, .i .i64 2, .i .i64 3, .fz 116 false 4, .fz 127 false 5, .fz 129 false 6], .ag [.i .i64 7, .i .i64 8, .i .i64 9, .i .i64 10, .fz 116 false 11, .fz 127 false 12, .fz 129 false 13]], []⟩, post := ⟨[.sc (.b 0)], []⟩, sh := false, cuts := [] }
noncomputable def Lqbk : Option Nat → Lv → Option Lv := Lim Try.prog [dq2.sig (Lq2 none), dq3.sig (Lq3 none), dq4.sig (Lq4 none)] dqbk Try.f16
theorem eqbk_i (a0 a1 a2 a3 : Int) (a4 a5 a6 : Rw) (a7 a8 a9 a10 : Int) (a11 a12 a13 : Rw) : Lqbk none [.i a0, .i a1, .i a2, .i a3, .l a4, .l a5, .l a6, .i a7, .i a8, .i a9, .i a10, .l a11, .l a12, .l a13] =
 cond (a0 != a7) (
 some [.b false]) (
 cond (a1 != a8) (
 some [.b false]) (
 cond (a2 != a9) (
 some [.b false]) (
 cond (a3 != a10) (
 some [.b false]) (
 (Lq2 none [.l a4, .l a11]).bind fun y1 =>
 cond (!(g y1 0).bool) (
 some [.b false]) (
 (Lq3 none [.l a5, .l a12]).bind fun y2 =>
 cond (!(g y2 0).bool) (
 some [.b false]) (
 (Lq4 none [.l a6, .l a13]).bind fun y3 =>
 cond (!(g y3 0).bool) (
 some [.b false]) (
 some [.b true]))))))) := (zd _ _).trans (by kernel_rfl)
theorem kqbk : SigOk Try.prog (dqbk.sig (Lqbk none)) ∧ (dqbk.sig (Lqbk none)).ok = true := zf (ze kq2 (by kernel_rfl) (ze kq3 (by kernel_rfl) (ze kq4 (by kernel_rfl) zg))) (by kernel_rfl) (by kernel_rfl) (by kernel_rfl)
def dqd : FD := { fn := 80, nb := 0, pre := ⟨[.sc (.i .i64 0)], []⟩, post := ⟨[.sc (.s 0)], []⟩, sh := false, cuts := [⟨4, [0, 3], ⟨[.sc (.i .i64 0), .sc (.s 1)], []⟩⟩] }
noncomputable def Lqd : Option Nat → Lv → Option Lv := Lim Try.prog [] dqd Try.f80
theorem eqd_i (a0 : Int) : Lqd none [.i a0] =
 cond (decide (a0 ≤ 0)) (
 some [.s (⟨#[109, 48]⟩ : ByteArray)]) (
 Lqd (some 4) [.i a0, .s (⟨#[]⟩ : ByteArray)]) := (zd _ _).trans (by kernel_rfl)
theorem eqd_4 (a0 : Int) (a1 : ByteArray) : Lqd (some 4) [.i a0, .s a1] =
 cond (decide (0 < a0)) (
 cond (decide ((bytesOf ([[.i (IntKind.u8.wrap (IntKind.i64.wrap (48 + (a0.tmod 10))))]] : Rw)).size + a1.size ≤ most)) (
 Lqd (some 4) [.i (IntKind.i64.wrap (a0.tdiv 10)), .s ((bytesOf ([[.i (IntKind.u8.wrap (IntKind.i64.wrap (48 + (a0.tmod 10))))]] : Rw)) ++ a1)]) (
 none)) (
 cond (decide ((⟨#[109]⟩ : ByteArray).size + a1.size ≤ most)) (
 some [.s ((⟨#[109]⟩ : ByteArray) ++ a1)]) (
 none)) := (zd _ _).trans (by kernel_rfl)
theorem kqd : SigOk Try.prog (dqd.sig (Lqd none)) ∧ (dqd.sig (Lqd none)).ok = true := zf zg (by kernel_rfl) (by kernel_rfl) (by kernel_rfl)
end KV
end
section
set_option maxRecDepth 100000
namespace KV
open Go Go.Eng Go.Proofs
def dqn : FD := { fn := 18, nb := 1, pre := ⟨[.sc (.ow 0), .sc (.i .i64 0)], [.rw 9 false 1]⟩, post := ⟨[.sc (.i .i64 0)], [.rw 9 false 1]⟩, sh := true, cuts := [⟨2, [0, 1, 5], ⟨[.sc (.ow 0), .sc (.i .i64 0), .sc (.i .i64 1)], [.rw 9 false 2]⟩⟩] }
noncomputable def Lqn : Option Nat → Lv → Option Lv := Lim Try.prog [dqd.sig (Lqd none)] dqn Try.f18
theorem eqn_i (a0 : Int) (a1 : Rw) : Lqn none [.i a0, .l a1] =
 Lqn (some 2) [.i a0, .i 0, .l a1] := (zd _ _).trans (by kernel_rfl)
theorem eqn_2 (a0 a1 : Int) (a2 : Rw) : Lqn (some 2) [.i a0, .i a1, .l a2] =
 cond (decide (a1 < (a2.length : Int))) (
 (Lqd none [.i a0]).bind fun y1 =>
 cond (inb a1 a2.length) (
 Lqn (some 2) [.i (IntKind.i64.wrap (a0 + 1)), .i (IntKind.i64.wrap (a1 + 1)), .l (wrs a2 a1.toNat 0 ([.s ((g y1 0).str)] : List C))]) (
 none)) (
 some [.i a0, .l a2]) := (zd _ _).trans (by kernel_rfl)
theorem kqn : SigOk Try.prog (dqn.sig (Lqn none)) ∧ (dqn.sig (Lqn none)).ok = true := zf (ze kqd (by kernel_rfl) zg) (by kernel_rfl) (by kernel_rfl) (by kernel_rfl)
def dq5 : FD := { fn := 77, nb := 1, pre := ⟨[.sc (.ow 0), .sc (.i .i64 0)], [.dw 116 (some (3, 9)) 1]⟩, post := ⟨[.sc (.i .i64 0)], [.dw 116 (some (3, 9)) 1]⟩, sh := false, cuts := [⟨2, [0, 1, 5], ⟨[.sc (.ow 0), .sc (.i .i64 0), .sc (.i .i64 1)], [.dw 116 (some (3, 9)) 2]⟩⟩] }
noncomputable def Lq5 : Option Nat → Lv → Option Lv := Lim Try.prog [dqd.sig (Lqd none), dqn.sig (Lqn none)] dq5 Try.f77
theorem eq5_i (a0 : Int) (a1 : Rw) : Lq5 none [.i a0, .l a1] =
 Lq5 (some 2) [.i a0, .i 0, .l a1] := (zd _ _).trans (by kernel_rfl)
theorem eq5_2 (a0 a1 : Int) (a2 : Rw) : Lq5 (some 2) [.i a0, .i a1, .l a2] =
 cond (decide (a1 < (a2.length : Int))) (
 (Lqd none [.i a0]).bind fun y1 =>
 cond (inb a1 a2.length) (
 cond (inb a1 ((wrs a2 a1.toNat 0 ([.s ((g y1 0).str)] : List C)).length)) (
 (Lqd none [.i (IntKind.i64.wrap ((IntKind.i64.wrap (a0 + 1)) + 1))]).bind fun y2 =>
 cond (inb a1 ((wrs (wrs a2 a1.toNat 0 ([.s ((g y1 0).str)] : List C)) a1.toNat 1 ([.i (IntKind.i64.wrap (a0 + 1))] : List C)).length)) (
 cond (inb a1 ((wrs (wrs (wrs a2 a1.toNat 0 ([.s ((g y1 0).str)] : List C)) a1.toNat 1 ([.i (IntKind.i64.wrap (a0 + 1))] : List C)) a1.toNat 2 ([.s ((g y2 0).str)] : List C)).length)) (
 (Lqn none [.i (IntKind.i64.wrap ((IntKind.i64.wrap ((IntKind.i64.wrap (a0 + 1)) + 1)) + 1)), .l (rd (wrs (wrs (wrs a2 a1.toNat 0 ([.s ((g y1 0).str)] : List C)) a1.toNat 1 ([.i (IntKind.i64.wrap (a0 + 1))] : List C)) a1.toNat 2 ([.s ((g y2 0).str)] : List C)) a1.toNat 3).list]).bind fun y3 =>
 Lq5 (some 2) [.i ((g y3 0).int), .i (IntKind.i64.wrap (a1 + 1)), .l (wr (wrs (wrs (wrs a2 a1.toNat 0 ([.s ((g y1 0).str)] : List C)) a1.toNat 1 ([.i (IntKind.i64.wrap (a0 + 1))] : List C)) a1.toNat 2 ([.s ((g y2 0).str)] : List C)) a1.toNat 3 (C.l (g y3 1).list))]) (
 none)) (
 none)) (
 none)) (
 none)) (
 some [.i a0, .l a2]) := (zd _ _).trans (by kernel_rfl)
theorem kq5 : SigOk Try.prog (dq5.sig (Lq5 none)) ∧ (dq5.sig (Lq5 none)).ok = true := zf (ze kqd (by kernel_rfl) (ze kqn (by kernel_rfl) zg)) (by kernel_rfl) (by kernel_rfl) (by kernel_rfl)
def dq6 : FD := { fn := 78, nb := 1, pre := ⟨[.sc (.ow 0), .sc (.i .i64 0)], [.dw 127 none 1]⟩, post := ⟨[.sc (.i .i64 0)], [.dw 127 none 1]⟩, sh := false, cuts := [⟨2, [0, 1, 5], ⟨[.sc (.ow 0), .sc (.i .i64 0), .sc (.i .i64 1)], [.dw 127 none 2]⟩⟩] }
noncomputable def Lq6 : Option Nat → Lv → Option Lv := Lim Try.prog [dqd.sig (Lqd none)] dq6 Try.f78
theorem eq6_i (a0 : Int) (a1 : Rw) : Lq6 none [.i a0, .l a1] =
 Lq6 (some 2) [.i a0, .i 0, .l a1] := (zd _ _).trans (by kernel_rfl)
theorem eq6_2 (a0 a1 : Int) (a2 : Rw) : Lq6 (some 2) [.i a0, .i a1, .l a2] =
 cond (decide (a1 < (a2.length : Int))) (
 (Lqd none [.i a0]).bind fun y1 =>
 cond (inb a1 a2.length) (
 (Lqd none [.i (IntKind.i64.wrap (a0 + 1))]).bind fun y2 =>
 cond (inb a1 ((wrs a2 a1.toNat 0 ([.s ((g y1 0).str)] : List C)).length)) (
 Lq6 (some 2) [.i (IntKind.i64.wrap ((IntKind.i64.wrap (a0 + 1)) + 1)), .i (IntKind.i64.wrap (a1 + 1)), .l (wrs (wrs a2 a1.toNat 0 ([.s ((g y1 0).str)] : List C)) a1.toNat 1 ([.s ((g y2 0).str)] : List C))]) (
 none)) (
 none)) (
 some [.i a0, .l a2]) := (zd _ _).trans (by kernel_rfl)
theorem kq6 : SigOk Try.prog (dq6.sig (Lq6 none)) ∧ (dq6.sig (Lq6 none)).ok = true := zf (ze kqd (by kernel_rfl) zg) (by kernel_rfl) (by kernel_rfl) (by kernel_rfl)
def dq7 : FD := { fn := 79, nb := 1, pre := ⟨[.sc (.ow 0), .sc (.i .i64 0)], [.dw 129 none 1]⟩, post := ⟨[.sc (.i .i64 0)], [.dw 129 none 1]⟩, sh := false, cuts := [⟨2, [0, 1, 5], ⟨[.sc (.ow 0), .sc (.i .i64 0), .sc (.i .i64 1)], [.dw 129 none 2]⟩⟩] }
noncomputable def Lq7 : Option Nat → Lv → Option Lv := Lim Try.prog [dqd.sig (Lqd none)] dq7 Try.f79
theorem eq7_i (a0 : Int) (a1 : Rw) : Lq7 none [.i a0, .l a1] =
 Lq7 (some 2) [.i a0, .i 0, .l a1] := (zd _ _).trans (by kernel_rfl)
theorem eq7_2 (a0 a1 : Int) (a2 : Rw) : Lq7 (some 2) [.i a0, .i a1, .l a2] =
 cond (decide (a1 < (a2.length : Int))) (
 cond (inb a1 a2.length) (
 (Lqd none [.i (IntKind.i64.wrap (a0 + 1))]).bind fun y1 =>
 cond (inb a1 ((wrs a2 a1.toNat 0 ([.i a0] : List C)).length)) (
 cond (inb a1 ((wrs (wrs a2 a1.toNat 0 ([.i a0] : List C)) a1.toNat 1 ([.s ((g y1 0).str)] : List C)).length)) (
 Lq7 (some 2) [.i (IntKind.i64.wrap ((IntKind.i64.wrap ((IntKind.i64.wrap (a0 + 1)) + 1)) + 1)), .i (IntKind.i64.wrap (a1 + 1)), .l (wrs (wrs (wrs a2 a1.toNat 0 ([.i a0] : List C)) a1.toNat 1 ([.s ((g y1 0).str)] : List C)) a1.toNat 2 ([.i (IntKind.i64.wrap ((IntKind.i64.wrap (a0 + 1)) + 1))] : List C))]) (
 none)) (
 none)) (
 none)) (
 some [.i a0, .l a2]) := (zd _ _).trans (by kernel_rfl)
theorem kq7 : SigOk Try.prog (dq7.sig (Lq7 none)) ∧ (dq7.sig (Lq7 none)).ok = true := zf (ze kqd (by kernel_rfl) zg) (by kernel_rfl) (by kernel_rfl) (by kernel_rfl)
def dqbl : FD := { fn := 17, nb := 3, pre := ⟨[.ag [.i .i64 0, .i .i64 1, .i .i64 2, .i .i64 3, .ow 0, .ow 1, .ow 2], .sc (.i .i64 4)], [.dw 116 (some (3, 9)) 5, .dw 127 none 6, .dw 129 none 7]⟩, post := ⟨[.sc (.i .i64 0)], [.dw 116 (some (3, 9)) 1, .dw 127 none 2, .dw 129 none 3]⟩, sh := false, cuts := [] }
noncomputable def Lqbl : Option Nat → Lv → Option Lv := Lim Try.prog [dq5.sig (Lq5 none), dq6.sig (Lq6 none), dq7.sig (Lq7 none)] dqbl Try.f17
theorem eqbl_i (a0 a1 a2 a3 a4 : Int) (a5 a6 a7 : Rw) : Lqbl none [.i a0, .i a1, .i a2, .i a3, .i a4, .l a5, .l a6, .l a7] =
 (Lq5 none [.i a4, .l a5]).bind fun y1 =>
 (Lq6 none [.i ((g y1 0).int), .l a6]).bind fun y2 =>
 (Lq7 none [.i ((g y2 0).int), .l a7]).bind fun y3 =>
 some [.i ((g y3 0).int), .l ((g y1 1).list), .l ((g y2 1).list), .l ((g y3 1).list)] := (zd _ _).trans (by kernel_rfl)
theorem kqbl : SigOk Try.prog (dqbl.sig (Lqbl none)) ∧ (dqbl.sig (Lqbl none)).ok = true := zf (ze kq5 (by kernel_rfl) (ze kq6 (by kernel_rfl) (ze kq7 (by kernel_rfl) zg))) (by kernel_rfl) (by kernel_rfl) (by kernel_rfl)
def dqu : FD := { fn := 19, nb := 0, pre := ⟨[.sc (.fz 9 false 0), .sc (.i .i64 1)], []⟩, post := ⟨[.sc (.i .i64 0)], []⟩, sh := false, cuts := [⟨2, [0, 1, 5], ⟨[.sc (.fz 9 false 0), .sc (.i .i64 1), .sc (.i .i64 2)], []⟩⟩] }
noncomputable def Lqu : Option Nat → Lv → Option Lv := Lim Try.prog [dqd.sig (Lqd none)] dqu Try.f19
theorem equ_i (a0 : Rw) (a1 : Int) : Lqu none [.l a0, .i a1] =
 Lqu (some 2) [.l a0, .i a1, .i 0] := (zd _ _).trans (by kernel_rfl)
theorem equ_2 (a0 : Rw) (a1 a2 : Int) : Lqu (some 2) [.l a0, .i a1, .i a2] =
 cond (decide (a2 < (a0.length : Int))) (
 cond (inb a2 a0.length) (
 (Lqd none [.i a1]).bind fun y1 =>
 cond (!Eng.seq ((rd a0 a2.toNat 0).str) ((g y1 0).str)) (
 some [.i (-1)]) (
 Lqu (some 2) [.l a0, .i (IntKind.i64.wrap (a1 + 1)), .i (IntKind.i64.wrap (a2 + 1))])) (
 none)) (
 some [.i a1]) := (zd _ _).trans (by kernel_rfl)
theorem kqu : SigOk Try.prog (dqu.sig (Lqu none)) ∧ (dqu.sig (Lqu none)).ok = true := zf (ze kqd (by kernel_rfl) zg) (by kernel_rfl) (by kernel_rfl) (by kernel_rfl)
def dqh : FD := { fn := 93, nb := 0, pre := ⟨[.ag [.i .i64 0, .i .i64 1, .i .i64 2, .i .i64 3, .fz 116 false 4, .fz 127 false 5, .fz 129 false 6], .sc (.s 7)], []⟩, post := ⟨[.sc (.i .i64 0)], []⟩, sh := false, cuts := [⟨2, [1, 2, 5], ⟨[.sc (.s 0), .sc (.pt 0 0), .sc (.i .i64 1)], [.bx [.i .i64 2, .i .i64 3, .i .i64 4, .i .i64 5, .fz 116 false 6, .fz 127 false 7, .fz 129 false 8]]⟩⟩] }
noncomputable def Lqh : Option Nat → Lv → Option Lv := Lim Try.prog [] dqh Try.f93
theorem eqh_i (a0 a1 a2 a3 : Int) (a4 a5 a6 : Rw) (a7 : ByteArray) : Lqh none [.i a0, .i a1, .i a2, .i a3, .l a4, .l a5, .l a6, .s a7] =
 Lqh (some 2) [.s a7, .i 0, .i a0, .i a1, .i a2, .i a3, .l a4, .l a5, .l a6] := (zd _ _).trans (by kernel_rfl)
theorem eqh_2 (a0 : ByteArray) (a1 a2 a3 a4 a5 : Int) (a6 a7 a8 : Rw) : Lqh (some 2) [.s a0, .i a1, .i a2, .i a3, .i a4, .i a5, .l a6, .l a7, .l a8] =
 cond (decide (a1 < (a6.length : Int))) (
 cond (inb a1 a6.length) (
 cond (Eng.seq ((rd a6 a1.toNat 0).str) a0) (
 some [.i a1]) (
 Lqh (some 2) [.s a0, .i (IntKind.i64.wrap (a1 + 1)), .i a2, .i a3, .i a4, .i a5, .l a6, .l a7, .l a8])) (
 none)) (
 some [.i (-1)]) := (zd _ _).trans (by kernel_rfl)
theorem kqh : SigOk Try.prog (dqh.sig (Lqh none)) ∧ (dqh.sig (Lqh none)).ok = true := zf zg (by kernel_rfl) (by kernel_rfl) (by kernel_rfl)
def dqbf : FD := { fn := 86, nb := 0, pre := ⟨[.sc (.i .i64 0)], []⟩, post := ⟨[.sc (.b 0)], []⟩, sh := false, cuts := [] }
noncomputable def Lqbf : Option Nat → Lv → Option Lv := Lim Try.prog [] dqbf Try.f86
theorem eqbf_i (a0 : Int) : Lqbf none [.i a0] =
 cond (decide (1 ≤ a0)) (
 some [.b (decide (a0 ≤ 8))]) (
 some [.b false]) := (zd _ _).trans (by kernel_rfl)
theorem kqbf : SigOk Try.prog (dqbf.sig (Lqbf none)) ∧ (dqbf.sig (Lqbf none)).ok = true := zf zg (by kernel_rfl) (by kernel_rfl) (by kernel_rfl)
def dqbe : FD := { fn := 97, nb := 0, pre := ⟨[.sc (.i .i64 0), .sc (.i .i64 1), .sc (.i .i64 2)], []⟩, post := ⟨[.sc (.b 0)], []⟩, sh := false, cuts := [] }
noncomputable def Lqbe : Option Nat → Lv → Option Lv := Lim Try.prog [] dqbe Try.f97
theorem eqbe_i (a0 a1 a2 : Int) : Lqbe none [.i a0, .i a1, .i a2] =
 cond (decide (a1 ≤ a0)) (
 some [.b (decide (a0 ≤ a2))]) (
 some [.b false]) := (zd _ _).trans (by kernel_rfl)
theorem kqbe : SigOk Try.prog (dqbe.sig (Lqbe none)) ∧ (dqbe.sig (Lqbe none)).ok = true := zf zg (by kernel_rfl) (by kernel_rfl) (by kernel_rfl)
def dql : FD := { fn := 165, nb := 0, pre := ⟨[.ag [.s 0, .fz 9 false 1], .sc (.i .i64 2)], []⟩, post := ⟨[.sc (.b 0)], []⟩, sh := false, cuts := [⟨4, [1, 2, 5], ⟨[.sc (.i .i64 0), .sc (.pt 0 0), .sc (.i .i64 1)], [.bx [.s 2, .fz 9 false 3]]⟩⟩] }
noncomputable def Lql : Option Nat → Lv → Option Lv := Lim Try.prog [dqbf.sig (Lqbf none)] dql Try.f165
theorem eql_i (a0 : ByteArray) (a1 : Rw) (a2 : Int) : Lql none [.s a0, .l a1, .i a2] =
 (Lqbf none [.i a2]).bind fun y1 =>
 cond (!(g y1 0).bool) (
 some [.b false]) (
 cond (decide (2000 < (a0.size : Int))) (
 some [.b false]) (
 cond (decide (30 < (a1.length : Int))) (
 some [.b false]) (
 Lql (some 4) [.i a2, .i 0, .s a0, .l a1]))) := (zd _ _).trans (by kernel_rfl)
theorem eql_4 (a0 a1 : Int) (a2 : ByteArray) (a3 : Rw) : Lql (some 4) [.i a0, .i a1, .s a2, .l a3] =
 cond (decide (a1 < (a3.length : Int))) (
 cond (inb a1 a3.length) (
 cond ((((rd a3 a1.toNat 0).str).size : Int) != a0) (
 some [.b false]) (
 cond (decide (0 < a1)) (
 cond (inb (IntKind.i64.wrap (a1 - 1)) a3.length) (
 cond (inb a1 a3.length) (
 cond (!slt ((rd a3 ((IntKind.i64.wrap (a1 - 1)).toNat) 0).str) ((rd a3 a1.toNat 0).str)) (
 some [.b false]) (
 Lql (some 4) [.i a0, .i (IntKind.i64.wrap (a1 + 1)), .s a2, .l a3])) (
 none)) (
 none)) (
 Lql (some 4) [.i a0, .i (IntKind.i64.wrap (a1 + 1)), .s a2, .l a3]))) (
 none)) (
 some [.b true]) := (zd _ _).trans (by kernel_rfl)
theorem kql : SigOk Try.prog (dql.sig (Lql none)) ∧ (dql.sig (Lql none)).ok = true := zf (ze kqbf (by kernel_rfl) zg) (by kernel_rfl) (by kernel_rfl) (by kernel_rfl)
def dqm : FD := { fn := 168, nb := 0, pre := ⟨[.sc (.s 0), .sc (.i .i64 1)], []⟩, post := ⟨[.sc (.s 0)], []⟩, sh := false, cuts := [⟨5, [0, 1, 5, 6], ⟨[.sc (.s 0), .sc (.i .i64 1), .sc (.i .u64 2), .sc (.i .i64 3)], []⟩⟩, ⟨10, [1, 5, 7, 8], ⟨[.sc (.i .i64 0), .sc (.i .u64 1), .sc (.ow 0), .sc (.i .i64 2)], [.rw 5 true 3]⟩⟩] }
noncomputable def Lqm : Option Nat → Lv → Option Lv := Lim Try.prog [dqbf.sig (Lqbf none)] dqm Try.f168
theorem eqm_i (a0 : ByteArray) (a1 : Int) : Lqm none [.s a0, .i a1] =
 (Lqbf none [.i a1]).bind fun y1 =>
 cond (!(g y1 0).bool) (
 some [.s (⟨#[]⟩ : ByteArray)]) (
 Lqm (some 5) [.s a0, .i a1, .i 14695981039346656037, .i 0]) := (zd _ _).trans (by kernel_rfl)
theorem eqm_5 (a0 : ByteArray) (a1 a2 a3 : Int) : Lqm (some 5) [.s a0, .i a1, .i a2, .i a3] =
 cond (decide (a3 < (a0.size : Int))) (
 cond (inb a3 a0.size) (
 Lqm (some 5) [.s a0, .i a1, .i (IntKind.u64.wrap ((IntKind.u64.wrap (BitVec.ofInt (IntKind.u64).bits a2 ^^^ BitVec.ofInt (IntKind.u64).bits (IntKind.u64.wrap (byteAt a0 a3.toNat))).toNat) * 1099511628211)), .i (IntKind.i64.wrap (a3 + 1))]) (
 none)) (
 Lqm (some 10) [.i a1, .i a2, .i 0, .l ([] : Rw)]) := (zd _ _).trans (by kernel_rfl)
theorem eqm_10 (a0 a1 a2 : Int) (a3 : Rw) : Lqm (some 10) [.i a0, .i a1, .i a2, .l a3] =
 cond (decide (a2 < a0)) (
 cond (decide (([[.i (IntKind.u8.wrap (a1.tmod 256))]] : Rw).length + a3.length ≤ most)) (
 Lqm (some 10) [.i a0, .i (IntKind.u64.wrap (a1.tdiv 256)), .i (IntKind.i64.wrap (a2 + 1)), .l (([[.i (IntKind.u8.wrap (a1.tmod 256))]] : Rw) ++ a3)]) (
 none)) (
 some [.s (bytesOf a3)]) := (zd _ _).trans (by kernel_rfl)
theorem kqm : SigOk Try.prog (dqm.sig (Lqm none)) ∧ (dqm.sig (Lqm none)).ok = true := zf (ze kqbf (by kernel_rfl) zg) (by kernel_rfl) (by kernel_rfl) (by kernel_rfl)
def dq8 : FD := { fn := 169, nb := 0, pre := ⟨[.ag [.s 0, .fz 9 false 1], .sc (.i .i64 2)], []⟩, post := ⟨[.sc (.s 0)], []⟩, sh := false, cuts := [⟨5, [2, 5, 6], ⟨[.sc (.pt 0 0), .sc (.ow 1), .sc (.i .i64 0)], [.bx [.s 1, .fz 9 false 2], .rw 5 true 3]⟩⟩] }
noncomputable def Lq8 : Option Nat → Lv → Option Lv := Lim Try.prog [dql.sig (Lql none)] dq8 Try.f169
theorem eq8_i (a0 : ByteArray) (a1 : Rw) (a2 : Int) : Lq8 none [.s a0, .l a1, .i a2] =
 (Lql none [.s a0, .l a1, .i a2]).bind fun y1 =>
 cond (!(g y1 0).bool) (
 some [.s (⟨#[]⟩ : ByteArray)]) (
 Lq8 (some 5) [.i 0, .s a0, .l a1, .l ([[.i (IntKind.u8.wrap (a1.length : Int))]] : Rw)]) := (zd _ _).trans (by kernel_rfl)
theorem eq8_5 (a0 : Int) (a1 : ByteArray) (a2 a3 : Rw) : Lq8 (some 5) [.i a0, .s a1, .l a2, .l a3] =
 cond (decide (a0 < (a2.length : Int))) (
 cond (inb a0 a2.length) (
 cond (decide (a3.length + (rowsOf ((rd a2 a0.toNat 0).str)).length ≤ most)) (
 Lq8 (some 5) [.i (IntKind.i64.wrap (a0 + 1)), .s a1, .l a2, .l (a3 ++ (rowsOf ((rd a2 a0.toNat 0).str)))]) (
 none)) (
 none)) (
 cond (decide (a3.length + (rowsOf a1).length ≤ most)) (
 some [.s (bytesOf (a3 ++ (rowsOf a1)))]) (
 none)) := (zd _ _).trans (by kernel_rfl)
theorem kq8 : SigOk Try.prog (dq8.sig (Lq8 none)) ∧ (dq8.sig (Lq8 none)).ok = true := zf (ze kql (by kernel_rfl) zg) (by kernel_rfl) (by kernel_rfl) (by kernel_rfl)
def dqb : FD := { fn := 119, nb := 0, pre := ⟨[.ag [.i .i64 0, .i .i64 1, .i .i64 2, .i .i64 3, .fz 116 false 4, .fz 127 false 5, .fz 129 false 6]], []⟩, post := ⟨[.sc (.b 0)], []⟩, sh := false, cuts := [⟨4, [1, 3, 4, 5], ⟨[.sc (.pt 0 0), .sc (.ow 1), .sc (.ow 2), .sc (.i .i64 0)], [.bx [.i .i64 1, .i .i64 2, .i .i64 3, .i .i64 4, .fz 116 false 5, .fz 127 false 6, .fz 129 false 7], .rw 4 true 8, .rw 3 true 9]⟩⟩, ⟨14, [1, 3, 4, 5, 6, 7], ⟨[.sc (.pt 0 0), .sc (.ow 1), .sc (.ow 2), .sc (.i .i64 0), .sc (.pt 3 0), .sc (.i .i64 1)], [.bx [.i .i64 2, .i .i64 3, .i .i64 4, .i .i64 5, .fz 116 false 6, .fz 127 false 7, .fz 129 false 8], .rw 4 true 9, .rw 3 true 10, .bx [.s 11, .i .i64 12, .s 13, .fz 9 false 14]]⟩⟩, ⟨20, [1, 8], ⟨[.sc (.pt 0 0), .sc (.i .i64 0)], [.bx [.i .i64 1, .i .i64 2, .i .i64 3, .i .i64 4, .fz 116 false 5, .fz 127 false 6, .fz 129 false 7]]⟩⟩, ⟨23, [1, 8, 9], ⟨[.sc (.pt 0 0), .sc (.i .i64 0), .sc (.i .i64 1)], [.bx [.i .i64 2, .i .i64 3, .i .i64 4, .i .i64 5, .fz 116 false 6, .fz 127 false 7, .fz 129 false 8]]⟩⟩] }
noncomputable def Lqb : Option Nat → Lv → Option Lv := Lim Try.prog [dqh.sig (Lqh none), dqbe.sig (Lqbe none), dql.sig (Lql none), dqm.sig (Lqm none), dq8.sig (Lq8 none)] dqb Try.f119
theorem eqb_i (a0 a1 a2 a3 : Int) (a4 a5 a6 : Rw) : Lqb none [.i a0, .i a1, .i a2, .i a3, .l a4, .l a5, .l a6] =
 Lqb (some 4) [.i 0, .i a0, .i a1, .i a2, .i a3, .l a4, .l a5, .l a6, .l (List.replicate 601 ([.b false] : List C)), .l ([] : Rw)] := (zd _ _).trans (by kernel_rfl)
theorem eqb_4 (a0 a1 a2 a3 a4 : Int) (a5 a6 a7 a8 a9 : Rw) : Lqb (some 4) [.i a0, .i a1, .i a2, .i a3, .i a4, .l a5, .l a6, .l a7, .l a8, .l a9] =
 cond (decide (a0 < (a5.length : Int))) (
 cond (inb a0 a5.length) (
 (Lql none [.s ((rd a5 a0.toNat 2).str), .l ((rd a5 a0.toNat 3).list), .i a1]).bind fun y1 =>
 cond (!(g y1 0).bool) (
 some [.b false]) (
 (Lq8 none [.s ((rd a5 a0.toNat 2).str), .l ((rd a5 a0.toNat 3).list), .i a1]).bind fun y2 =>
 (Lqm none [.s ((g y2 0).str), .i a1]).bind fun y3 =>
 cond (!Eng.seq ((rd a5 a0.toNat 0).str) ((g y3 0).str)) (
 some [.b false]) (
 cond (decide (0 < a0)) (
 cond (inb (IntKind.i64.wrap (a0 - 1)) a5.length) (
 cond (!slt ((rd a5 ((IntKind.i64.wrap (a0 - 1)).toNat) 0).str) ((rd a5 a0.toNat 0).str)) (
 some [.b false]) (
 (Lqbe none [.i ((rd a5 a0.toNat 1).int), .i 1, .i a4]).bind fun y4 =>
 cond (!(g y4 0).bool) (
 some [.b false]) (
 cond (decide ((rd a5 a0.toNat 1).int ≤ 600)) (
 cond (inb ((rd a5 a0.toNat 1).int) a8.length) (
 cond ((rd a8 (((rd a5 a0.toNat 1).int).toNat) 0).bool) (
 some [.b false]) (
 cond (inb ((rd a5 a0.toNat 1).int) a8.length) (
 Lqb (some 4) [.i (IntKind.i64.wrap (a0 + 1)), .i a1, .i a2, .i a3, .i a4, .l a5, .l a6, .l a7, .l (wrs a8 (((rd a5 a0.toNat 1).int).toNat) 0 ([.b true] : List C)), .l a9]) (
 none))) (
 none)) (
 Lqb (some 14) [.i a0, .i 0, .i a1, .i a2, .i a3, .i a4, .l a5, .l a6, .l a7, .l a8, .l a9, .s ((rd a5 a0.toNat 0).str), .i ((rd a5 a0.toNat 1).int), .s ((rd a5 a0.toNat 2).str), .l ((rd a5 a0.toNat 3).list)])))) (
 none)) (
 (Lqbe none [.i ((rd a5 a0.toNat 1).int), .i 1, .i a4]).bind fun y5 =>
 cond (!(g y5 0).bool) (
 some [.b false]) (
 cond (decide ((rd a5 a0.toNat 1).int ≤ 600)) (
 cond (inb ((rd a5 a0.toNat 1).int) a8.length) (
 cond ((rd a8 (((rd a5 a0.toNat 1).int).toNat) 0).bool) (
 some [.b false]) (
 cond (inb ((rd a5 a0.toNat 1).int) a8.length) (
 Lqb (some 4) [.i (IntKind.i64.wrap (a0 + 1)), .i a1, .i a2, .i a3, .i a4, .l a5, .l a6, .l a7, .l (wrs a8 (((rd a5 a0.toNat 1).int).toNat) 0 ([.b true] : List C)), .l a9]) (
 none))) (
 none)) (
 Lqb (some 14) [.i a0, .i 0, .i a1, .i a2, .i a3, .i a4, .l a5, .l a6, .l a7, .l a8, .l a9, .s ((rd a5 a0.toNat 0).str), .i ((rd a5 a0.toNat 1).int), .s ((rd a5 a0.toNat 2).str), .l ((rd a5 a0.toNat 3).list)])))))) (
 none)) (
 Lqb (some 20) [.i 0, .i a1, .i a2, .i a3, .i a4, .l a5, .l a6, .l a7]) := (zd _ _).trans (by kernel_rfl)
theorem eqb_14 (a0 a1 a2 a3 a4 a5 : Int) (a6 a7 a8 a9 a10 : Rw) (a11 : ByteArray) (a12 : Int) (a13 : ByteArray) (a14 : Rw) : Lqb (some 14) [.i a0, .i a1, .i a2, .i a3, .i a4, .i a5, .l a6, .l a7, .l a8, .l a9, .l a10, .s a11, .i a12, .s a13, .l a14] =
 cond (decide (a1 < (a10.length : Int))) (
 cond (inb a1 a10.length) (
 cond ((rd a10 a1.toNat 0).int == a12) (
 some [.b false]) (
 Lqb (some 14) [.i a0, .i (IntKind.i64.wrap (a1 + 1)), .i a2, .i a3, .i a4, .i a5, .l a6, .l a7, .l a8, .l a9, .l a10, .s a11, .i a12, .s a13, .l a14])) (
 none)) (
 cond (decide (a10.length + ([[.i a12]] : Rw).length ≤ most)) (
 Lqb (some 4) [.i (IntKind.i64.wrap (a0 + 1)), .i a2, .i a3, .i a4, .i a5, .l a6, .l a7, .l a8, .l a9, .l (a10 ++ ([[.i a12]] : Rw))]) (
 none)) := (zd _ _).trans (by kernel_rfl)
theorem eqb_20 (a0 a1 a2 a3 a4 : Int) (a5 a6 a7 : Rw) : Lqb (some 20) [.i a0, .i a1, .i a2, .i a3, .i a4, .l a5, .l a6, .l a7] =
 cond (decide (a0 < (a5.length : Int))) (
 Lqb (some 23) [.i a0, .i 0, .i a1, .i a2, .i a3, .i a4, .l a5, .l a6, .l a7]) (
 some [.b true]) := (zd _ _).trans (by kernel_rfl)
theorem eqb_23 (a0 a1 a2 a3 a4 a5 : Int) (a6 a7 a8 : Rw) : Lqb (some 23) [.i a0, .i a1, .i a2, .i a3, .i a4, .i a5, .l a6, .l a7, .l a8] =
 cond (inb a0 a6.length) (
 cond (decide (a1 < (((rd a6 a0.toNat 3).list).length : Int))) (
 cond (inb a0 a6.length) (
 cond (inb a1 (((rd a6 a0.toNat 3).list).length)) (
 (Lqh none [.i a2, .i a3, .i a4, .i a5, .l a6, .l a7, .l a8, .s ((rd ((rd a6 a0.toNat 3).list) a1.toNat 0).str)]).bind fun y1 =>
 cond (decide ((g y1 0).int < 0)) (
 some [.b false]) (
 cond (inb ((g y1 0).int) a6.length) (
 cond (inb a0 a6.length) (
 cond (decide ((rd a6 a0.toNat 1).int ≤ (rd a6 (((g y1 0).int).toNat) 1).int)) (
 some [.b false]) (
 Lqb (some 23) [.i a0, .i (IntKind.i64.wrap (a1 + 1)), .i a2, .i a3, .i a4, .i a5, .l a6, .l a7, .l a8])) (
 none)) (
 none))) (
 none)) (
 none)) (
 Lqb (some 20) [.i (IntKind.i64.wrap (a0 + 1)), .i a2, .i a3, .i a4, .i a5, .l a6, .l a7, .l a8])) (
 none) := (zd _ _).trans (by kernel_rfl)
theorem kqb : SigOk Try.prog (dqb.sig (Lqb none)) ∧ (dqb.sig (Lqb none)).ok = true := zf (ze kqh (by kernel_rfl) (ze kqbe (by kernel_rfl) (ze kql (by kernel_rfl) (ze kqm (by kernel_rfl) (ze kq8 (by kernel_rfl) zg))))) (by kernel_rfl) (by kernel_rfl) (by kernel_rfl)
def dq9 : FD := { fn := 120, nb := 0, pre := ⟨[.sc (.s 0)], []⟩, post := ⟨[.sc (.b 0)], []⟩, sh := false, cuts := [⟨2, [0, 3], ⟨[.sc (.s 0), .sc (.i .i64 1)], []⟩⟩] }
noncomputable def Lq9 : Option Nat → Lv → Option Lv := Lim Try.prog [] dq9 Try.f120
theorem eq9_i (a0 : ByteArray) : Lq9 none [.s a0] =
 Lq9 (some 2) [.s a0, .i 0] := (zd _ _).trans (by kernel_rfl)
theorem eq9_2 (a0 : ByteArray) (a1 : Int) : Lq9 (some 2) [.s a0, .i a1] =
 cond (decide (a1 < (a0.size : Int))) (
 cond (inb a1 a0.size) (
 cond (decide ((byteAt a0 a1.toNat) < 33)) (
 some [.b false]) (
 cond (inb a1 a0.size) (
 cond (decide (126 < (byteAt a0 a1.toNat))) (
 some [.b false]) (
 Lq9 (some 2) [.s a0, .i (IntKind.i64.wrap (a1 + 1))])) (
 none))) (
 none)) (
 cond (decide (1 ≤ (a0.size : Int))) (
 some [.b (decide ((a0.size : Int) ≤ 40))]) (
 some [.b false])) := (zd _ _).trans (by kernel_rfl)
theorem kq9 : SigOk Try.prog (dq9.sig (Lq9 none)) ∧ (dq9.sig (Lq9 none)).ok = true := zf zg (by kernel_rfl) (by kernel_rfl) (by kernel_rfl)
end KV
end
section
set_option maxRecDepth 100000
namespace KV
open Go Go.Eng Go.Proofs
def dqf : FD := { fn := 64, nb := 0, pre := ⟨[.ag [.i .i64 0, .i .i64 1, .i .i64 2, .i .i64 3, .fz 116 false 4, .fz 127 false 5, .fz 129 false 6]], []⟩, post := ⟨[.sc (.b 0)], []⟩, sh := false, cuts := [⟨6, [1, 3], ⟨[.sc (.pt 0 0), .sc (.i .i64 0)], [.bx [.i .i64 1, .i .i64 2, .i .i64 3, .i .i64 4, .fz 116 false 5, .fz 127 false 6, .fz 129 false 7]]⟩⟩, ⟨11, [1, 4], ⟨[.sc (.pt 0 0), .sc (.i .i64 0)], [.bx [.i .i64 1, .i .i64 2, .i .i64 3, .i .i64 4, .fz 116 false 5, .fz 127 false 6, .fz 129 false 7]]⟩⟩] }
noncomputable def Lqf : Option Nat → Lv → Option Lv := Lim Try.prog [dqbf.sig (Lqbf none), dqh.sig (Lqh none), dqbe.sig (Lqbe none), dqb.sig (Lqb none), dq9.sig (Lq9 none)] dqf Try.f64
theorem eqf_i (a0 a1 a2 a3 : Int) (a4 a5 a6 : Rw) : Lqf none [.i a0, .i a1, .i a2, .i a3, .l a4, .l a5, .l a6] =
 (Lqbf none [.i a0]).bind fun y1 =>
 cond (!(g y1 0).bool) (
 some [.b false]) (
 (Lqbe none [.i a1, .i 0, .i 1000000000]).bind fun y2 =>
 cond (!(g y2 0).bool) (
 some [.b false]) (
 (Lqbe none [.i a2, .i 0, .i 1000000000]).bind fun y3 =>
 cond (!(g y3 0).bool) (
 some [.b false]) (
 (Lqbe none [.i a3, .i 0, .i 1000000000]).bind fun y4 =>
 cond (!(g y4 0).bool) (
 some [.b false]) (
 cond (decide (600 < (a4.length : Int))) (
 some [.b false]) (
 cond (decide (100 < (a5.length : Int))) (
 some [.b false]) (
 cond (decide (200 < (a6.length : Int))) (
 some [.b false]) (
 (Lqb none [.i a0, .i a1, .i a2, .i a3, .l a4, .l a5, .l a6]).bind fun y5 =>
 cond (!(g y5 0).bool) (
 some [.b false]) (
 Lqf (some 6) [.i 0, .i a0, .i a1, .i a2, .i a3, .l a4, .l a5, .l a6])))))))) := (zd _ _).trans (by kernel_rfl)
theorem eqf_6 (a0 a1 a2 a3 a4 : Int) (a5 a6 a7 : Rw) : Lqf (some 6) [.i a0, .i a1, .i a2, .i a3, .i a4, .l a5, .l a6, .l a7] =
 cond (decide (a0 < (a6.length : Int))) (
 cond (inb a0 a6.length) (
 (Lq9 none [.s ((rd a6 a0.toNat 0).str)]).bind fun y1 =>
 cond (!(g y1 0).bool) (
 some [.b false]) (
 cond (decide (0 < a0)) (
 cond (inb (IntKind.i64.wrap (a0 - 1)) a6.length) (
 cond (inb a0 a6.length) (
 cond (!slt ((rd a6 ((IntKind.i64.wrap (a0 - 1)).toNat) 0).str) ((rd a6 a0.toNat 0).str)) (
 some [.b false]) (
 cond (inb a0 a6.length) (
 (Lqh none [.i a1, .i a2, .i a3, .i a4, .l a5, .l a6, .l a7, .s ((rd a6 a0.toNat 1).str)]).bind fun y2 =>
 cond (decide ((g y2 0).int < 0)) (
 some [.b false]) (
 Lqf (some 6) [.i (IntKind.i64.wrap (a0 + 1)), .i a1, .i a2, .i a3, .i a4, .l a5, .l a6, .l a7])) (
 none))) (
 none)) (
 none)) (
 cond (inb a0 a6.length) (
 (Lqh none [.i a1, .i a2, .i a3, .i a4, .l a5, .l a6, .l a7, .s ((rd a6 a0.toNat 1).str)]).bind fun y3 =>
 cond (decide ((g y3 0).int < 0)) (
 some [.b false]) (
 Lqf (some 6) [.i (IntKind.i64.wrap (a0 + 1)), .i a1, .i a2, .i a3, .i a4, .l a5, .l a6, .l a7])) (
 none)))) (
 none)) (
 Lqf (some 11) [.i 0, .i a1, .i a2, .i a3, .i a4, .l a5, .l a6, .l a7]) := (zd _ _).trans (by kernel_rfl)
theorem eqf_11 (a0 a1 a2 a3 a4 : Int) (a5 a6 a7 : Rw) : Lqf (some 11) [.i a0, .i a1, .i a2, .i a3, .i a4, .l a5, .l a6, .l a7] =
 cond (decide (a0 < (a7.length : Int))) (
 cond (inb a0 a7.length) (
 (Lqbe none [.i ((rd a7 a0.toNat 0).int), .i 1, .i a3]).bind fun y1 =>
 cond (!(g y1 0).bool) (
 some [.b false]) (
 cond (decide (0 < a0)) (
 cond (inb (IntKind.i64.wrap (a0 - 1)) a7.length) (
 cond (decide ((rd a7 a0.toNat 0).int ≤ (rd a7 ((IntKind.i64.wrap (a0 - 1)).toNat) 0).int)) (
 some [.b false]) (
 (Lqh none [.i a1, .i a2, .i a3, .i a4, .l a5, .l a6, .l a7, .s ((rd a7 a0.toNat 1).str)]).bind fun y2 =>
 cond (decide ((g y2 0).int < 0)) (
 some [.b false]) (
 cond (decide ((rd a7 a0.toNat 2).int ≤ a2)) (
 some [.b false]) (
 cond (decide ((IntKind.i64.wrap (a2 + 100000)) < (rd a7 a0.toNat 2).int)) (
 some [.b false]) (
 Lqf (some 11) [.i (IntKind.i64.wrap (a0 + 1)), .i a1, .i a2, .i a3, .i a4, .l a5, .l a6, .l a7]))))) (
 none)) (
 (Lqh none [.i a1, .i a2, .i a3, .i a4, .l a5, .l a6, .l a7, .s ((rd a7 a0.toNat 1).str)]).bind fun y3 =>
 cond (decide ((g y3 0).int < 0)) (
 some [.b false]) (
 cond (decide ((rd a7 a0.toNat 2).int ≤ a2)) (
 some [.b false]) (
 cond (decide ((IntKind.i64.wrap (a2 + 100000)) < (rd a7 a0.toNat 2).int)) (
 some [.b false]) (
 Lqf (some 11) [.i (IntKind.i64.wrap (a0 + 1)), .i a1, .i a2, .i a3, .i a4, .l a5, .l a6, .l a7])))))) (
 none)) (
 some [.b true]) := (zd _ _).trans (by kernel_rfl)
theorem kqf : SigOk Try.prog (dqf.sig (Lqf none)) ∧ (dqf.sig (Lqf none)).ok = true := zf (ze kqbf (by kernel_rfl) (ze kqh (by kernel_rfl) (ze kqbe (by kernel_rfl) (ze kqb (by kernel_rfl) (ze kq9 (by kernel_rfl) zg))))) (by kernel_rfl) (by kernel_rfl) (by kernel_rfl)
def dqi : FD := { fn := 81, nb := 0, pre := ⟨[.sc (.fz 9 false 0), .sc (.s 1)], []⟩, post := ⟨[.sc (.b 0)], []⟩, sh := false, cuts := [⟨2, [0, 1, 5], ⟨[.sc (.fz 9 false 0), .sc (.s 1), .sc (.i .i64 2)], []⟩⟩] }
noncomputable def Lqi : Option Nat → Lv → Option Lv := Lim Try.prog [] dqi Try.f81
theorem eqi_i (a0 : Rw) (a1 : ByteArray) : Lqi none [.l a0, .s a1] =
 Lqi (some 2) [.l a0, .s a1, .i 0] := (zd _ _).trans (by kernel_rfl)
theorem eqi_2 (a0 : Rw) (a1 : ByteArray) (a2 : Int) : Lqi (some 2) [.l a0, .s a1, .i a2] =
 cond (decide (a2 < (a0.length : Int))) (
 cond (inb a2 a0.length) (
 cond (Eng.seq ((rd a0 a2.toNat 0).str) a1) (
 some [.b true]) (
 Lqi (some 2) [.l a0, .s a1, .i (IntKind.i64.wrap (a2 + 1))])) (
 none)) (
 some [.b false]) := (zd _ _).trans (by kernel_rfl)
theorem kqi : SigOk Try.prog (dqi.sig (Lqi none)) ∧ (dqi.sig (Lqi none)).ok = true := zf zg (by kernel_rfl) (by kernel_rfl) (by kernel_rfl)
def dqc : FD := { fn := 66, nb := 0, pre := ⟨[.ag [.i .i64 0, .i .i64 1, .i .i64 2, .i .i64 3, .fz 116 false 4, .fz 127 false 5, .fz 129 false 6], .sc (.fz 9 false 7)], []⟩, post := ⟨[.sc (.ow 0)], [.rw 9 true 0]⟩, sh := false, cuts := [⟨3, [1, 2, 5, 6], ⟨[.sc (.fz 9 false 0), .sc (.pt 0 0), .sc (.ow 1), .sc (.i .i64 1)], [.bx [.i .i64 2, .i .i64 3, .i .i64 4, .i .i64 5, .fz 116 false 6, .fz 127 false 7, .fz 129 false 8], .rw 9 true 9]⟩⟩, ⟨8, [2, 5, 7], ⟨[.sc (.pt 0 0), .sc (.ow 1), .sc (.i .i64 0)], [.bx [.i .i64 1, .i .i64 2, .i .i64 3, .i .i64 4, .fz 116 false 5, .fz 127 false 6, .fz 129 false 7], .rw 9 true 8]⟩⟩, ⟨14, [2, 5, 7, 9, 10], ⟨[.sc (.pt 0 0), .sc (.ow 1), .sc (.i .i64 0), .sc (.fz 9 false 1), .sc (.i .i64 2)], [.bx [.i .i64 3, .i .i64 4, .i .i64 5, .i .i64 6, .fz 116 false 7, .fz 127 false 8, .fz 129 false 9], .rw 9 true 10]⟩⟩] }
noncomputable def Lqc : Option Nat → Lv → Option Lv := Lim Try.prog [dqh.sig (Lqh none), dqi.sig (Lqi none)] dqc Try.f66
theorem eqc_i (a0 a1 a2 a3 : Int) (a4 a5 a6 a7 : Rw) : Lqc none [.i a0, .i a1, .i a2, .i a3, .l a4, .l a5, .l a6, .l a7] =
 Lqc (some 3) [.l a7, .i 0, .i a0, .i a1, .i a2, .i a3, .l a4, .l a5, .l a6, .l ([] : Rw)] := (zd _ _).trans (by kernel_rfl)
theorem eqc_3 (a0 : Rw) (a1 a2 a3 a4 a5 : Int) (a6 a7 a8 a9 : Rw) : Lqc (some 3) [.l a0, .i a1, .i a2, .i a3, .i a4, .i a5, .l a6, .l a7, .l a8, .l a9] =
 cond (decide (a1 < (a0.length : Int))) (
 cond (inb a1 a0.length) (
 (Lqi none [.l a9, .s ((rd a0 a1.toNat 0).str)]).bind fun y1 =>
 cond (!(g y1 0).bool) (
 cond (inb a1 a0.length) (
 cond (decide (a9.length + ([[.s ((rd a0 a1.toNat 0).str)]] : Rw).length ≤ most)) (
 Lqc (some 3) [.l a0, .i (IntKind.i64.wrap (a1 + 1)), .i a2, .i a3, .i a4, .i a5, .l a6, .l a7, .l a8, .l (a9 ++ ([[.s ((rd a0 a1.toNat 0).str)]] : Rw))]) (
 none)) (
 none)) (
 Lqc (some 3) [.l a0, .i (IntKind.i64.wrap (a1 + 1)), .i a2, .i a3, .i a4, .i a5, .l a6, .l a7, .l a8, .l a9])) (
 none)) (
 Lqc (some 8) [.i 0, .i a2, .i a3, .i a4, .i a5, .l a6, .l a7, .l a8, .l a9]) := (zd _ _).trans (by kernel_rfl)
theorem eqc_8 (a0 a1 a2 a3 a4 : Int) (a5 a6 a7 a8 : Rw) : Lqc (some 8) [.i a0, .i a1, .i a2, .i a3, .i a4, .l a5, .l a6, .l a7, .l a8] =
 cond (decide (a0 < (a8.length : Int))) (
 cond (inb a0 a8.length) (
 (Lqh none [.i a1, .i a2, .i a3, .i a4, .l a5, .l a6, .l a7, .s ((rd a8 a0.toNat 0).str)]).bind fun y1 =>
 cond (decide ((g y1 0).int < 0)) (
 Lqc (some 8) [.i (IntKind.i64.wrap (a0 + 1)), .i a1, .i a2, .i a3, .i a4, .l a5, .l a6, .l a7, .l a8]) (
 cond (inb ((g y1 0).int) a5.length) (
 Lqc (some 14) [.i a0, .l ((rd a5 (((g y1 0).int).toNat) 3).list), .i 0, .i a1, .i a2, .i a3, .i a4, .l a5, .l a6, .l a7, .l a8]) (
 none))) (
 none)) (
 some [.l a8]) := (zd _ _).trans (by kernel_rfl)
theorem eqc_14 (a0 : Int) (a1 : Rw) (a2 a3 a4 a5 a6 : Int) (a7 a8 a9 a10 : Rw) : Lqc (some 14) [.i a0, .l a1, .i a2, .i a3, .i a4, .i a5, .i a6, .l a7, .l a8, .l a9, .l a10] =
 cond (decide (a2 < (a1.length : Int))) (
 cond (inb a2 a1.length) (
 (Lqi none [.l a10, .s ((rd a1 a2.toNat 0).str)]).bind fun y1 =>
 cond (!(g y1 0).bool) (
 cond (inb a2 a1.length) (
 cond (decide (a10.length + ([[.s ((rd a1 a2.toNat 0).str)]] : Rw).length ≤ most)) (
 Lqc (some 14) [.i a0, .l a1, .i (IntKind.i64.wrap (a2 + 1)), .i a3, .i a4, .i a5, .i a6, .l a7, .l a8, .l a9, .l (a10 ++ ([[.s ((rd a1 a2.toNat 0).str)]] : Rw))]) (
 none)) (
 none)) (
 Lqc (some 14) [.i a0, .l a1, .i (IntKind.i64.wrap (a2 + 1)), .i a3, .i a4, .i a5, .i a6, .l a7, .l a8, .l a9, .l a10])) (
 none)) (
 Lqc (some 8) [.i (IntKind.i64.wrap (a0 + 1)), .i a3, .i a4, .i a5, .i a6, .l a7, .l a8, .l a9, .l a10]) := (zd _ _).trans (by kernel_rfl)
theorem kqc : SigOk Try.prog (dqc.sig (Lqc none)) ∧ (dqc.sig (Lqc none)).ok = true := zf (ze kqh (by kernel_rfl) (ze kqi (by kernel_rfl) zg)) (by kernel_rfl) (by kernel_rfl) (by kernel_rfl)
def dqg : FD := { fn := 36, nb := 0, pre := ⟨[.ag [.i .i64 0, .i .i64 1, .i .i64 2, .i .i64 3, .fz 116 false 4, .fz 127 false 5, .fz 129 false 6], .sc (.s 7)], []⟩, post := ⟨[.tu [(false, [.ow 0]), (false, [.ow 1])]], [.rw 9 true 0, .rw 3 true 1]⟩, sh := false, cuts := [⟨6, [1, 2, 6, 7, 8], ⟨[.sc (.s 0), .sc (.pt 0 0), .sc (.ow 1), .sc (.ow 2), .sc (.i .i64 1)], [.bx [.i .i64 2, .i .i64 3, .i .i64 4, .i .i64 5, .fz 116 false 6, .fz 127 false 7, .fz 129 false 8], .rw 9 true 9, .rw 3 true 10]⟩⟩, ⟨11, [1, 2, 6, 7, 9], ⟨[.sc (.s 0), .sc (.pt 0 0), .sc (.ow 1), .sc (.ow 2), .sc (.i .i64 1)], [.bx [.i .i64 2, .i .i64 3, .i .i64 4, .i .i64 5, .fz 116 false 6, .fz 127 false 7, .fz 129 false 8], .rw 9 true 9, .rw 3 true 10]⟩⟩] }
noncomputable def Lqg : Option Nat → Lv → Option Lv := Lim Try.prog [dqh.sig (Lqh none), dqf.sig (Lqf none), dqi.sig (Lqi none), dqc.sig (Lqc none)] dqg Try.f36
theorem eqg_i (a0 a1 a2 a3 : Int) (a4 a5 a6 : Rw) (a7 : ByteArray) : Lqg none [.i a0, .i a1, .i a2, .i a3, .l a4, .l a5, .l a6, .s a7] =
 (Lqf none [.i a0, .i a1, .i a2, .i a3, .l a4, .l a5, .l a6]).bind fun y1 =>
 cond (!(g y1 0).bool) (
 some [.l ([] : Rw), .l ([] : Rw)]) (
 (Lqh none [.i a0, .i a1, .i a2, .i a3, .l a4, .l a5, .l a6, .s a7]).bind fun y2 =>
 cond (decide ((g y2 0).int < 0)) (
 some [.l ([] : Rw), .l ([] : Rw)]) (
 Lqg (some 6) [.s a7, .i 0, .i a0, .i a1, .i a2, .i a3, .l a4, .l a5, .l a6, .l ([] : Rw), .l ([] : Rw)])) := (zd _ _).trans (by kernel_rfl)
theorem eqg_6 (a0 : ByteArray) (a1 a2 a3 a4 a5 : Int) (a6 a7 a8 a9 a10 : Rw) : Lqg (some 6) [.s a0, .i a1, .i a2, .i a3, .i a4, .i a5, .l a6, .l a7, .l a8, .l a9, .l a10] =
 cond (decide (a1 < (a7.length : Int))) (
 cond (inb a1 a7.length) (
 (Lqc none [.i a2, .i a3, .i a4, .i a5, .l a6, .l a7, .l a8, .l ([[.s ((rd a7 a1.toNat 1).str)]] : Rw)]).bind fun y1 =>
 (Lqi none [.l ((g y1 0).list), .s a0]).bind fun y2 =>
 cond ((g y2 0).bool) (
 cond (inb a1 a7.length) (
 cond (decide (a9.length + ([[.s ((rd a7 a1.toNat 0).str)]] : Rw).length ≤ most)) (
 Lqg (some 6) [.s a0, .i (IntKind.i64.wrap (a1 + 1)), .i a2, .i a3, .i a4, .i a5, .l a6, .l a7, .l a8, .l (a9 ++ ([[.s ((rd a7 a1.toNat 0).str)]] : Rw)), .l a10]) (
 none)) (
 none)) (
 Lqg (some 6) [.s a0, .i (IntKind.i64.wrap (a1 + 1)), .i a2, .i a3, .i a4, .i a5, .l a6, .l a7, .l a8, .l a9, .l a10])) (
 none)) (
 Lqg (some 11) [.s a0, .i 0, .i a2, .i a3, .i a4, .i a5, .l a6, .l a7, .l a8, .l a9, .l a10]) := (zd _ _).trans (by kernel_rfl)
theorem eqg_11 (a0 : ByteArray) (a1 a2 a3 a4 a5 : Int) (a6 a7 a8 a9 a10 : Rw) : Lqg (some 11) [.s a0, .i a1, .i a2, .i a3, .i a4, .i a5, .l a6, .l a7, .l a8, .l a9, .l a10] =
 cond (decide (a1 < (a8.length : Int))) (
 cond (inb a1 a8.length) (
 (Lqc none [.i a2, .i a3, .i a4, .i a5, .l a6, .l a7, .l a8, .l ([[.s ((rd a8 a1.toNat 1).str)]] : Rw)]).bind fun y1 =>
 (Lqi none [.l ((g y1 0).list), .s a0]).bind fun y2 =>
 cond ((g y2 0).bool) (
 cond (inb a1 a8.length) (
 cond (decide (a10.length + ([[.i ((rd a8 a1.toNat 0).int)]] : Rw).length ≤ most)) (
 Lqg (some 11) [.s a0, .i (IntKind.i64.wrap (a1 + 1)), .i a2, .i a3, .i a4, .i a5, .l a6, .l a7, .l a8, .l a9, .l (a10 ++ ([[.i ((rd a8 a1.toNat 0).int)]] : Rw))]) (
 none)) (
 none)) (
 Lqg (some 11) [.s a0, .i (IntKind.i64.wrap (a1 + 1)), .i a2, .i a3, .i a4, .i a5, .l a6, .l a7, .l a8, .l a9, .l a10])) (
 none)) (
 some [.l a9, .l a10]) := (zd _ _).trans (by kernel_rfl)
theorem kqg : SigOk Try.prog (dqg.sig (Lqg none)) ∧ (dqg.sig (Lqg none)).ok = true := zf (ze kqh (by kernel_rfl) (ze kqf (by kernel_rfl) (ze kqi (by kernel_rfl) (ze kqc (by kernel_rfl) zg)))) (by kernel_rfl) (by kernel_rfl) (by kernel_rfl)
def dqbz : FD := { fn := 151, nb := 0, pre := ⟨[.sc (.i .i64 0), .sc (.pt 0 0), .sc (.pt 2 0)], [.rb [.pt 1 0], .rb [.i .i64 1, .i .i64 2, .i .i64 3, .i .i64 4, .fz 116 false 5, .fz 127 false 6, .fz 129 false 7], .rb [.s 8]]⟩, post := ⟨[.sc (.b 0)], []⟩, sh := false, cuts := [] }
noncomputable def Lqbz : Option Nat → Lv → Option Lv := Lim Try.prog [] dqbz Try.f151
theorem eqbz_i (a0 a1 a2 a3 a4 : Int) (a5 a6 a7 : Rw) (a8 : ByteArray) : Lqbz none [.i a0, .i a1, .i a2, .i a3, .i a4, .l a5, .l a6, .l a7, .s a8] =
 cond (inb a0 a5.length) (
 some [.b (!slt ((rd a5 a0.toNat 0).str) a8)]) (
 none) := (zd _ _).trans (by kernel_rfl)
theorem kqbz : SigOk Try.prog (dqbz.sig (Lqbz none)) ∧ (dqbz.sig (Lqbz none)).ok = true := zf zg (by kernel_rfl) (by kernel_rfl) (by kernel_rfl)
def dqba : FD := { fn := 150, nb := 0, pre := ⟨[.sc (.i .i64 0), .sc (.fn 151 [(0, 0), (2, 0)])], [.rb [.pt 1 0], .rb [.i .i64 1, .i .i64 2, .i .i64 3, .i .i64 4, .fz 116 false 5, .fz 127 false 6, .fz 129 false 7], .rb [.s 8]]⟩, post := ⟨[.sc (.i .i64 0)], []⟩, sh := false, cuts := [⟨2, [1, 5, 6], ⟨[.sc (.fn 151 [(0, 0), (1, 0)]), .sc (.i .i64 0), .sc (.i .i64 1)], [.rb [.pt 2 0], .rb [.s 2], .rb [.i .i64 3, .i .i64 4, .i .i64 5, .i .i64 6, .fz 116 false 7, .fz 127 false 8, .fz 129 false 9]]⟩⟩] }
noncomputable def Lqba : Option Nat → Lv → Option Lv := Lim Try.prog [dqbz.sig (Lqbz none)] dqba Try.f150
theorem eqba_i (a0 a1 a2 a3 a4 : Int) (a5 a6 a7 : Rw) (a8 : ByteArray) : Lqba none [.i a0, .i a1, .i a2, .i a3, .i a4, .l a5, .l a6, .l a7, .s a8] =
 Lqba (some 2) [.i 0, .i a0, .s a8, .i a1, .i a2, .i a3, .i a4, .l a5, .l a6, .l a7] := (zd _ _).trans (by kernel_rfl)
theorem eqba_2 (a0 a1 : Int) (a2 : ByteArray) (a3 a4 a5 a6 : Int) (a7 a8 a9 : Rw) : Lqba (some 2) [.i a0, .i a1, .s a2, .i a3, .i a4, .i a5, .i a6, .l a7, .l a8, .l a9] =
 cond (decide (a0 < a1)) (
 (Lqbz none [.i (IntKind.i64.wrap ((IntKind.u64.wrap (IntKind.i64.wrap (a0 + a1))).fdiv (2 ^ 1))), .i a3, .i a4, .i a5, .i a6, .l a7, .l a8, .l a9, .s a2]).bind fun y1 =>
 cond (!(g y1 0).bool) (
 Lqba (some 2) [.i (IntKind.i64.wrap ((IntKind.i64.wrap ((IntKind.u64.wrap (IntKind.i64.wrap (a0 + a1))).fdiv (2 ^ 1))) + 1)), .i a1, .s a2, .i a3, .i a4, .i a5, .i a6, .l a7, .l a8, .l a9]) (
 Lqba (some 2) [.i a0, .i (IntKind.i64.wrap ((IntKind.u64.wrap (IntKind.i64.wrap (a0 + a1))).fdiv (2 ^ 1))), .s a2, .i a3, .i a4, .i a5, .i a6, .l a7, .l a8, .l a9])) (
 some [.i a0]) := (zd _ _).trans (by kernel_rfl)
theorem kqba : SigOk Try.prog (dqba.sig (Lqba none)) ∧ (dqba.sig (Lqba none)).ok = true := zf (ze kqbz (by kernel_rfl) zg) (by kernel_rfl) (by kernel_rfl) (by kernel_rfl)
def dqbb : FD := { fn := 94, nb := 0, pre := ⟨[.sc (.pt 0 0), .sc (.s 0)], [.rb [.i .i64 1, .i .i64 2, .i .i64 3, .i .i64 4, .fz 116 false 5, .fz 127 false 6, .fz 129 false 7]]⟩, post := ⟨[.tu [(false, [.i .i64 0]), (false, [.b 1])]], []⟩, sh := false, cuts := [] }
noncomputable def Lqbb : Option Nat → Lv → Option Lv := Lim Try.prog [dqba.sig (Lqba none)] dqbb Try.f94
theorem eqbb_i (a0 : ByteArray) (a1 a2 a3 a4 : Int) (a5 a6 a7 : Rw) : Lqbb none [.s a0, .i a1, .i a2, .i a3, .i a4, .l a5, .l a6, .l a7] =
 (Lqba none [.i (a5.length : Int), .i a1, .i a2, .i a3, .i a4, .l a5, .l a6, .l a7, .s a0]).bind fun y1 =>
 cond (decide ((g y1 0).int < (a5.length : Int))) (
 cond (inb ((g y1 0).int) a5.length) (
 some [.i ((g y1 0).int), .b (Eng.seq ((rd a5 (((g y1 0).int).toNat) 0).str) a0)]) (
 none)) (
 some [.i ((g y1 0).int), .b false]) := (zd _ _).trans (by kernel_rfl)
theorem kqbb : SigOk Try.prog (dqbb.sig (Lqbb none)) ∧ (dqbb.sig (Lqbb none)).ok = true := zf (ze kqba (by kernel_rfl) zg) (by kernel_rfl) (by kernel_rfl) (by kernel_rfl)
def dqbg : FD := { fn := 90, nb := 0, pre := ⟨[.sc (.i .i64 0)], []⟩, post := ⟨[.sc (.b 0)], []⟩, sh := false, cuts := [] }
noncomputable def Lqbg : Option Nat → Lv → Option Lv := Lim Try.prog [] dqbg Try.f90
theorem eqbg_i (a0 : Int) : Lqbg none [.i a0] =
 cond (decide (1 ≤ a0)) (
 some [.b (decide (a0 ≤ 8))]) (
 some [.b false]) := (zd _ _).trans (by kernel_rfl)
theorem kqbg : SigOk Try.prog (dqbg.sig (Lqbg none)) ∧ (dqbg.sig (Lqbg none)).ok = true := zf zg (by kernel_rfl) (by kernel_rfl) (by kernel_rfl)
def dqbi : FD := { fn := 124, nb := 0, pre := ⟨[.sc (.i .i64 0)], []⟩, post := ⟨[.sc (.b 0)], []⟩, sh := false, cuts := [] }
noncomputable def Lqbi : Option Nat → Lv → Option Lv := Lim Try.prog [] dqbi Try.f124
theorem eqbi_i (a0 : Int) : Lqbi none [.i a0] =
 cond (decide (0 ≤ a0)) (
 some [.b (decide (a0 ≤ 1000000000))]) (
 some [.b false]) := (zd _ _).trans (by kernel_rfl)
theorem kqbi : SigOk Try.prog (dqbi.sig (Lqbi none)) ∧ (dqbi.sig (Lqbi none)).ok = true := zf zg (by kernel_rfl) (by kernel_rfl) (by kernel_rfl)
def dqp : FD := { fn := 125, nb := 0, pre := ⟨[.ag [.s 0, .fz 9 false 1], .sc (.i .i64 2)], []⟩, post := ⟨[.sc (.b 0)], []⟩, sh := false, cuts := [⟨4, [1, 2, 18, 19, 20], ⟨[.sc (.i .i64 0), .sc (.pt 0 0), .sc (.fz 9 false 1), .sc (.i .i64 2), .sc (.i .i64 3)], [.bx [.s 4, .fz 9 false 5]]⟩⟩] }
noncomputable def Lqp : Option Nat → Lv → Option Lv := Lim Try.prog [dqbg.sig (Lqbg none)] dqp Try.f125
theorem eqp_i (a0 : ByteArray) (a1 : Rw) (a2 : Int) : Lqp none [.s a0, .l a1, .i a2] =
 cond (decide (2000 < (a0.size : Int))) (
 some [.b false]) (
 cond (decide (30 < (a1.length : Int))) (
 some [.b false]) (
 Lqp (some 4) [.i a2, .l a1, .i (a1.length : Int), .i 0, .s a0, .l a1])) := (zd _ _).trans (by kernel_rfl)
theorem eqp_4 (a0 : Int) (a1 : Rw) (a2 a3 : Int) (a4 : ByteArray) (a5 : Rw) : Lqp (some 4) [.i a0, .l a1, .i a2, .i a3, .s a4, .l a5] =
 cond (decide (a3 < a2)) (
 cond (inb a3 a1.length) (
 cond ((((rd a1 a3.toNat 0).str).size : Int) != a0) (
 some [.b false]) (
 cond (decide (0 < a3)) (
 cond (inb (IntKind.i64.wrap (a3 - 1)) a5.length) (
 cond (!slt ((rd a5 ((IntKind.i64.wrap (a3 - 1)).toNat) 0).str) ((rd a1 a3.toNat 0).str)) (
 some [.b false]) (
 Lqp (some 4) [.i a0, .l a1, .i a2, .i (IntKind.i64.wrap (a3 + 1)), .s a4, .l a5])) (
 none)) (
 Lqp (some 4) [.i a0, .l a1, .i a2, .i (IntKind.i64.wrap (a3 + 1)), .s a4, .l a5]))) (
 none)) (
 (Lqbg none [.i a0]).bind fun y1 =>
 some [.b ((g y1 0).bool)]) := (zd _ _).trans (by kernel_rfl)
theorem kqp : SigOk Try.prog (dqp.sig (Lqp none)) ∧ (dqp.sig (Lqp none)).ok = true := zf (ze kqbg (by kernel_rfl) zg) (by kernel_rfl) (by kernel_rfl) (by kernel_rfl)
def dqj : FD := { fn := 126, nb := 0, pre := ⟨[.sc (.s 0), .sc (.i .i64 1)], []⟩, post := ⟨[.sc (.s 0)], []⟩, sh := false, cuts := [⟨5, [0, 1, 5, 13, 14], ⟨[.sc (.s 0), .sc (.i .i64 1), .sc (.i .u64 2), .sc (.i .i64 3), .sc (.i .i64 4)], []⟩⟩, ⟨12, [5, 7, 8], ⟨[.sc (.i .u64 0), .sc (.ow 0), .sc (.i .i64 1)], [.rw 5 true 2]⟩⟩] }
noncomputable def Lqj : Option Nat → Lv → Option Lv := Lim Try.prog [dqbg.sig (Lqbg none)] dqj Try.f126
theorem eqj_i (a0 : ByteArray) (a1 : Int) : Lqj none [.s a0, .i a1] =
 (Lqbg none [.i a1]).bind fun y1 =>
 cond (!(g y1 0).bool) (
 some [.s (⟨#[]⟩ : ByteArray)]) (
 Lqj (some 5) [.s a0, .i a1, .i 14695981039346656037, .i (a0.size : Int), .i 0]) := (zd _ _).trans (by kernel_rfl)
theorem eqj_5 (a0 : ByteArray) (a1 a2 a3 a4 : Int) : Lqj (some 5) [.s a0, .i a1, .i a2, .i a3, .i a4] =
 cond (decide (a4 < a3)) (
 cond (inb a4 a0.size) (
 Lqj (some 5) [.s a0, .i a1, .i (IntKind.u64.wrap ((IntKind.u64.wrap (BitVec.ofInt (IntKind.u64).bits a2 ^^^ BitVec.ofInt (IntKind.u64).bits (IntKind.u64.wrap (byteAt a0 a4.toNat))).toNat) * 1099511628211)), .i a3, .i (IntKind.i64.wrap (a4 + 1))]) (
 none)) (
 cond (decide (0 ≤ a1)) (
 cond (a1 == a1) (
 cond (decide (a1 ≤ (most : Int))) (
 Lqj (some 12) [.i a2, .i (IntKind.i64.wrap (a1 - 1)), .l (List.replicate a1.toNat ([.i 0] : List C))]) (
 none)) (
 none)) (
 none)) := (zd _ _).trans (by kernel_rfl)
theorem eqj_12 (a0 a1 : Int) (a2 : Rw) : Lqj (some 12) [.i a0, .i a1, .l a2] =
 cond (decide (0 ≤ a1)) (
 cond (inb a1 a2.length) (
 Lqj (some 12) [.i (a0.fdiv (2 ^ 8)), .i (IntKind.i64.wrap (a1 - 1)), .l (wrs a2 a1.toNat 0 ([.i (IntKind.u8.wrap a0)] : List C))]) (
 none)) (
 some [.s (bytesOf a2)]) := (zd _ _).trans (by kernel_rfl)
theorem kqj : SigOk Try.prog (dqj.sig (Lqj none)) ∧ (dqj.sig (Lqj none)).ok = true := zf (ze kqbg (by kernel_rfl) zg) (by kernel_rfl) (by kernel_rfl) (by kernel_rfl)
def dqv : FD := { fn := 127, nb := 0, pre := ⟨[.ag [.s 0, .fz 9 false 1]], []⟩, post := ⟨[.sc (.s 0)], []⟩, sh := false, cuts := [⟨3, [1, 3, 13, 14, 15], ⟨[.sc (.pt 0 0), .sc (.s 0), .sc (.fz 9 false 1), .sc (.i .i64 2), .sc (.i .i64 3)], [.bx [.s 4, .fz 9 false 5]]⟩⟩] }
noncomputable def Lqv : Option Nat → Lv → Option Lv := Lim Try.prog [] dqv Try.f127
theorem eqv_i (a0 : ByteArray) (a1 : Rw) : Lqv none [.s a0, .l a1] =
 Lqv (some 3) [.s (bytesOf ([[.i (IntKind.u8.wrap (a1.length : Int))]] : Rw)), .l a1, .i (a1.length : Int), .i 0, .s a0, .l a1] := (zd _ _).trans (by kernel_rfl)
theorem eqv_3 (a0 : ByteArray) (a1 : Rw) (a2 a3 : Int) (a4 : ByteArray) (a5 : Rw) : Lqv (some 3) [.s a0, .l a1, .i a2, .i a3, .s a4, .l a5] =
 cond (decide (a3 < a2)) (
 cond (inb a3 a1.length) (
 cond (decide (a0.size + ((rd a1 a3.toNat 0).str).size ≤ most)) (
 Lqv (some 3) [.s (a0 ++ ((rd a1 a3.toNat 0).str)), .l a1, .i a2, .i (IntKind.i64.wrap (a3 + 1)), .s a4, .l a5]) (
 none)) (
 none)) (
 cond (decide (a0.size + a4.size ≤ most)) (
 some [.s (a0 ++ a4)]) (
 none)) := (zd _ _).trans (by kernel_rfl)
theorem kqv : SigOk Try.prog (dqv.sig (Lqv none)) ∧ (dqv.sig (Lqv none)).ok = true := zf zg (by kernel_rfl) (by kernel_rfl) (by kernel_rfl)
def dqbc : FD := { fn := 128, nb := 0, pre := ⟨[.sc (.s 0)], []⟩, post := ⟨[.sc (.b 0)], []⟩, sh := false, cuts := [⟨2, [0, 5, 6], ⟨[.sc (.s 0), .sc (.i .i64 1), .sc (.i .i64 2)], []⟩⟩] }
noncomputable def Lqbc : Option Nat → Lv → Option Lv := Lim Try.prog [] dqbc Try.f128
theorem eqbc_i (a0 : ByteArray) : Lqbc none [.s a0] =
 Lqbc (some 2) [.s a0, .i (a0.size : Int), .i 0] := (zd _ _).trans (by kernel_rfl)
theorem eqbc_2 (a0 : ByteArray) (a1 a2 : Int) : Lqbc (some 2) [.s a0, .i a1, .i a2] =
 cond (decide (a2 < a1)) (
 cond (inb a2 a0.size) (
 cond (decide ((byteAt a0 a2.toNat) < 33)) (
 some [.b false]) (
 cond (inb a2 a0.size) (
 cond (decide (126 < (byteAt a0 a2.toNat))) (
 some [.b false]) (
 Lqbc (some 2) [.s a0, .i a1, .i (IntKind.i64.wrap (a2 + 1))])) (
 none))) (
 none)) (
 cond (decide (1 ≤ (a0.size : Int))) (
 some [.b (decide ((a0.size : Int) ≤ 40))]) (
 some [.b false])) := (zd _ _).trans (by kernel_rfl)
theorem kqbc : SigOk Try.prog (dqbc.sig (Lqbc none)) ∧ (dqbc.sig (Lqbc none)).ok = true := zf zg (by kernel_rfl) (by kernel_rfl) (by kernel_rfl)
def dqa : FD := { fn := 71, nb := 0, pre := ⟨[.ag [.i .i64 0, .i .i64 1, .i .i64 2, .i .i64 3, .fz 116 false 4, .fz 127 false 5, .fz 129 false 6]], []⟩, post := ⟨[.sc (.b 0)], []⟩, sh := false, cuts := [⟨5, [1, 3, 62, 63, 64], ⟨[.sc (.pt 0 0), .sc (.mp 1), .sc (.fz 116 false 0), .sc (.i .i64 1), .sc (.i .i64 2)], [.bx [.i .i64 3, .i .i64 4, .i .i64 5, .i .i64 6, .fz 116 false 7, .fz 127 false 8, .fz 129 false 9], .mp 3 4 10]⟩⟩, ⟨12, [1, 125, 126, 127], ⟨[.sc (.pt 0 0), .sc (.fz 116 false 0), .sc (.i .i64 1), .sc (.i .i64 2)], [.bx [.i .i64 3, .i .i64 4, .i .i64 5, .i .i64 6, .fz 116 false 7, .fz 127 false 8, .fz 129 false 9]]⟩⟩, ⟨15, [1, 7, 125, 126, 127, 133, 134, 135], ⟨[.sc (.pt 0 0), .sc (.pt 1 0), .sc (.fz 116 false 0), .sc (.i .i64 1), .sc (.i .i64 2), .sc (.fz 9 false 3), .sc (.i .i64 4), .sc (.i .i64 5)], [.bx [.i .i64 6, .i .i64 7, .i .i64 8, .i .i64 9, .fz 116 false 10, .fz 127 false 11, .fz 129 false 12], .bx [.s 13, .i .i64 14, .s 15, .fz 9 false 16]]⟩⟩, ⟨23, [1, 160, 161, 162], ⟨[.sc (.pt 0 0), .sc (.fz 127 false 0), .sc (.i .i64 1), .sc (.i .i64 2)], [.bx [.i .i64 3, .i .i64 4, .i .i64 5, .i .i64 6, .fz 116 false 7, .fz 127 false 8, .fz 129 false 9]]⟩⟩, ⟨30, [1, 199, 200, 201], ⟨[.sc (.pt 0 0), .sc (.fz 129 false 0), .sc (.i .i64 1), .sc (.i .i64 2)], [.bx [.i .i64 3, .i .i64 4, .i .i64 5, .i .i64 6, .fz 116 false 7, .fz 127 false 8, .fz 129 false 9]]⟩⟩] }
noncomputable def Lqa : Option Nat → Lv → Option Lv := Lim Try.prog [dqbg.sig (Lqbg none), dqbb.sig (Lqbb none), dqbi.sig (Lqbi none), dqp.sig (Lqp none), dqj.sig (Lqj none), dqv.sig (Lqv none), dqbc.sig (Lqbc none)] dqa Try.f71
theorem eqa_i (a0 a1 a2 a3 : Int) (a4 a5 a6 : Rw) : Lqa none [.i a0, .i a1, .i a2, .i a3, .l a4, .l a5, .l a6] =
 (Lqbg none [.i a0]).bind fun y1 =>
 cond (!(g y1 0).bool) (
 some [.b false]) (
 (Lqbi none [.i a1]).bind fun y2 =>
 cond (!(g y2 0).bool) (
 some [.b false]) (
 (Lqbi none [.i a2]).bind fun y3 =>
 cond (!(g y3 0).bool) (
 some [.b false]) (
 (Lqbi none [.i a3]).bind fun y4 =>
 cond (!(g y4 0).bool) (
 some [.b false]) (
 cond (decide (600 < (a4.length : Int))) (
 some [.b false]) (
 cond (decide (100 < (a5.length : Int))) (
 some [.b false]) (
 cond (decide (200 < (a6.length : Int))) (
 some [.b false]) (
 Lqa (some 5) [.l a4, .i (a4.length : Int), .i 0, .i a0, .i a1, .i a2, .i a3, .l a4, .l a5, .l a6, .m ([])]))))))) := (zd _ _).trans (by kernel_rfl)
theorem eqa_5 (a0 : Rw) (a1 a2 a3 a4 a5 a6 : Int) (a7 a8 a9 : Rw) (a10 : List (C × C)) : Lqa (some 5) [.l a0, .i a1, .i a2, .i a3, .i a4, .i a5, .i a6, .l a7, .l a8, .l a9, .m a10] =
 cond (decide (a2 < a1)) (
 cond (inb a2 a0.length) (
 cond (decide (0 < a2)) (
 cond (inb (IntKind.i64.wrap (a2 - 1)) a7.length) (
 cond (!slt ((rd a7 ((IntKind.i64.wrap (a2 - 1)).toNat) 0).str) ((rd a0 a2.toNat 0).str)) (
 some [.b false]) (
 (Lqp none [.s ((rd a0 a2.toNat 2).str), .l ((rd a0 a2.toNat 3).list), .i a3]).bind fun y1 =>
 cond (!(g y1 0).bool) (
 some [.b false]) (
 (Lqv none [.s ((rd a0 a2.toNat 2).str), .l ((rd a0 a2.toNat 3).list)]).bind fun y2 =>
 (Lqj none [.s ((g y2 0).str), .i a3]).bind fun y3 =>
 cond (!Eng.seq ((rd a0 a2.toNat 0).str) ((g y3 0).str)) (
 some [.b false]) (
 cond (decide ((rd a0 a2.toNat 1).int < 1)) (
 some [.b false]) (
 cond (decide (a6 < (rd a0 a2.toNat 1).int)) (
 some [.b false]) (
 cond (((mget (.i .i64) (.i ((rd a0 a2.toNat 1).int)) a10).getD (.b false)).bool) (
 some [.b false]) (
 Lqa (some 5) [.l a0, .i a1, .i (IntKind.i64.wrap (a2 + 1)), .i a3, .i a4, .i a5, .i a6, .l a7, .l a8, .l a9, .m (mput (.i .i64) (.i ((rd a0 a2.toNat 1).int)) (.b true) a10)]))))))) (
 none)) (
 (Lqp none [.s ((rd a0 a2.toNat 2).str), .l ((rd a0 a2.toNat 3).list), .i a3]).bind fun y4 =>
 cond (!(g y4 0).bool) (
 some [.b false]) (
 (Lqv none [.s ((rd a0 a2.toNat 2).str), .l ((rd a0 a2.toNat 3).list)]).bind fun y5 =>
 (Lqj none [.s ((g y5 0).str), .i a3]).bind fun y6 =>
 cond (!Eng.seq ((rd a0 a2.toNat 0).str) ((g y6 0).str)) (
 some [.b false]) (
 cond (decide ((rd a0 a2.toNat 1).int < 1)) (
 some [.b false]) (
 cond (decide (a6 < (rd a0 a2.toNat 1).int)) (
 some [.b false]) (
 cond (((mget (.i .i64) (.i ((rd a0 a2.toNat 1).int)) a10).getD (.b false)).bool) (
 some [.b false]) (
 Lqa (some 5) [.l a0, .i a1, .i (IntKind.i64.wrap (a2 + 1)), .i a3, .i a4, .i a5, .i a6, .l a7, .l a8, .l a9, .m (mput (.i .i64) (.i ((rd a0 a2.toNat 1).int)) (.b true) a10)]))))))) (
 none)) (
 Lqa (some 12) [.l a7, .i (a7.length : Int), .i 0, .i a3, .i a4, .i a5, .i a6, .l a7, .l a8, .l a9]) := (zd _ _).trans (by kernel_rfl)
theorem eqa_12 (a0 : Rw) (a1 a2 a3 a4 a5 a6 : Int) (a7 a8 a9 : Rw) : Lqa (some 12) [.l a0, .i a1, .i a2, .i a3, .i a4, .i a5, .i a6, .l a7, .l a8, .l a9] =
 cond (decide (a2 < a1)) (
 cond (inb a2 a0.length) (
 Lqa (some 15) [.l a0, .i a1, .i a2, .l ((rd a0 a2.toNat 3).list), .i (((rd a0 a2.toNat 3).list).length : Int), .i 0, .i a3, .i a4, .i a5, .i a6, .l a7, .l a8, .l a9, .s ((rd a0 a2.toNat 0).str), .i ((rd a0 a2.toNat 1).int), .s ((rd a0 a2.toNat 2).str), .l ((rd a0 a2.toNat 3).list)]) (
 none)) (
 Lqa (some 23) [.l a8, .i (a8.length : Int), .i 0, .i a3, .i a4, .i a5, .i a6, .l a7, .l a8, .l a9]) := (zd _ _).trans (by kernel_rfl)
theorem eqa_15 (a0 : Rw) (a1 a2 : Int) (a3 : Rw) (a4 a5 a6 a7 a8 a9 : Int) (a10 a11 a12 : Rw) (a13 : ByteArray) (a14 : Int) (a15 : ByteArray) (a16 : Rw) : Lqa (some 15) [.l a0, .i a1, .i a2, .l a3, .i a4, .i a5, .i a6, .i a7, .i a8, .i a9, .l a10, .l a11, .l a12, .s a13, .i a14, .s a15, .l a16] =
 cond (decide (a5 < a4)) (
 cond (inb a5 a3.length) (
 (Lqbb none [.s ((rd a3 a5.toNat 0).str), .i a6, .i a7, .i a8, .i a9, .l a10, .l a11, .l a12]).bind fun y1 =>
 cond (!(g y1 1).bool) (
 some [.b false]) (
 cond (inb ((g y1 0).int) a10.length) (
 cond (decide (a14 ≤ (rd a10 (((g y1 0).int).toNat) 1).int)) (
 some [.b false]) (
 Lqa (some 15) [.l a0, .i a1, .i a2, .l a3, .i a4, .i (IntKind.i64.wrap (a5 + 1)), .i a6, .i a7, .i a8, .i a9, .l a10, .l a11, .l a12, .s a13, .i a14, .s a15, .l a16])) (
 none))) (
 none)) (
 Lqa (some 12) [.l a0, .i a1, .i (IntKind.i64.wrap (a2 + 1)), .i a6, .i a7, .i a8, .i a9, .l a10, .l a11, .l a12]) := (zd _ _).trans (by kernel_rfl)
theorem eqa_23 (a0 : Rw) (a1 a2 a3 a4 a5 a6 : Int) (a7 a8 a9 : Rw) : Lqa (some 23) [.l a0, .i a1, .i a2, .i a3, .i a4, .i a5, .i a6, .l a7, .l a8, .l a9] =
 cond (decide (a2 < a1)) (
 cond (inb a2 a0.length) (
 (Lqbb none [.s ((rd a0 a2.toNat 1).str), .i a3, .i a4, .i a5, .i a6, .l a7, .l a8, .l a9]).bind fun y1 =>
 cond (!(g y1 1).bool) (
 some [.b false]) (
 (Lqbc none [.s ((rd a0 a2.toNat 0).str)]).bind fun y2 =>
 cond (!(g y2 0).bool) (
 some [.b false]) (
 cond (decide (0 < a2)) (
 cond (inb (IntKind.i64.wrap (a2 - 1)) a8.length) (
 cond (!slt ((rd a8 ((IntKind.i64.wrap (a2 - 1)).toNat) 0).str) ((rd a0 a2.toNat 0).str)) (
 some [.b false]) (
 Lqa (some 23) [.l a0, .i a1, .i (IntKind.i64.wrap (a2 + 1)), .i a3, .i a4, .i a5, .i a6, .l a7, .l a8, .l a9])) (
 none)) (
 Lqa (some 23) [.l a0, .i a1, .i (IntKind.i64.wrap (a2 + 1)), .i a3, .i a4, .i a5, .i a6, .l a7, .l a8, .l a9])))) (
 none)) (
 Lqa (some 30) [.l a9, .i (a9.length : Int), .i 0, .i a3, .i a4, .i a5, .i a6, .l a7, .l a8, .l a9]) := (zd _ _).trans (by kernel_rfl)
theorem eqa_30 (a0 : Rw) (a1 a2 a3 a4 a5 a6 : Int) (a7 a8 a9 : Rw) : Lqa (some 30) [.l a0, .i a1, .i a2, .i a3, .i a4, .i a5, .i a6, .l a7, .l a8, .l a9] =
 cond (decide (a2 < a1)) (
 cond (inb a2 a0.length) (
 (Lqbb none [.s ((rd a0 a2.toNat 1).str), .i a3, .i a4, .i a5, .i a6, .l a7, .l a8, .l a9]).bind fun y1 =>
 cond (!(g y1 1).bool) (
 some [.b false]) (
 cond (decide ((rd a0 a2.toNat 0).int < 1)) (
 some [.b false]) (
 cond (decide (a5 < (rd a0 a2.toNat 0).int)) (
 some [.b false]) (
 cond (decide (0 < a2)) (
 cond (inb (IntKind.i64.wrap (a2 - 1)) a9.length) (
 cond (decide ((rd a0 a2.toNat 0).int ≤ (rd a9 ((IntKind.i64.wrap (a2 - 1)).toNat) 0).int)) (
 some [.b false]) (
 cond (decide ((rd a0 a2.toNat 2).int ≤ a4)) (
 some [.b false]) (
 cond (decide ((IntKind.i64.wrap (a4 + 100000)) < (rd a0 a2.toNat 2).int)) (
 some [.b false]) (
 Lqa (some 30) [.l a0, .i a1, .i (IntKind.i64.wrap (a2 + 1)), .i a3, .i a4, .i a5, .i a6, .l a7, .l a8, .l a9])))) (
 none)) (
 cond (decide ((rd a0 a2.toNat 2).int ≤ a4)) (
 some [.b false]) (
 cond (decide ((IntKind.i64.wrap (a4 + 100000)) < (rd a0 a2.toNat 2).int)) (
 some [.b false]) (
 Lqa (some 30) [.l a0, .i a1, .i (IntKind.i64.wrap (a2 + 1)), .i a3, .i a4, .i a5, .i a6, .l a7, .l a8, .l a9]))))))) (
 none)) (
 some [.b true]) := (zd _ _).trans (by kernel_rfl)
theorem kqa : SigOk Try.prog (dqa.sig (Lqa none)) ∧ (dqa.sig (Lqa none)).ok = true := zf (ze kqbg (by kernel_rfl) (ze kqbb (by kernel_rfl) (ze kqbi (by kernel_rfl) (ze kqp (by kernel_rfl) (ze kqj (by kernel_rfl) (ze kqv (by kernel_rfl) (ze kqbc (by kernel_rfl) zg))))))) (by kernel_rfl) (by kernel_rfl) (by kernel_rfl)
end KV
end
section
namespace KV
open Go Go.Eng Go.Proofs
def sortRen : Go.Shelf.Ren := ⟨fun | 125 => 174 | 128 => 186 | 129 => 187 | 190 => 153 | 192 => 96 | 258 => 173 | 302 => 177 | 303 => 178 | 304 => 179 | 305 => 180 | 306 => 181 | 307 => 182 | 308 => 183 | 309 => 184 | 310 => 185 | 329 => 189 | 330 => 190 | 333 => 188 | 334 => 191 | 335 => 192 | 336 => 193 | 344 => 194 | n => n, fun | 0 => 0 | 3 => 3 | 4 => 4 | 5 => 5 | 9 => 9 | 31 => 28 | 46 => 188 | 51 => 190 | 53 => 187 | 131 => 130 | 182 => 197 | 183 => 198 | 218 => 206 | 222 => 210 | 228 => 212 | 229 => 213 | n => n, fun n => n⟩
theorem sortLaid : Go.Proofs.Lays.n192 Try.prog sortRen := {
 mixed := by kernel_rfl
 f125 := Try.func174.trans (congrArg some (by kernel_rfl))
 f128 := Try.func186.trans (congrArg some (by kernel_rfl))
 f129 := Try.func187.trans (congrArg some (by kernel_rfl))
 f190 := Try.func153.trans (congrArg some (by kernel_rfl))
 f192 := Try.func96.trans (congrArg some (by kernel_rfl))
 f258 := Try.func173.trans (congrArg some (by kernel_rfl))
 f302 := Try.func177.trans (congrArg some (by kernel_rfl))
 f303 := Try.func178.trans (congrArg some (by kernel_rfl))
 f304 := Try.func179.trans (congrArg some (by kernel_rfl))
 f305 := Try.func180.trans (congrArg some (by kernel_rfl))
 f306 := Try.func181.trans (congrArg some (by kernel_rfl))
 f307 := Try.func182.trans (congrArg some (by kernel_rfl))
 f308 := Try.func183.trans (congrArg some (by kernel_rfl))
 f309 := Try.func184.trans (congrArg some (by kernel_rfl))
 f310 := Try.func185.trans (congrArg some (by kernel_rfl))
 f329 := Try.func189.trans (congrArg some (by kernel_rfl))
 f330 := Try.func190.trans (congrArg some (by kernel_rfl))
 f333 := Try.func188.trans (congrArg some (by kernel_rfl))
 f334 := Try.func191.trans (congrArg some (by kernel_rfl))
 f335 := Try.func192.trans (congrArg some (by kernel_rfl))
 f336 := Try.func193.trans (congrArg some (by kernel_rfl))
 f344 := Try.func194.trans (congrArg some (by kernel_rfl))
 t0 := Try.underlying0
 a0 := Try.isAgg0
 z0 := Try.sizeOf0
 v0 := Try.zeroValue0
 t3 := Try.underlying3
 a3 := Try.isAgg3
 z3 := Try.sizeOf3
 v3 := Try.zeroValue3
 t4 := Try.underlying4
 a4 := Try.isAgg4
 z4 := Try.sizeOf4
 v4 := Try.zeroValue4
 t5 := Try.underlying5
 a5 := Try.isAgg5
 z5 := Try.sizeOf5
 v5 := Try.zeroValue5
 t9 := Try.underlying9
 a9 := Try.isAgg9
 z9 := Try.sizeOf9
 v9 := Try.zeroValue9
 t31 := Try.underlying28
 a31 := Try.isAgg28
 z31 := Try.sizeOf28
 v31 := Try.zeroValue28
 t46 := Try.underlying188
 a46 := Try.isAgg188
 z46 := Try.sizeOf188
 v46 := Try.zeroValue188
 t51 := Try.underlying190
 a51 := Try.isAgg190
 z51 := Try.sizeOf190
 v51 := Try.zeroValue190
 t53 := Try.underlying187
 a53 := Try.isAgg187
 z53 := Try.sizeOf187
 v53 := Try.zeroValue187
 t131 := Try.underlying130
 a131 := Try.isAgg130
 z131 := Try.sizeOf130
 v131 := Try.zeroValue130
 t182 := Try.underlying197
 a182 := Try.isAgg197
 z182 := Try.sizeOf197
 v182 := Try.zeroValue197
 t183 := Try.underlying198
 a183 := Try.isAgg198
 z183 := Try.sizeOf198
 v183 := Try.zeroValue198
 t218 := Try.underlying206
 a218 := Try.isAgg206
 z218 := Try.sizeOf206
 v218 := Try.zeroValue206
 t222 := Try.underlying210
 a222 := Try.isAgg210
 z222 := Try.sizeOf210
 v222 := Try.zeroValue210
 t228 := Try.underlying212
 a228 := Try.isAgg212
 z228 := Try.sizeOf212
 v228 := Try.zeroValue212
 t229 := Try.underlying213
 a229 := Try.isAgg213
 z229 := Try.sizeOf213
 v229 := Try.zeroValue213 }
theorem sort_says : SortSays Try.prog 96 := fun blk off cap ss w hH hblk hsz => calls_of_every_depth fun D => AnyS.sort_Strings_in sortLaid D blk off cap ss w hH hblk hsz
theorem sort_nil : SortNil Try.prog 96 := fun p cap w => calls_of_every_depth fun D => AnyS.sort_Strings_none_in sortLaid D p cap w
end KV
end
section
set_option maxRecDepth 100000
namespace KV
open Go Go.Eng Go.Proofs
def dqbq : FD := { fn := 152, nb := 0, pre := ⟨[.sc (.fz 9 false 0)], []⟩, post := ⟨[.sc (.ow 0)], [.rw 9 true 0]⟩, sh := false, cuts := [] }
noncomputable def Lqbq : Option Nat → Lv → Option Lv := Lim Try.prog [] dqbq Try.f152
theorem eqbq_i (a0 : Rw) : Lqbq none [.l a0] =
 cond (decide (a0.length ≤ most)) (
 some [.l a0]) (
 none) := (zd _ _).trans (by kernel_rfl)
theorem kqbq : SigOk Try.prog (dqbq.sig (Lqbq none)) ∧ (dqbq.sig (Lqbq none)).ok = true := zf zg (by kernel_rfl) (by kernel_rfl) (by kernel_rfl)
def dqq : FD := { fn := 95, nb := 0, pre := ⟨[.sc (.pt 0 0), .sc (.fz 9 false 0)], [.rb [.i .i64 1, .i .i64 2, .i .i64 3, .i .i64 4, .fz 116 false 5, .fz 127 false 6, .fz 129 false 7]]⟩, post := ⟨[.sc (.mp 0)], [.mp 9 4 0]⟩, sh := false, cuts := [⟨3, [0, 5, 6], ⟨[.sc (.pt 0 0), .sc (.mp 1), .sc (.ow 2)], [.rb [.i .i64 0, .i .i64 1, .i .i64 2, .i .i64 3, .fz 116 false 4, .fz 127 false 5, .fz 129 false 6], .mp 9 4 7, .rw 9 true 8]⟩⟩] }
noncomputable def Lqq : Option Nat → Lv → Option Lv := Lim Try.prog [dqbb.sig (Lqbb none), dqbq.sig (Lqbq none)] dqq Try.f95
theorem eqq_i (a0 : Rw) (a1 a2 a3 a4 : Int) (a5 a6 a7 : Rw) : Lqq none [.l a0, .i a1, .i a2, .i a3, .i a4, .l a5, .l a6, .l a7] =
 (Lqbq none [.l a0]).bind fun y1 =>
 Lqq (some 3) [.i a1, .i a2, .i a3, .i a4, .l a5, .l a6, .l a7, .m ([]), .l ((g y1 0).list)] := (zd _ _).trans (by kernel_rfl)
theorem eqq_3 (a0 a1 a2 a3 : Int) (a4 a5 a6 : Rw) (a7 : List (C × C)) (a8 : Rw) : Lqq (some 3) [.i a0, .i a1, .i a2, .i a3, .l a4, .l a5, .l a6, .m a7, .l a8] =
 cond (decide (0 < (a8.length : Int))) (
 cond (inb (IntKind.i64.wrap ((a8.length : Int) - 1)) a8.length) (
 cond (decide (0 ≤ (IntKind.i64.wrap ((a8.length : Int) - 1)))) (
 cond (decide ((IntKind.i64.wrap ((a8.length : Int) - 1)) ≤ (a8.length : Int))) (
 (Lqbb none [.s ((rd a8 ((IntKind.i64.wrap ((a8.length : Int) - 1)).toNat) 0).str), .i a0, .i a1, .i a2, .i a3, .l a4, .l a5, .l a6]).bind fun y1 =>
 cond (!(g y1 1).bool) (
 Lqq (some 3) [.i a0, .i a1, .i a2, .i a3, .l a4, .l a5, .l a6, .m a7, .l (Eng.sub a8 0 ((IntKind.i64.wrap ((a8.length : Int) - 1)).toNat))]) (
 cond (((mget .s (.s ((rd a8 ((IntKind.i64.wrap ((a8.length : Int) - 1)).toNat) 0).str)) a7).getD (.b false)).bool) (
 Lqq (some 3) [.i a0, .i a1, .i a2, .i a3, .l a4, .l a5, .l a6, .m a7, .l (Eng.sub a8 0 ((IntKind.i64.wrap ((a8.length : Int) - 1)).toNat))]) (
 cond (inb ((g y1 0).int) a4.length) (
 cond (decide ((Eng.sub a8 0 ((IntKind.i64.wrap ((a8.length : Int) - 1)).toNat)).length + ((rd a4 (((g y1 0).int).toNat) 3).list).length ≤ most)) (
 Lqq (some 3) [.i a0, .i a1, .i a2, .i a3, .l a4, .l a5, .l a6, .m (mput .s (.s ((rd a8 ((IntKind.i64.wrap ((a8.length : Int) - 1)).toNat) 0).str)) (.b true) a7), .l ((Eng.sub a8 0 ((IntKind.i64.wrap ((a8.length : Int) - 1)).toNat)) ++ (rd a4 (((g y1 0).int).toNat) 3).list)]) (
 none)) (
 none)))) (
 none)) (
 none)) (
 none)) (
 some [.m a7]) := (zd _ _).trans (by kernel_rfl)
theorem kqq : SigOk Try.prog (dqq.sig (Lqq none)) ∧ (dqq.sig (Lqq none)).ok = true := zf (ze kqbb (by kernel_rfl) (ze kqbq (by kernel_rfl) zg)) (by kernel_rfl) (by kernel_rfl) (by kernel_rfl)
def dqb0 : FD := sortD 96 9
noncomputable def Lqb0 : Option Nat → Lv → Option Lv := fun _ x => sortF x
theorem eqb0_i (a0 : Rw) : Lqb0 none [.l a0] = cond (decide (a0.length ≤ most)) (some [.l (sortRw a0)]) none := rfl
theorem kqb0 : SigOk Try.prog (dqb0.sig (Lqb0 none)) ∧ (dqb0.sig (Lqb0 none)).ok = true := zj3 (by kernel_rfl) (by kernel_rfl) sort_says sort_nil
def dqe : FD := { fn := 37, nb := 0, pre := ⟨[.ag [.i .i64 0, .i .i64 1, .i .i64 2, .i .i64 3, .fz 116 false 4, .fz 127 false 5, .fz 129 false 6], .sc (.s 7)], []⟩, post := ⟨[.tu [(false, [.ow 0]), (false, [.ow 1])]], [.rw 9 true 0, .rw 3 true 1]⟩, sh := false, cuts := [⟨9, [1, 2, 8, 9, 25, 26, 27], ⟨[.sc (.s 0), .sc (.pt 0 0), .sc (.ow 1), .sc (.ow 2), .sc (.fz 127 false 1), .sc (.i .i64 2), .sc (.i .i64 3)], [.bx [.i .i64 4, .i .i64 5, .i .i64 6, .i .i64 7, .fz 116 false 8, .fz 127 false 9, .fz 129 false 10], .rw 9 true 11, .rw 3 true 12]⟩⟩, ⟨15, [1, 2, 8, 9, 44, 45, 46], ⟨[.sc (.s 0), .sc (.pt 0 0), .sc (.ow 1), .sc (.ow 2), .sc (.fz 129 false 1), .sc (.i .i64 2), .sc (.i .i64 3)], [.bx [.i .i64 4, .i .i64 5, .i .i64 6, .i .i64 7, .fz 116 false 8, .fz 127 false 9, .fz 129 false 10], .rw 9 true 11, .rw 3 true 12]⟩⟩] }
noncomputable def Lqe : Option Nat → Lv → Option Lv := Lim Try.prog [dqbb.sig (Lqbb none), dqa.sig (Lqa none), dqq.sig (Lqq none), dqb0.sig (Lqb0 none)] dqe Try.f37
theorem eqe_i (a0 a1 a2 a3 : Int) (a4 a5 a6 : Rw) (a7 : ByteArray) : Lqe none [.i a0, .i a1, .i a2, .i a3, .l a4, .l a5, .l a6, .s a7] =
 (Lqa none [.i a0, .i a1, .i a2, .i a3, .l a4, .l a5, .l a6]).bind fun y1 =>
 cond (!(g y1 0).bool) (
 some [.l [], .l []]) (
 (Lqbb none [.s a7, .i a0, .i a1, .i a2, .i a3, .l a4, .l a5, .l a6]).bind fun y2 =>
 cond (!(g y2 1).bool) (
 some [.l [], .l []]) (
 Lqe (some 9) [.s a7, .l a5, .i (a5.length : Int), .i 0, .i a0, .i a1, .i a2, .i a3, .l a4, .l a5, .l a6, .l [], .l []])) := (zd _ _).trans (by kernel_rfl)
theorem eqe_9 (a0 : ByteArray) (a1 : Rw) (a2 a3 a4 a5 a6 a7 : Int) (a8 a9 a10 a11 a12 : Rw) : Lqe (some 9) [.s a0, .l a1, .i a2, .i a3, .i a4, .i a5, .i a6, .i a7, .l a8, .l a9, .l a10, .l a11, .l a12] =
 cond (decide (a3 < a2)) (
 cond (inb a3 a1.length) (
 (Lqq none [.l ([[.s ((rd a1 a3.toNat 1).str)]] : Rw), .i a4, .i a5, .i a6, .i a7, .l a8, .l a9, .l a10]).bind fun y1 =>
 cond (((mget .s (.s a0) ((g y1 0).map)).getD (.b false)).bool) (
 cond (decide (a11.length + ([[.s ((rd a1 a3.toNat 0).str)]] : Rw).length ≤ most)) (
 Lqe (some 9) [.s a0, .l a1, .i a2, .i (IntKind.i64.wrap (a3 + 1)), .i a4, .i a5, .i a6, .i a7, .l a8, .l a9, .l a10, .l (a11 ++ ([[.s ((rd a1 a3.toNat 0).str)]] : Rw)), .l a12]) (
 none)) (
 Lqe (some 9) [.s a0, .l a1, .i a2, .i (IntKind.i64.wrap (a3 + 1)), .i a4, .i a5, .i a6, .i a7, .l a8, .l a9, .l a10, .l a11, .l a12])) (
 none)) (
 Lqe (some 15) [.s a0, .l a10, .i (a10.length : Int), .i 0, .i a4, .i a5, .i a6, .i a7, .l a8, .l a9, .l a10, .l a11, .l a12]) := (zd _ _).trans (by kernel_rfl)
theorem eqe_15 (a0 : ByteArray) (a1 : Rw) (a2 a3 a4 a5 a6 a7 : Int) (a8 a9 a10 a11 a12 : Rw) : Lqe (some 15) [.s a0, .l a1, .i a2, .i a3, .i a4, .i a5, .i a6, .i a7, .l a8, .l a9, .l a10, .l a11, .l a12] =
 cond (decide (a3 < a2)) (
 cond (inb a3 a1.length) (
 (Lqq none [.l ([[.s ((rd a1 a3.toNat 1).str)]] : Rw), .i a4, .i a5, .i a6, .i a7, .l a8, .l a9, .l a10]).bind fun y1 =>
 cond (((mget .s (.s a0) ((g y1 0).map)).getD (.b false)).bool) (
 cond (decide (a12.length + ([[.i ((rd a1 a3.toNat 0).int)]] : Rw).length ≤ most)) (
 Lqe (some 15) [.s a0, .l a1, .i a2, .i (IntKind.i64.wrap (a3 + 1)), .i a4, .i a5, .i a6, .i a7, .l a8, .l a9, .l a10, .l a11, .l (a12 ++ ([[.i ((rd a1 a3.toNat 0).int)]] : Rw))]) (
 none)) (
 Lqe (some 15) [.s a0, .l a1, .i a2, .i (IntKind.i64.wrap (a3 + 1)), .i a4, .i a5, .i a6, .i a7, .l a8, .l a9, .l a10, .l a11, .l a12])) (
 none)) (
 (Lqb0 none [.l a11]).bind fun y2 =>
 some [.l ((g y2 0).list), .l a12]) := (zd _ _).trans (by kernel_rfl)
theorem kqe : SigOk Try.prog (dqe.sig (Lqe none)) ∧ (dqe.sig (Lqe none)).ok = true := zf (ze kqbb (by kernel_rfl) (ze kqa (by kernel_rfl) (ze kqq (by kernel_rfl) (ze kqb0 (by kernel_rfl) zg)))) (by kernel_rfl) (by kernel_rfl) (by kernel_rfl)
def dqw : FD := { fn := 38, nb := 0, pre := ⟨[.sc (.fz 3 false 0), .sc (.fz 3 false 1)], []⟩, post := ⟨[.sc (.b 0)], []⟩, sh := false, cuts := [⟨4, [0, 1, 5], ⟨[.sc (.fz 3 false 0), .sc (.fz 3 false 1), .sc (.i .i64 2)], []⟩⟩] }
noncomputable def Lqw : Option Nat → Lv → Option Lv := Lim Try.prog [] dqw Try.f38
theorem eqw_i (a0 a1 : Rw) : Lqw none [.l a0, .l a1] =
 cond ((a0.length : Int) != (a1.length : Int)) (
 some [.b false]) (
 Lqw (some 4) [.l a0, .l a1, .i 0]) := (zd _ _).trans (by kernel_rfl)
theorem eqw_4 (a0 a1 : Rw) (a2 : Int) : Lqw (some 4) [.l a0, .l a1, .i a2] =
 cond (decide (a2 < (a0.length : Int))) (
 cond (inb a2 a0.length) (
 cond (inb a2 a1.length) (
 cond ((rd a0 a2.toNat 0).int != (rd a1 a2.toNat 0).int) (
 some [.b false]) (
 Lqw (some 4) [.l a0, .l a1, .i (IntKind.i64.wrap (a2 + 1))])) (
 none)) (
 none)) (
 some [.b true]) := (zd _ _).trans (by kernel_rfl)
theorem kqw : SigOk Try.prog (dqw.sig (Lqw none)) ∧ (dqw.sig (Lqw none)).ok = true := zf zg (by kernel_rfl) (by kernel_rfl) (by kernel_rfl)
def dqbd : FD := { fn := 39, nb := 1, pre := ⟨[.sc (.ow 0), .sc (.i .i64 0)], [.rw 3 false 1]⟩, post := ⟨[.sc (.i .i64 0)], [.rw 3 false 1]⟩, sh := true, cuts := [⟨2, [0, 1, 5], ⟨[.sc (.ow 0), .sc (.i .i64 0), .sc (.i .i64 1)], [.rw 3 false 2]⟩⟩] }
noncomputable def Lqbd : Option Nat → Lv → Option Lv := Lim Try.prog [] dqbd Try.f39
theorem eqbd_i (a0 : Int) (a1 : Rw) : Lqbd none [.i a0, .l a1] =
 Lqbd (some 2) [.i a0, .i 0, .l a1] := (zd _ _).trans (by kernel_rfl)
theorem eqbd_2 (a0 a1 : Int) (a2 : Rw) : Lqbd (some 2) [.i a0, .i a1, .l a2] =
 cond (decide (a1 < (a2.length : Int))) (
 cond (inb a1 a2.length) (
 Lqbd (some 2) [.i (IntKind.i64.wrap (a0 + 1)), .i (IntKind.i64.wrap (a1 + 1)), .l (wrs a2 a1.toNat 0 ([.i a0] : List C))]) (
 none)) (
 some [.i a0, .l a2]) := (zd _ _).trans (by kernel_rfl)
theorem kqbd : SigOk Try.prog (dqbd.sig (Lqbd none)) ∧ (dqbd.sig (Lqbd none)).ok = true := zf zg (by kernel_rfl) (by kernel_rfl) (by kernel_rfl)
def dqx : FD := { fn := 40, nb := 0, pre := ⟨[.sc (.fz 3 false 0), .sc (.i .i64 1)], []⟩, post := ⟨[.sc (.i .i64 0)], []⟩, sh := false, cuts := [⟨2, [0, 1, 5], ⟨[.sc (.fz 3 false 0), .sc (.i .i64 1), .sc (.i .i64 2)], []⟩⟩] }
noncomputable def Lqx : Option Nat → Lv → Option Lv := Lim Try.prog [] dqx Try.f40
theorem eqx_i (a0 : Rw) (a1 : Int) : Lqx none [.l a0, .i a1] =
 Lqx (some 2) [.l a0, .i a1, .i 0] := (zd _ _).trans (by kernel_rfl)
theorem eqx_2 (a0 : Rw) (a1 a2 : Int) : Lqx (some 2) [.l a0, .i a1, .i a2] =
 cond (decide (a2 < (a0.length : Int))) (
 cond (inb a2 a0.length) (
 cond ((rd a0 a2.toNat 0).int != a1) (
 some [.i (-1)]) (
 Lqx (some 2) [.l a0, .i (IntKind.i64.wrap (a1 + 1)), .i (IntKind.i64.wrap (a2 + 1))])) (
 none)) (
 some [.i a1]) := (zd _ _).trans (by kernel_rfl)
theorem kqx : SigOk Try.prog (dqx.sig (Lqx none)) ∧ (dqx.sig (Lqx none)).ok = true := zf zg (by kernel_rfl) (by kernel_rfl) (by kernel_rfl)
def dqb1 : FD := { fn := 7, nb := 0, pre := ⟨[.ag [.i .i64 0, .i .i64 1, .i .i64 2, .i .i64 3, .fz 150 false 4, .fz 152 false 5, .fz 154 false 6], .sc (.s 7)], []⟩, post := ⟨[.sc (.b 0)], []⟩, sh := false, cuts := [] }
noncomputable def Lqb1 : Option Nat → Lv → Option Lv := Lim Try.prog [dqbo.sig (Lqbo none), dqbh.sig (Lqbh none), dqk.sig (Lqk none), dqbk.sig (Lqbk none), dqn.sig (Lqn none), dqbl.sig (Lqbl none), dqu.sig (Lqu none), dqg.sig (Lqg none), dqe.sig (Lqe none), dqw.sig (Lqw none), dqbd.sig (Lqbd none), dqx.sig (Lqx none)] dqb1 Try.f7
theorem eqb1_i (a0 a1 a2 a3 : Int) (a4 a5 a6 : Rw) (a7 : ByteArray) : Lqb1 none [.i a0, .i a1, .i a2, .i a3, .l a4, .l a5, .l a6, .s a7] =
 cond (decide (1048576 < (a7.size : Int))) (
 some [.b true]) (
 (Lqbo none [.i a0, .i a1, .i a2, .i a3, .l a4, .l a5, .l a6, .i 1048576]).bind fun y1 =>
 cond (decide ((g y1 0).int < 0)) (
 some [.b true]) (
 (Lqbh none [.i a0, .i a1, .i a2, .i a3, .l a4, .l a5, .l a6]).bind fun y2 =>
 (Lqg none [.i ((g y2 0).int), .i ((g y2 1).int), .i ((g y2 2).int), .i ((g y2 3).int), .l ((g y2 4).list), .l ((g y2 5).list), .l ((g y2 6).list), .s a7]).bind fun y3 =>
 (Lqbh none [.i a0, .i a1, .i a2, .i a3, .l a4, .l a5, .l a6]).bind fun y4 =>
 (Lqe none [.i ((g y4 0).int), .i ((g y4 1).int), .i ((g y4 2).int), .i ((g y4 3).int), .l ((g y4 4).list), .l ((g y4 5).list), .l ((g y4 6).list), .s a7]).bind fun y5 =>
 (Lqk none [.l ((g y5 0).list), .l ((g y3 0).list)]).bind fun y6 =>
 cond (!(g y6 0).bool) (
 some [.b false]) (
 (Lqw none [.l ((g y5 1).list), .l ((g y3 1).list)]).bind fun y7 =>
 cond (!(g y7 0).bool) (
 some [.b false]) (
 (Lqbh none [.i a0, .i a1, .i a2, .i a3, .l a4, .l a5, .l a6]).bind fun y8 =>
 (Lqbk none [.i ((g y4 0).int), .i ((g y4 1).int), .i ((g y4 2).int), .i ((g y4 3).int), .l ((g y4 4).list), .l ((g y4 5).list), .l ((g y4 6).list), .i ((g y8 0).int), .i ((g y8 1).int), .i ((g y8 2).int), .i ((g y8 3).int), .l ((g y8 4).list), .l ((g y8 5).list), .l ((g y8 6).list)]).bind fun y9 =>
 cond (!(g y9 0).bool) (
 some [.b false]) (
 (Lqbl none [.i ((g y4 0).int), .i ((g y4 1).int), .i ((g y4 2).int), .i ((g y4 3).int), .i 1, .l ((g y4 4).list), .l ((g y4 5).list), .l ((g y4 6).list)]).bind fun y10 =>
 cond (decide ((g y10 0).int < 0)) (
 some [.b false]) (
 (Lqk none [.l ((g y5 0).list), .l ((g y3 0).list)]).bind fun y11 =>
 cond (!(g y11 0).bool) (
 some [.b false]) (
 (Lqw none [.l ((g y5 1).list), .l ((g y3 1).list)]).bind fun y12 =>
 cond (!(g y12 0).bool) (
 some [.b false]) (
 (Lqn none [.i 1, .l ((g y5 0).list)]).bind fun y13 =>
 (Lqbd none [.i ((g y13 0).int), .l ((g y5 1).list)]).bind fun y14 =>
 (Lqu none [.l ((g y13 1).list), .i 1]).bind fun y15 =>
 cond (decide ((g y15 0).int < 0)) (
 some [.b false]) (
 (Lqx none [.l ((g y14 1).list), .i ((g y15 0).int)]).bind fun y16 =>
 cond (decide ((g y16 0).int < 0)) (
 some [.b false]) (
 cond ((g y16 0).int != (g y14 0).int) (
 some [.b false]) (
 (Lqbh none [.i a0, .i a1, .i a2, .i a3, .l a4, .l a5, .l a6]).bind fun y17 =>
 (Lqe none [.i ((g y17 0).int), .i ((g y17 1).int), .i ((g y17 2).int), .i ((g y17 3).int), .l ((g y17 4).list), .l ((g y17 5).list), .l ((g y17 6).list), .s a7]).bind fun y18 =>
 (Lqk none [.l ((g y18 0).list), .l ((g y3 0).list)]).bind fun y19 =>
 cond (!(g y19 0).bool) (
 some [.b false]) (
 (Lqw none [.l ((g y18 1).list), .l ((g y3 1).list)]).bind fun y20 =>
 cond (!(g y20 0).bool) (
 some [.b false]) (
 (Lqu none [.l ((g y13 1).list), .i 1]).bind fun y21 =>
 cond (decide ((g y21 0).int < 0)) (
 some [.b false]) (
 (Lqx none [.l ((g y14 1).list), .i ((g y21 0).int)]).bind fun y22 =>
 cond (decide ((g y22 0).int < 0)) (
 some [.b false]) (
 cond ((g y22 0).int != (g y14 0).int) (
 some [.b false]) (
 some [.b true])))))))))))))))) := (zd _ _).trans (by kernel_rfl)
theorem kqb1 : SigOk Try.prog (dqb1.sig (Lqb1 none)) ∧ (dqb1.sig (Lqb1 none)).ok = true := zf (ze kqbo (by kernel_rfl) (ze kqbh (by kernel_rfl) (ze kqk (by kernel_rfl) (ze kqbk (by kernel_rfl) (ze kqn (by kernel_rfl) (ze kqbl (by kernel_rfl) (ze kqu (by kernel_rfl) (ze kqg (by kernel_rfl) (ze kqe (by kernel_rfl) (ze kqw (by kernel_rfl) (ze kqbd (by kernel_rfl) (ze kqx (by kernel_rfl) zg)))))))))))) (by kernel_rfl) (by kernel_rfl) (by kernel_rfl)
end KV
end
