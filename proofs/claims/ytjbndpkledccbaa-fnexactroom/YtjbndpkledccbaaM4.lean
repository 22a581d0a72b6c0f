/- Walks of Go functions, printed by a program of ours. -/
import Derived.Test.YtjbndpkledccbaaProg
import Derived.Test.YtjbndpkledccbaaM1
import Derived.Test.YtjbndpkledccbaaM2
import Derived.Test.YtjbndpkledccbaaM3
set_option linter.unusedSimpArgs false
set_option linter.unusedVariables false
set_option linter.unusedSectionVars false
section
set_option maxRecDepth 100000
namespace KV
open Go Go.Eng Go.Proofs
def dqk : FD := { fn := 41, nb := 0, pre := ⟨[.sc (.fz 9 false 0), .sc (.i .i64 1)], []⟩, post := ⟨[.sc (.i .i64 0)], []⟩, sh := false, cuts := [⟨5, [0, 1, 5], ⟨[.sc (.fz 9 false 0), .sc (.i .i64 1), .sc (.i .i64 2)], []⟩⟩] }
noncomputable def Lqk : Option Nat → Lv → Option Lv := Lim Try.prog [] dqk Try.f41
theorem eqk_i (a0 : Rw) (a1 : Int) : Lqk none [.l a0, .i a1] =
 cond (decide ((IntKind.i64.wrap (a1 - (a0.length : Int))) < 0)) (
 some [.i (-1)]) (
 Lqk (some 5) [.l a0, .i (IntKind.i64.wrap (a1 - (a0.length : Int))), .i 0]) := (zd _ _).trans (by kernel_rfl)
theorem eqk_5 (a0 : Rw) (a1 a2 : Int) : Lqk (some 5) [.l a0, .i a1, .i a2] =
 cond (decide (a2 < (a0.length : Int))) (
 cond (inb a2 a0.length) (
 cond (decide ((IntKind.i64.wrap (a1 - (((rd a0 a2.toNat 0).str).size : Int))) < 0)) (
 some [.i (-1)]) (
 Lqk (some 5) [.l a0, .i (IntKind.i64.wrap (a1 - (((rd a0 a2.toNat 0).str).size : Int))), .i (IntKind.i64.wrap (a2 + 1))])) (
 none)) (
 some [.i a1]) := (zd _ _).trans (by kernel_rfl)
theorem kqk : SigOk Try.prog (dqk.sig (Lqk none)) ∧ (dqk.sig (Lqk none)).ok = true := zf zg (by kernel_rfl) (by kernel_rfl) (by kernel_rfl)
def dqbf : FD := { fn := 61, nb := 0, pre := ⟨[.ag [.s 0, .fz 9 false 1], .sc (.i .i64 2)], []⟩, post := ⟨[.sc (.i .i64 0)], []⟩, sh := false, cuts := [] }
noncomputable def Lqbf : Option Nat → Lv → Option Lv := Lim Try.prog [dqk.sig (Lqk none)] dqbf Try.f61
theorem eqbf_i (a0 : ByteArray) (a1 : Rw) (a2 : Int) : Lqbf none [.s a0, .l a1, .i a2] =
 cond (decide ((IntKind.i64.wrap (a2 - (a0.size : Int))) < 0)) (
 some [.i (-1)]) (
 (Lqk none [.l a1, .i (IntKind.i64.wrap (a2 - (a0.size : Int)))]).bind fun y1 =>
 cond (decide ((g y1 0).int < 0)) (
 some [.i (-1)]) (
 some [.i ((g y1 0).int)])) := (zd _ _).trans (by kernel_rfl)
theorem kqbf : SigOk Try.prog (dqbf.sig (Lqbf none)) ∧ (dqbf.sig (Lqbf none)).ok = true := zf (ze kqk (by kernel_rfl) zg) (by kernel_rfl) (by kernel_rfl) (by kernel_rfl)
def dqbb : FD := { fn := 46, nb := 0, pre := ⟨[.ag [.s 0, .i .i64 1, .s 2, .fz 9 false 3], .sc (.i .i64 4)], []⟩, post := ⟨[.sc (.i .i64 0)], []⟩, sh := false, cuts := [] }
noncomputable def Lqbb : Option Nat → Lv → Option Lv := Lim Try.prog [dqbf.sig (Lqbf none)] dqbb Try.f46
theorem eqbb_i (a0 : ByteArray) (a1 : Int) (a2 : ByteArray) (a3 : Rw) (a4 : Int) : Lqbb none [.s a0, .i a1, .s a2, .l a3, .i a4] =
 cond (decide ((IntKind.i64.wrap (a4 - (a0.size : Int))) < 0)) (
 some [.i (-1)]) (
 (Lqbf none [.s a2, .l a3, .i (IntKind.i64.wrap (a4 - (a0.size : Int)))]).bind fun y1 =>
 cond (decide ((g y1 0).int < 0)) (
 some [.i (-1)]) (
 some [.i ((g y1 0).int)])) := (zd _ _).trans (by kernel_rfl)
theorem kqbb : SigOk Try.prog (dqbb.sig (Lqbb none)) ∧ (dqbb.sig (Lqbb none)).ok = true := zf (ze kqbf (by kernel_rfl) zg) (by kernel_rfl) (by kernel_rfl) (by kernel_rfl)
def dql : FD := { fn := 18, nb := 0, pre := ⟨[.sc (.fz 82 false 0), .sc (.i .i64 1)], []⟩, post := ⟨[.sc (.i .i64 0)], []⟩, sh := false, cuts := [⟨5, [0, 1, 5], ⟨[.sc (.fz 82 false 0), .sc (.i .i64 1), .sc (.i .i64 2)], []⟩⟩] }
noncomputable def Lql : Option Nat → Lv → Option Lv := Lim Try.prog [dqbb.sig (Lqbb none)] dql Try.f18
theorem eql_i (a0 : Rw) (a1 : Int) : Lql none [.l a0, .i a1] =
 cond (decide ((IntKind.i64.wrap (a1 - (a0.length : Int))) < 0)) (
 some [.i (-1)]) (
 Lql (some 5) [.l a0, .i (IntKind.i64.wrap (a1 - (a0.length : Int))), .i 0]) := (zd _ _).trans (by kernel_rfl)
theorem eql_5 (a0 : Rw) (a1 a2 : Int) : Lql (some 5) [.l a0, .i a1, .i a2] =
 cond (decide (a2 < (a0.length : Int))) (
 cond (inb a2 a0.length) (
 (Lqbb none [.s ((rd a0 a2.toNat 0).str), .i ((rd a0 a2.toNat 1).int), .s ((rd a0 a2.toNat 2).str), .l ((rd a0 a2.toNat 3).list), .i a1]).bind fun y1 =>
 cond (decide ((g y1 0).int < 0)) (
 some [.i (-1)]) (
 Lql (some 5) [.l a0, .i ((g y1 0).int), .i (IntKind.i64.wrap (a2 + 1))])) (
 none)) (
 some [.i a1]) := (zd _ _).trans (by kernel_rfl)
theorem kql : SigOk Try.prog (dql.sig (Lql none)) ∧ (dql.sig (Lql none)).ok = true := zf (ze kqbb (by kernel_rfl) zg) (by kernel_rfl) (by kernel_rfl) (by kernel_rfl)
def dq7 : FD := { fn := 47, nb := 0, pre := ⟨[.ag [.s 0, .s 1], .sc (.i .i64 2)], []⟩, post := ⟨[.sc (.i .i64 0)], []⟩, sh := false, cuts := [] }
noncomputable def Lq7 : Option Nat → Lv → Option Lv := Lim Try.prog [] dq7 Try.f47
theorem eq7_i (a0 a1 : ByteArray) (a2 : Int) : Lq7 none [.s a0, .s a1, .i a2] =
 cond (decide ((IntKind.i64.wrap (a2 - (a0.size : Int))) < 0)) (
 some [.i (-1)]) (
 cond (decide ((IntKind.i64.wrap ((IntKind.i64.wrap (a2 - (a0.size : Int))) - (a1.size : Int))) < 0)) (
 some [.i (-1)]) (
 some [.i (IntKind.i64.wrap ((IntKind.i64.wrap (a2 - (a0.size : Int))) - (a1.size : Int)))])) := (zd _ _).trans (by kernel_rfl)
theorem kq7 : SigOk Try.prog (dq7.sig (Lq7 none)) ∧ (dq7.sig (Lq7 none)).ok = true := zf zg (by kernel_rfl) (by kernel_rfl) (by kernel_rfl)
def dqi : FD := { fn := 19, nb := 0, pre := ⟨[.sc (.fz 84 false 0), .sc (.i .i64 1)], []⟩, post := ⟨[.sc (.i .i64 0)], []⟩, sh := false, cuts := [⟨5, [0, 1, 5], ⟨[.sc (.fz 84 false 0), .sc (.i .i64 1), .sc (.i .i64 2)], []⟩⟩] }
noncomputable def Lqi : Option Nat → Lv → Option Lv := Lim Try.prog [dq7.sig (Lq7 none)] dqi Try.f19
theorem eqi_i (a0 : Rw) (a1 : Int) : Lqi none [.l a0, .i a1] =
 cond (decide ((IntKind.i64.wrap (a1 - (a0.length : Int))) < 0)) (
 some [.i (-1)]) (
 Lqi (some 5) [.l a0, .i (IntKind.i64.wrap (a1 - (a0.length : Int))), .i 0]) := (zd _ _).trans (by kernel_rfl)
theorem eqi_5 (a0 : Rw) (a1 a2 : Int) : Lqi (some 5) [.l a0, .i a1, .i a2] =
 cond (decide (a2 < (a0.length : Int))) (
 cond (inb a2 a0.length) (
 (Lq7 none [.s ((rd a0 a2.toNat 0).str), .s ((rd a0 a2.toNat 1).str), .i a1]).bind fun y1 =>
 cond (decide ((g y1 0).int < 0)) (
 some [.i (-1)]) (
 Lqi (some 5) [.l a0, .i ((g y1 0).int), .i (IntKind.i64.wrap (a2 + 1))])) (
 none)) (
 some [.i a1]) := (zd _ _).trans (by kernel_rfl)
theorem kqi : SigOk Try.prog (dqi.sig (Lqi none)) ∧ (dqi.sig (Lqi none)).ok = true := zf (ze kq7 (by kernel_rfl) zg) (by kernel_rfl) (by kernel_rfl) (by kernel_rfl)
def dqbc : FD := { fn := 48, nb := 0, pre := ⟨[.ag [.i .i64 0, .s 1, .i .i64 2], .sc (.i .i64 3)], []⟩, post := ⟨[.sc (.i .i64 0)], []⟩, sh := false, cuts := [] }
noncomputable def Lqbc : Option Nat → Lv → Option Lv := Lim Try.prog [] dqbc Try.f48
theorem eqbc_i (a0 : Int) (a1 : ByteArray) (a2 a3 : Int) : Lqbc none [.i a0, .s a1, .i a2, .i a3] =
 cond (decide ((IntKind.i64.wrap (a3 - (a1.size : Int))) < 0)) (
 some [.i (-1)]) (
 some [.i (IntKind.i64.wrap (a3 - (a1.size : Int)))]) := (zd _ _).trans (by kernel_rfl)
theorem kqbc : SigOk Try.prog (dqbc.sig (Lqbc none)) ∧ (dqbc.sig (Lqbc none)).ok = true := zf zg (by kernel_rfl) (by kernel_rfl) (by kernel_rfl)
def dqm : FD := { fn := 20, nb := 0, pre := ⟨[.sc (.fz 86 false 0), .sc (.i .i64 1)], []⟩, post := ⟨[.sc (.i .i64 0)], []⟩, sh := false, cuts := [⟨5, [0, 1, 5], ⟨[.sc (.fz 86 false 0), .sc (.i .i64 1), .sc (.i .i64 2)], []⟩⟩] }
noncomputable def Lqm : Option Nat → Lv → Option Lv := Lim Try.prog [dqbc.sig (Lqbc none)] dqm Try.f20
theorem eqm_i (a0 : Rw) (a1 : Int) : Lqm none [.l a0, .i a1] =
 cond (decide ((IntKind.i64.wrap (a1 - (a0.length : Int))) < 0)) (
 some [.i (-1)]) (
 Lqm (some 5) [.l a0, .i (IntKind.i64.wrap (a1 - (a0.length : Int))), .i 0]) := (zd _ _).trans (by kernel_rfl)
theorem eqm_5 (a0 : Rw) (a1 a2 : Int) : Lqm (some 5) [.l a0, .i a1, .i a2] =
 cond (decide (a2 < (a0.length : Int))) (
 cond (inb a2 a0.length) (
 (Lqbc none [.i ((rd a0 a2.toNat 0).int), .s ((rd a0 a2.toNat 1).str), .i ((rd a0 a2.toNat 2).int), .i a1]).bind fun y1 =>
 cond (decide ((g y1 0).int < 0)) (
 some [.i (-1)]) (
 Lqm (some 5) [.l a0, .i ((g y1 0).int), .i (IntKind.i64.wrap (a2 + 1))])) (
 none)) (
 some [.i a1]) := (zd _ _).trans (by kernel_rfl)
theorem kqm : SigOk Try.prog (dqm.sig (Lqm none)) ∧ (dqm.sig (Lqm none)).ok = true := zf (ze kqbc (by kernel_rfl) zg) (by kernel_rfl) (by kernel_rfl) (by kernel_rfl)
def dqbd : FD := { fn := 6, nb := 0, pre := ⟨[.ag [.i .i64 0, .i .i64 1, .i .i64 2, .i .i64 3, .fz 82 false 4, .fz 84 false 5, .fz 86 false 6], .sc (.i .i64 7)], []⟩, post := ⟨[.sc (.i .i64 0)], []⟩, sh := false, cuts := [] }
noncomputable def Lqbd : Option Nat → Lv → Option Lv := Lim Try.prog [dql.sig (Lql none), dqi.sig (Lqi none), dqm.sig (Lqm none)] dqbd Try.f6
theorem eqbd_i (a0 a1 a2 a3 : Int) (a4 a5 a6 : Rw) (a7 : Int) : Lqbd none [.i a0, .i a1, .i a2, .i a3, .l a4, .l a5, .l a6, .i a7] =
 (Lql none [.l a4, .i a7]).bind fun y1 =>
 cond (decide ((g y1 0).int < 0)) (
 some [.i (-1)]) (
 (Lqi none [.l a5, .i ((g y1 0).int)]).bind fun y2 =>
 cond (decide ((g y2 0).int < 0)) (
 some [.i (-1)]) (
 (Lqm none [.l a6, .i ((g y2 0).int)]).bind fun y3 =>
 cond (decide ((g y3 0).int < 0)) (
 some [.i (-1)]) (
 some [.i ((g y3 0).int)]))) := (zd _ _).trans (by kernel_rfl)
theorem kqbd : SigOk Try.prog (dqbd.sig (Lqbd none)) ∧ (dqbd.sig (Lqbd none)).ok = true := zf (ze kql (by kernel_rfl) (ze kqi (by kernel_rfl) (ze kqm (by kernel_rfl) zg))) (by kernel_rfl) (by kernel_rfl) (by kernel_rfl)
def dqn : FD := { fn := 43, nb := 0, pre := ⟨[.sc (.fz 9 false 0)], []⟩, post := ⟨[.sc (.ow 0)], [.dw 9 none 0]⟩, sh := false, cuts := [⟨3, [0, 3, 4], ⟨[.sc (.fz 9 false 0), .sc (.ow 0), .sc (.i .i64 1)], [.rw 9 true 2]⟩⟩] }
noncomputable def Lqn : Option Nat → Lv → Option Lv := Lim Try.prog [] dqn Try.f43
theorem eqn_i (a0 : Rw) : Lqn none [.l a0] =
 cond (decide (0 ≤ (a0.length : Int))) (
 cond ((a0.length : Int) == (a0.length : Int)) (
 cond (decide ((a0.length : Int) ≤ (most : Int))) (
 Lqn (some 3) [.l a0, .i 0, .l (List.replicate (a0.length : Int).toNat ([.s (⟨#[]⟩ : ByteArray)] : List C))]) (
 none)) (
 none)) (
 none) := (zd _ _).trans (by kernel_rfl)
theorem eqn_3 (a0 : Rw) (a1 : Int) (a2 : Rw) : Lqn (some 3) [.l a0, .i a1, .l a2] =
 cond (decide (a1 < (a0.length : Int))) (
 cond (inb a1 a0.length) (
 cond (inb a1 a2.length) (
 Lqn (some 3) [.l a0, .i (IntKind.i64.wrap (a1 + 1)), .l (wrs a2 a1.toNat 0 ([.s ((rd a0 a1.toNat 0).str)] : List C))]) (
 none)) (
 none)) (
 some [.l a2]) := (zd _ _).trans (by kernel_rfl)
theorem kqn : SigOk Try.prog (dqn.sig (Lqn none)) ∧ (dqn.sig (Lqn none)).ok = true := zf zg (by kernel_rfl) (by kernel_rfl) (by kernel_rfl)
def dqbg : FD := { fn := 62, nb := 0, pre := ⟨[.ag [.s 0, .fz 9 false 1]], []⟩, post := ⟨[.ag [.s 0, .ow 0]], [.dw 9 none 1]⟩, sh := false, cuts := [] }
noncomputable def Lqbg : Option Nat → Lv → Option Lv := Lim Try.prog [dqn.sig (Lqn none)] dqbg Try.f62
theorem eqbg_i (a0 : ByteArray) (a1 : Rw) : Lqbg none [.s a0, .l a1] =
 (Lqn none [.l a1]).bind fun y1 =>
 some [.s a0, .l ((g y1 0).list)] := (zd _ _).trans (by kernel_rfl)
theorem kqbg : SigOk Try.prog (dqbg.sig (Lqbg none)) ∧ (dqbg.sig (Lqbg none)).ok = true := zf (ze kqn (by kernel_rfl) zg) (by kernel_rfl) (by kernel_rfl) (by kernel_rfl)
def dqbe : FD := { fn := 52, nb := 0, pre := ⟨[.ag [.s 0, .i .i64 1, .s 2, .fz 9 false 3]], []⟩, post := ⟨[.ag [.s 0, .i .i64 1, .s 2, .ow 0]], [.dw 9 none 3]⟩, sh := false, cuts := [] }
noncomputable def Lqbe : Option Nat → Lv → Option Lv := Lim Try.prog [dqbg.sig (Lqbg none)] dqbe Try.f52
theorem eqbe_i (a0 : ByteArray) (a1 : Int) (a2 : ByteArray) (a3 : Rw) : Lqbe none [.s a0, .i a1, .s a2, .l a3] =
 (Lqbg none [.s a2, .l a3]).bind fun y1 =>
 some [.s a0, .i a1, .s ((g y1 0).str), .l ((g y1 1).list)] := (zd _ _).trans (by kernel_rfl)
theorem kqbe : SigOk Try.prog (dqbe.sig (Lqbe none)) ∧ (dqbe.sig (Lqbe none)).ok = true := zf (ze kqbg (by kernel_rfl) zg) (by kernel_rfl) (by kernel_rfl) (by kernel_rfl)
def dqo : FD := { fn := 26, nb := 0, pre := ⟨[.sc (.fz 82 false 0)], []⟩, post := ⟨[.sc (.ow 0)], [.dw 65 (some (3, 9)) 0]⟩, sh := false, cuts := [⟨3, [0, 3, 4], ⟨[.sc (.fz 82 false 0), .sc (.ow 0), .sc (.i .i64 1)], [.dw 65 (some (3, 9)) 2]⟩⟩] }
noncomputable def Lqo : Option Nat → Lv → Option Lv := Lim Try.prog [dqbe.sig (Lqbe none)] dqo Try.f26
theorem eqo_i (a0 : Rw) : Lqo none [.l a0] =
 cond (decide (0 ≤ (a0.length : Int))) (
 cond ((a0.length : Int) == (a0.length : Int)) (
 cond (decide ((a0.length : Int) ≤ (most : Int))) (
 Lqo (some 3) [.l a0, .i 0, .l (List.replicate (a0.length : Int).toNat ([.s (⟨#[]⟩ : ByteArray), .i 0, .s (⟨#[]⟩ : ByteArray), .l ([])] : List C))]) (
 none)) (
 none)) (
 none) := (zd _ _).trans (by kernel_rfl)
theorem eqo_3 (a0 : Rw) (a1 : Int) (a2 : Rw) : Lqo (some 3) [.l a0, .i a1, .l a2] =
 cond (decide (a1 < (a0.length : Int))) (
 cond (inb a1 a0.length) (
 (Lqbe none [.s ((rd a0 a1.toNat 0).str), .i ((rd a0 a1.toNat 1).int), .s ((rd a0 a1.toNat 2).str), .l ((rd a0 a1.toNat 3).list)]).bind fun y1 =>
 cond (inb a1 a2.length) (
 Lqo (some 3) [.l a0, .i (IntKind.i64.wrap (a1 + 1)), .l (wrs a2 a1.toNat 0 ([.s ((g y1 0).str), .i ((g y1 1).int), .s ((g y1 2).str), .l ((g y1 3).list)] : List C))]) (
 none)) (
 none)) (
 some [.l a2]) := (zd _ _).trans (by kernel_rfl)
theorem kqo : SigOk Try.prog (dqo.sig (Lqo none)) ∧ (dqo.sig (Lqo none)).ok = true := zf (ze kqbe (by kernel_rfl) zg) (by kernel_rfl) (by kernel_rfl) (by kernel_rfl)
def dqbh : FD := { fn := 53, nb := 0, pre := ⟨[.ag [.s 0, .s 1]], []⟩, post := ⟨[.ag [.s 0, .s 1]], []⟩, sh := false, cuts := [] }
noncomputable def Lqbh : Option Nat → Lv → Option Lv := Lim Try.prog [] dqbh Try.f53
theorem eqbh_i (a0 a1 : ByteArray) : Lqbh none [.s a0, .s a1] =
 some [.s a0, .s a1] := (zd _ _).trans (by kernel_rfl)
theorem kqbh : SigOk Try.prog (dqbh.sig (Lqbh none)) ∧ (dqbh.sig (Lqbh none)).ok = true := zf zg (by kernel_rfl) (by kernel_rfl) (by kernel_rfl)
end KV
end
section
set_option maxRecDepth 100000
namespace KV
open Go Go.Eng Go.Proofs
def dqp : FD := { fn := 27, nb := 0, pre := ⟨[.sc (.fz 84 false 0)], []⟩, post := ⟨[.sc (.ow 0)], [.dw 54 none 0]⟩, sh := false, cuts := [⟨3, [0, 3, 4], ⟨[.sc (.fz 84 false 0), .sc (.ow 0), .sc (.i .i64 1)], [.rw 54 true 2]⟩⟩] }
noncomputable def Lqp : Option Nat → Lv → Option Lv := Lim Try.prog [dqbh.sig (Lqbh none)] dqp Try.f27
theorem eqp_i (a0 : Rw) : Lqp none [.l a0] =
 cond (decide (0 ≤ (a0.length : Int))) (
 cond ((a0.length : Int) == (a0.length : Int)) (
 cond (decide ((a0.length : Int) ≤ (most : Int))) (
 Lqp (some 3) [.l a0, .i 0, .l (List.replicate (a0.length : Int).toNat ([.s (⟨#[]⟩ : ByteArray), .s (⟨#[]⟩ : ByteArray)] : List C))]) (
 none)) (
 none)) (
 none) := (zd _ _).trans (by kernel_rfl)
theorem eqp_3 (a0 : Rw) (a1 : Int) (a2 : Rw) : Lqp (some 3) [.l a0, .i a1, .l a2] =
 cond (decide (a1 < (a0.length : Int))) (
 cond (inb a1 a0.length) (
 (Lqbh none [.s ((rd a0 a1.toNat 0).str), .s ((rd a0 a1.toNat 1).str)]).bind fun y1 =>
 cond (inb a1 a2.length) (
 Lqp (some 3) [.l a0, .i (IntKind.i64.wrap (a1 + 1)), .l (wrs a2 a1.toNat 0 ([.s ((g y1 0).str), .s ((g y1 1).str)] : List C))]) (
 none)) (
 none)) (
 some [.l a2]) := (zd _ _).trans (by kernel_rfl)
theorem kqp : SigOk Try.prog (dqp.sig (Lqp none)) ∧ (dqp.sig (Lqp none)).ok = true := zf (ze kqbh (by kernel_rfl) zg) (by kernel_rfl) (by kernel_rfl) (by kernel_rfl)
def dqbi : FD := { fn := 54, nb := 0, pre := ⟨[.ag [.i .i64 0, .s 1, .i .i64 2]], []⟩, post := ⟨[.ag [.i .i64 0, .s 1, .i .i64 2]], []⟩, sh := false, cuts := [] }
noncomputable def Lqbi : Option Nat → Lv → Option Lv := Lim Try.prog [] dqbi Try.f54
theorem eqbi_i (a0 : Int) (a1 : ByteArray) (a2 : Int) : Lqbi none [.i a0, .s a1, .i a2] =
 some [.i a0, .s a1, .i a2] := (zd _ _).trans (by kernel_rfl)
theorem kqbi : SigOk Try.prog (dqbi.sig (Lqbi none)) ∧ (dqbi.sig (Lqbi none)).ok = true := zf zg (by kernel_rfl) (by kernel_rfl) (by kernel_rfl)
def dqq : FD := { fn := 28, nb := 0, pre := ⟨[.sc (.fz 86 false 0)], []⟩, post := ⟨[.sc (.ow 0)], [.dw 57 none 0]⟩, sh := false, cuts := [⟨3, [0, 3, 4], ⟨[.sc (.fz 86 false 0), .sc (.ow 0), .sc (.i .i64 1)], [.rw 57 true 2]⟩⟩] }
noncomputable def Lqq : Option Nat → Lv → Option Lv := Lim Try.prog [dqbi.sig (Lqbi none)] dqq Try.f28
theorem eqq_i (a0 : Rw) : Lqq none [.l a0] =
 cond (decide (0 ≤ (a0.length : Int))) (
 cond ((a0.length : Int) == (a0.length : Int)) (
 cond (decide ((a0.length : Int) ≤ (most : Int))) (
 Lqq (some 3) [.l a0, .i 0, .l (List.replicate (a0.length : Int).toNat ([.i 0, .s (⟨#[]⟩ : ByteArray), .i 0] : List C))]) (
 none)) (
 none)) (
 none) := (zd _ _).trans (by kernel_rfl)
theorem eqq_3 (a0 : Rw) (a1 : Int) (a2 : Rw) : Lqq (some 3) [.l a0, .i a1, .l a2] =
 cond (decide (a1 < (a0.length : Int))) (
 cond (inb a1 a0.length) (
 (Lqbi none [.i ((rd a0 a1.toNat 0).int), .s ((rd a0 a1.toNat 1).str), .i ((rd a0 a1.toNat 2).int)]).bind fun y1 =>
 cond (inb a1 a2.length) (
 Lqq (some 3) [.l a0, .i (IntKind.i64.wrap (a1 + 1)), .l (wrs a2 a1.toNat 0 ([.i ((g y1 0).int), .s ((g y1 1).str), .i ((g y1 2).int)] : List C))]) (
 none)) (
 none)) (
 some [.l a2]) := (zd _ _).trans (by kernel_rfl)
theorem kqq : SigOk Try.prog (dqq.sig (Lqq none)) ∧ (dqq.sig (Lqq none)).ok = true := zf (ze kqbi (by kernel_rfl) zg) (by kernel_rfl) (by kernel_rfl) (by kernel_rfl)
def dq4 : FD := { fn := 8, nb := 0, pre := ⟨[.ag [.i .i64 0, .i .i64 1, .i .i64 2, .i .i64 3, .fz 82 false 4, .fz 84 false 5, .fz 86 false 6]], []⟩, post := ⟨[.ag [.i .i64 0, .i .i64 1, .i .i64 2, .i .i64 3, .ow 0, .ow 1, .ow 2]], [.dw 65 (some (3, 9)) 4, .dw 54 none 5, .dw 57 none 6]⟩, sh := false, cuts := [] }
noncomputable def Lq4 : Option Nat → Lv → Option Lv := Lim Try.prog [dqo.sig (Lqo none), dqp.sig (Lqp none), dqq.sig (Lqq none)] dq4 Try.f8
theorem eq4_i (a0 a1 a2 a3 : Int) (a4 a5 a6 : Rw) : Lq4 none [.i a0, .i a1, .i a2, .i a3, .l a4, .l a5, .l a6] =
 (Lqo none [.l a4]).bind fun y1 =>
 (Lqp none [.l a5]).bind fun y2 =>
 (Lqq none [.l a6]).bind fun y3 =>
 some [.i a0, .i a1, .i a2, .i a3, .l ((g y1 0).list), .l ((g y2 0).list), .l ((g y3 0).list)] := (zd _ _).trans (by kernel_rfl)
theorem kq4 : SigOk Try.prog (dq4.sig (Lq4 none)) ∧ (dq4.sig (Lq4 none)).ok = true := zf (ze kqo (by kernel_rfl) (ze kqp (by kernel_rfl) (ze kqq (by kernel_rfl) zg))) (by kernel_rfl) (by kernel_rfl) (by kernel_rfl)
def dqr : FD := { fn := 45, nb := 0, pre := ⟨[.sc (.fz 9 false 0), .sc (.fz 9 false 1)], []⟩, post := ⟨[.sc (.b 0)], []⟩, sh := false, cuts := [⟨4, [0, 1, 5], ⟨[.sc (.fz 9 false 0), .sc (.fz 9 false 1), .sc (.i .i64 2)], []⟩⟩] }
noncomputable def Lqr : Option Nat → Lv → Option Lv := Lim Try.prog [] dqr Try.f45
theorem eqr_i (a0 a1 : Rw) : Lqr none [.l a0, .l a1] =
 cond ((a0.length : Int) != (a1.length : Int)) (
 some [.b false]) (
 Lqr (some 4) [.l a0, .l a1, .i 0]) := (zd _ _).trans (by kernel_rfl)
theorem eqr_4 (a0 a1 : Rw) (a2 : Int) : Lqr (some 4) [.l a0, .l a1, .i a2] =
 cond (decide (a2 < (a0.length : Int))) (
 cond (inb a2 a0.length) (
 cond (inb a2 a1.length) (
 cond (!Eng.seq ((rd a0 a2.toNat 0).str) ((rd a1 a2.toNat 0).str)) (
 some [.b false]) (
 Lqr (some 4) [.l a0, .l a1, .i (IntKind.i64.wrap (a2 + 1))])) (
 none)) (
 none)) (
 some [.b true]) := (zd _ _).trans (by kernel_rfl)
theorem kqr : SigOk Try.prog (dqr.sig (Lqr none)) ∧ (dqr.sig (Lqr none)).ok = true := zf zg (by kernel_rfl) (by kernel_rfl) (by kernel_rfl)
def dqbj : FD := { fn := 63, nb := 0, pre := ⟨[.ag [.s 0, .fz 9 false 1], .ag [.s 2, .fz 9 false 3]], []⟩, post := ⟨[.sc (.b 0)], []⟩, sh := false, cuts := [] }
noncomputable def Lqbj : Option Nat → Lv → Option Lv := Lim Try.prog [dqr.sig (Lqr none)] dqbj Try.f63
theorem eqbj_i (a0 : ByteArray) (a1 : Rw) (a2 : ByteArray) (a3 : Rw) : Lqbj none [.s a0, .l a1, .s a2, .l a3] =
 cond (!Eng.seq a0 a2) (
 some [.b false]) (
 (Lqr none [.l a1, .l a3]).bind fun y1 =>
 cond (!(g y1 0).bool) (
 some [.b false]) (
 some [.b true])) := (zd _ _).trans (by kernel_rfl)
theorem kqbj : SigOk Try.prog (dqbj.sig (Lqbj none)) ∧ (dqbj.sig (Lqbj none)).ok = true := zf (ze kqr (by kernel_rfl) zg) (by kernel_rfl) (by kernel_rfl) (by kernel_rfl)
def dqbk : FD := { fn := 57, nb := 0, pre := ⟨[.ag [.s 0, .i .i64 1, .s 2, .fz 9 false 3], .ag [.s 4, .i .i64 5, .s 6, .fz 9 false 7]], []⟩, post := ⟨[.sc (.b 0)], []⟩, sh := false, cuts := [] }
noncomputable def Lqbk : Option Nat → Lv → Option Lv := Lim Try.prog [dqbj.sig (Lqbj none)] dqbk Try.f57
theorem eqbk_i (a0 : ByteArray) (a1 : Int) (a2 : ByteArray) (a3 : Rw) (a4 : ByteArray) (a5 : Int) (a6 : ByteArray) (a7 : Rw) : Lqbk none [.s a0, .i a1, .s a2, .l a3, .s a4, .i a5, .s a6, .l a7] =
 cond (!Eng.seq a0 a4) (
 some [.b false]) (
 cond (a1 != a5) (
 some [.b false]) (
 (Lqbj none [.s a2, .l a3, .s a6, .l a7]).bind fun y1 =>
 cond (!(g y1 0).bool) (
 some [.b false]) (
 some [.b true]))) := (zd _ _).trans (by kernel_rfl)
theorem kqbk : SigOk Try.prog (dqbk.sig (Lqbk none)) ∧ (dqbk.sig (Lqbk none)).ok = true := zf (ze kqbj (by kernel_rfl) zg) (by kernel_rfl) (by kernel_rfl) (by kernel_rfl)
def dqs : FD := { fn := 36, nb := 0, pre := ⟨[.sc (.fz 65 false 0), .sc (.fz 65 false 1)], []⟩, post := ⟨[.sc (.b 0)], []⟩, sh := false, cuts := [⟨4, [0, 1, 5], ⟨[.sc (.fz 65 false 0), .sc (.fz 65 false 1), .sc (.i .i64 2)], []⟩⟩] }
noncomputable def Lqs : Option Nat → Lv → Option Lv := Lim Try.prog [dqbk.sig (Lqbk none)] dqs Try.f36
theorem eqs_i (a0 a1 : Rw) : Lqs none [.l a0, .l a1] =
 cond ((a0.length : Int) != (a1.length : Int)) (
 some [.b false]) (
 Lqs (some 4) [.l a0, .l a1, .i 0]) := (zd _ _).trans (by kernel_rfl)
theorem eqs_4 (a0 a1 : Rw) (a2 : Int) : Lqs (some 4) [.l a0, .l a1, .i a2] =
 cond (decide (a2 < (a0.length : Int))) (
 cond (inb a2 a0.length) (
 cond (inb a2 a1.length) (
 (Lqbk none [.s ((rd a0 a2.toNat 0).str), .i ((rd a0 a2.toNat 1).int), .s ((rd a0 a2.toNat 2).str), .l ((rd a0 a2.toNat 3).list), .s ((rd a1 a2.toNat 0).str), .i ((rd a1 a2.toNat 1).int), .s ((rd a1 a2.toNat 2).str), .l ((rd a1 a2.toNat 3).list)]).bind fun y1 =>
 cond (!(g y1 0).bool) (
 some [.b false]) (
 Lqs (some 4) [.l a0, .l a1, .i (IntKind.i64.wrap (a2 + 1))])) (
 none)) (
 none)) (
 some [.b true]) := (zd _ _).trans (by kernel_rfl)
theorem kqs : SigOk Try.prog (dqs.sig (Lqs none)) ∧ (dqs.sig (Lqs none)).ok = true := zf (ze kqbk (by kernel_rfl) zg) (by kernel_rfl) (by kernel_rfl) (by kernel_rfl)
def dqbl : FD := { fn := 58, nb := 0, pre := ⟨[.ag [.s 0, .s 1], .ag [.s 2, .s 3]], []⟩, post := ⟨[.sc (.b 0)], []⟩, sh := false, cuts := [] }
noncomputable def Lqbl : Option Nat → Lv → Option Lv := Lim Try.prog [] dqbl Try.f58
theorem eqbl_i (a0 a1 a2 a3 : ByteArray) : Lqbl none [.s a0, .s a1, .s a2, .s a3] =
 cond (!Eng.seq a0 a2) (
 some [.b false]) (
 cond (!Eng.seq a1 a3) (
 some [.b false]) (
 some [.b true])) := (zd _ _).trans (by kernel_rfl)
theorem kqbl : SigOk Try.prog (dqbl.sig (Lqbl none)) ∧ (dqbl.sig (Lqbl none)).ok = true := zf zg (by kernel_rfl) (by kernel_rfl) (by kernel_rfl)
def dqt : FD := { fn := 37, nb := 0, pre := ⟨[.sc (.fz 54 false 0), .sc (.fz 54 false 1)], []⟩, post := ⟨[.sc (.b 0)], []⟩, sh := false, cuts := [⟨4, [0, 1, 5], ⟨[.sc (.fz 54 false 0), .sc (.fz 54 false 1), .sc (.i .i64 2)], []⟩⟩] }
noncomputable def Lqt : Option Nat → Lv → Option Lv := Lim Try.prog [dqbl.sig (Lqbl none)] dqt Try.f37
theorem eqt_i (a0 a1 : Rw) : Lqt none [.l a0, .l a1] =
 cond ((a0.length : Int) != (a1.length : Int)) (
 some [.b false]) (
 Lqt (some 4) [.l a0, .l a1, .i 0]) := (zd _ _).trans (by kernel_rfl)
theorem eqt_4 (a0 a1 : Rw) (a2 : Int) : Lqt (some 4) [.l a0, .l a1, .i a2] =
 cond (decide (a2 < (a0.length : Int))) (
 cond (inb a2 a0.length) (
 cond (inb a2 a1.length) (
 (Lqbl none [.s ((rd a0 a2.toNat 0).str), .s ((rd a0 a2.toNat 1).str), .s ((rd a1 a2.toNat 0).str), .s ((rd a1 a2.toNat 1).str)]).bind fun y1 =>
 cond (!(g y1 0).bool) (
 some [.b false]) (
 Lqt (some 4) [.l a0, .l a1, .i (IntKind.i64.wrap (a2 + 1))])) (
 none)) (
 none)) (
 some [.b true]) := (zd _ _).trans (by kernel_rfl)
theorem kqt : SigOk Try.prog (dqt.sig (Lqt none)) ∧ (dqt.sig (Lqt none)).ok = true := zf (ze kqbl (by kernel_rfl) zg) (by kernel_rfl) (by kernel_rfl) (by kernel_rfl)
def dqbm : FD := { fn := 59, nb := 0, pre := ⟨[.ag [.i .i64 0, .s 1, .i .i64 2], .ag [.i .i64 3, .s 4, .i .i64 5]], []⟩, post := ⟨[.sc (.b 0)], []⟩, sh := false, cuts := [] }
noncomputable def Lqbm : Option Nat → Lv → Option Lv := Lim Try.prog [] dqbm Try.f59
theorem eqbm_i (a0 : Int) (a1 : ByteArray) (a2 a3 : Int) (a4 : ByteArray) (a5 : Int) : Lqbm none [.i a0, .s a1, .i a2, .i a3, .s a4, .i a5] =
 cond (a0 != a3) (
 some [.b false]) (
 cond (!Eng.seq a1 a4) (
 some [.b false]) (
 cond (a2 != a5) (
 some [.b false]) (
 some [.b true]))) := (zd _ _).trans (by kernel_rfl)
theorem kqbm : SigOk Try.prog (dqbm.sig (Lqbm none)) ∧ (dqbm.sig (Lqbm none)).ok = true := zf zg (by kernel_rfl) (by kernel_rfl) (by kernel_rfl)
def dqu : FD := { fn := 38, nb := 0, pre := ⟨[.sc (.fz 57 false 0), .sc (.fz 57 false 1)], []⟩, post := ⟨[.sc (.b 0)], []⟩, sh := false, cuts := [⟨4, [0, 1, 5], ⟨[.sc (.fz 57 false 0), .sc (.fz 57 false 1), .sc (.i .i64 2)], []⟩⟩] }
noncomputable def Lqu : Option Nat → Lv → Option Lv := Lim Try.prog [dqbm.sig (Lqbm none)] dqu Try.f38
theorem equ_i (a0 a1 : Rw) : Lqu none [.l a0, .l a1] =
 cond ((a0.length : Int) != (a1.length : Int)) (
 some [.b false]) (
 Lqu (some 4) [.l a0, .l a1, .i 0]) := (zd _ _).trans (by kernel_rfl)
theorem equ_4 (a0 a1 : Rw) (a2 : Int) : Lqu (some 4) [.l a0, .l a1, .i a2] =
 cond (decide (a2 < (a0.length : Int))) (
 cond (inb a2 a0.length) (
 cond (inb a2 a1.length) (
 (Lqbm none [.i ((rd a0 a2.toNat 0).int), .s ((rd a0 a2.toNat 1).str), .i ((rd a0 a2.toNat 2).int), .i ((rd a1 a2.toNat 0).int), .s ((rd a1 a2.toNat 1).str), .i ((rd a1 a2.toNat 2).int)]).bind fun y1 =>
 cond (!(g y1 0).bool) (
 some [.b false]) (
 Lqu (some 4) [.l a0, .l a1, .i (IntKind.i64.wrap (a2 + 1))])) (
 none)) (
 none)) (
 some [.b true]) := (zd _ _).trans (by kernel_rfl)
theorem kqu : SigOk Try.prog (dqu.sig (Lqu none)) ∧ (dqu.sig (Lqu none)).ok = true := zf (ze kqbm (by kernel_rfl) zg) (by kernel_rfl) (by kernel_rfl) (by kernel_rfl)
def dq8 : FD := { fn := 10, nb := 0, pre := ⟨[.ag [.i .i64 0, .i .i64 1, .i .i64 2, .i .i64 3, .fz 65 false 4, .fz 54 false 5, .fz 57 false 6], .ag [.i .i64 7, .i .i64 8, .i .i64 9, .i .i64 10, .fz 65 false 11, .fz 54 false 12, .fz 57 false 13]], []⟩, post := ⟨[.sc (.b 0)], []⟩, sh := false, cuts := [] }
noncomputable def Lq8 : Option Nat → Lv → Option Lv := Lim Try.prog [dqs.sig (Lqs none), dqt.sig (Lqt none), dqu.sig (Lqu none)] dq8 Try.f10
theorem eq8_i (a0 a1 a2 a3 : Int) (a4 a5 a6 : Rw) (a7 a8 a9 a10 : Int) (a11 a12 a13 : Rw) : Lq8 none [.i a0, .i a1, .i a2, .i a3, .l a4, .l a5, .l a6, .i a7, .i a8, .i a9, .i a10, .l a11, .l a12, .l a13] =
 cond (a0 != a7) (
 some [.b false]) (
 cond (a1 != a8) (
 some [.b false]) (
 cond (a2 != a9) (
 some [.b false]) (
 cond (a3 != a10) (
 some [.b false]) (
 (Lqs none [.l a4, .l a11]).bind fun y1 =>
 cond (!(g y1 0).bool) (
 some [.b false]) (
 (Lqt none [.l a5, .l a12]).bind fun y2 =>
 cond (!(g y2 0).bool) (
 some [.b false]) (
 (Lqu none [.l a6, .l a13]).bind fun y3 =>
 cond (!(g y3 0).bool) (
 some [.b false]) (
 some [.b true]))))))) := (zd _ _).trans (by kernel_rfl)
theorem kq8 : SigOk Try.prog (dq8.sig (Lq8 none)) ∧ (dq8.sig (Lq8 none)).ok = true := zf (ze kqs (by kernel_rfl) (ze kqt (by kernel_rfl) (ze kqu (by kernel_rfl) zg))) (by kernel_rfl) (by kernel_rfl) (by kernel_rfl)
def dq2 : FD := { fn := 21, nb := 0, pre := ⟨[.sc (.i .i64 0)], []⟩, post := ⟨[.sc (.b 0)], []⟩, sh := false, cuts := [] }
noncomputable def Lq2 : Option Nat → Lv → Option Lv := Lim Try.prog [] dq2 Try.f21
theorem eq2_i (a0 : Int) : Lq2 none [.i a0] =
 cond (decide (1 ≤ a0)) (
 some [.b (decide (a0 ≤ 8))]) (
 some [.b false]) := (zd _ _).trans (by kernel_rfl)
theorem kq2 : SigOk Try.prog (dq2.sig (Lq2 none)) ∧ (dq2.sig (Lq2 none)).ok = true := zf zg (by kernel_rfl) (by kernel_rfl) (by kernel_rfl)
end KV
end
section
set_option maxRecDepth 100000
namespace KV
open Go Go.Eng Go.Proofs
def dq1 : FD := { fn := 22, nb := 0, pre := ⟨[.sc (.i .i64 0), .sc (.i .i64 1), .sc (.i .i64 2)], []⟩, post := ⟨[.sc (.b 0)], []⟩, sh := false, cuts := [] }
noncomputable def Lq1 : Option Nat → Lv → Option Lv := Lim Try.prog [] dq1 Try.f22
theorem eq1_i (a0 a1 a2 : Int) : Lq1 none [.i a0, .i a1, .i a2] =
 cond (decide (a1 ≤ a0)) (
 some [.b (decide (a0 ≤ a2))]) (
 some [.b false]) := (zd _ _).trans (by kernel_rfl)
theorem kq1 : SigOk Try.prog (dq1.sig (Lq1 none)) ∧ (dq1.sig (Lq1 none)).ok = true := zf zg (by kernel_rfl) (by kernel_rfl) (by kernel_rfl)
def dqd : FD := { fn := 25, nb := 0, pre := ⟨[.ag [.i .i64 0, .i .i64 1, .i .i64 2, .i .i64 3, .fz 65 false 4, .fz 54 false 5, .fz 57 false 6], .sc (.s 7)], []⟩, post := ⟨[.sc (.i .i64 0)], []⟩, sh := false, cuts := [⟨2, [1, 2, 5], ⟨[.sc (.s 0), .sc (.pt 0 0), .sc (.i .i64 1)], [.bx [.i .i64 2, .i .i64 3, .i .i64 4, .i .i64 5, .fz 65 false 6, .fz 54 false 7, .fz 57 false 8]]⟩⟩] }
noncomputable def Lqd : Option Nat → Lv → Option Lv := Lim Try.prog [] dqd Try.f25
theorem eqd_i (a0 a1 a2 a3 : Int) (a4 a5 a6 : Rw) (a7 : ByteArray) : Lqd none [.i a0, .i a1, .i a2, .i a3, .l a4, .l a5, .l a6, .s a7] =
 Lqd (some 2) [.s a7, .i 0, .i a0, .i a1, .i a2, .i a3, .l a4, .l a5, .l a6] := (zd _ _).trans (by kernel_rfl)
theorem eqd_2 (a0 : ByteArray) (a1 a2 a3 a4 a5 : Int) (a6 a7 a8 : Rw) : Lqd (some 2) [.s a0, .i a1, .i a2, .i a3, .i a4, .i a5, .l a6, .l a7, .l a8] =
 cond (decide (a1 < (a6.length : Int))) (
 cond (inb a1 a6.length) (
 cond (Eng.seq ((rd a6 a1.toNat 0).str) a0) (
 some [.i a1]) (
 Lqd (some 2) [.s a0, .i (IntKind.i64.wrap (a1 + 1)), .i a2, .i a3, .i a4, .i a5, .l a6, .l a7, .l a8])) (
 none)) (
 some [.i (-1)]) := (zd _ _).trans (by kernel_rfl)
theorem kqd : SigOk Try.prog (dqd.sig (Lqd none)) ∧ (dqd.sig (Lqd none)).ok = true := zf zg (by kernel_rfl) (by kernel_rfl) (by kernel_rfl)
def dqf : FD := { fn := 49, nb := 0, pre := ⟨[.ag [.s 0, .fz 9 false 1], .sc (.i .i64 2)], []⟩, post := ⟨[.sc (.b 0)], []⟩, sh := false, cuts := [⟨4, [1, 2, 5], ⟨[.sc (.i .i64 0), .sc (.pt 0 0), .sc (.i .i64 1)], [.bx [.s 2, .fz 9 false 3]]⟩⟩] }
noncomputable def Lqf : Option Nat → Lv → Option Lv := Lim Try.prog [dq2.sig (Lq2 none)] dqf Try.f49
theorem eqf_i (a0 : ByteArray) (a1 : Rw) (a2 : Int) : Lqf none [.s a0, .l a1, .i a2] =
 (Lq2 none [.i a2]).bind fun y1 =>
 cond (!(g y1 0).bool) (
 some [.b false]) (
 cond (decide (2000 < (a0.size : Int))) (
 some [.b false]) (
 cond (decide (30 < (a1.length : Int))) (
 some [.b false]) (
 Lqf (some 4) [.i a2, .i 0, .s a0, .l a1]))) := (zd _ _).trans (by kernel_rfl)
theorem eqf_4 (a0 a1 : Int) (a2 : ByteArray) (a3 : Rw) : Lqf (some 4) [.i a0, .i a1, .s a2, .l a3] =
 cond (decide (a1 < (a3.length : Int))) (
 cond (inb a1 a3.length) (
 cond ((((rd a3 a1.toNat 0).str).size : Int) != a0) (
 some [.b false]) (
 cond (decide (0 < a1)) (
 cond (inb (IntKind.i64.wrap (a1 - 1)) a3.length) (
 cond (inb a1 a3.length) (
 cond (!slt ((rd a3 ((IntKind.i64.wrap (a1 - 1)).toNat) 0).str) ((rd a3 a1.toNat 0).str)) (
 some [.b false]) (
 Lqf (some 4) [.i a0, .i (IntKind.i64.wrap (a1 + 1)), .s a2, .l a3])) (
 none)) (
 none)) (
 Lqf (some 4) [.i a0, .i (IntKind.i64.wrap (a1 + 1)), .s a2, .l a3]))) (
 none)) (
 some [.b true]) := (zd _ _).trans (by kernel_rfl)
theorem kqf : SigOk Try.prog (dqf.sig (Lqf none)) ∧ (dqf.sig (Lqf none)).ok = true := zf (ze kq2 (by kernel_rfl) zg) (by kernel_rfl) (by kernel_rfl) (by kernel_rfl)
def dqg : FD := { fn := 50, nb := 0, pre := ⟨[.sc (.s 0), .sc (.i .i64 1)], []⟩, post := ⟨[.sc (.s 0)], []⟩, sh := false, cuts := [⟨5, [0, 1, 5, 6], ⟨[.sc (.s 0), .sc (.i .i64 1), .sc (.i .u64 2), .sc (.i .i64 3)], []⟩⟩, ⟨10, [1, 5, 7, 8], ⟨[.sc (.i .i64 0), .sc (.i .u64 1), .sc (.ow 0), .sc (.i .i64 2)], [.rw 5 true 3]⟩⟩] }
noncomputable def Lqg : Option Nat → Lv → Option Lv := Lim Try.prog [dq2.sig (Lq2 none)] dqg Try.f50
theorem eqg_i (a0 : ByteArray) (a1 : Int) : Lqg none [.s a0, .i a1] =
 (Lq2 none [.i a1]).bind fun y1 =>
 cond (!(g y1 0).bool) (
 some [.s (⟨#[]⟩ : ByteArray)]) (
 Lqg (some 5) [.s a0, .i a1, .i 14695981039346656037, .i 0]) := (zd _ _).trans (by kernel_rfl)
theorem eqg_5 (a0 : ByteArray) (a1 a2 a3 : Int) : Lqg (some 5) [.s a0, .i a1, .i a2, .i a3] =
 cond (decide (a3 < (a0.size : Int))) (
 cond (inb a3 a0.size) (
 Lqg (some 5) [.s a0, .i a1, .i (IntKind.u64.wrap ((IntKind.u64.wrap (BitVec.ofInt (IntKind.u64).bits a2 ^^^ BitVec.ofInt (IntKind.u64).bits (IntKind.u64.wrap (byteAt a0 a3.toNat))).toNat) * 1099511628211)), .i (IntKind.i64.wrap (a3 + 1))]) (
 none)) (
 Lqg (some 10) [.i a1, .i a2, .i 0, .l ([] : Rw)]) := (zd _ _).trans (by kernel_rfl)
theorem eqg_10 (a0 a1 a2 : Int) (a3 : Rw) : Lqg (some 10) [.i a0, .i a1, .i a2, .l a3] =
 cond (decide (a2 < a0)) (
 cond (decide (([[.i (IntKind.u8.wrap (a1.tmod 256))]] : Rw).length + a3.length ≤ most)) (
 Lqg (some 10) [.i a0, .i (IntKind.u64.wrap (a1.tdiv 256)), .i (IntKind.i64.wrap (a2 + 1)), .l (([[.i (IntKind.u8.wrap (a1.tmod 256))]] : Rw) ++ a3)]) (
 none)) (
 some [.s (bytesOf a3)]) := (zd _ _).trans (by kernel_rfl)
theorem kqg : SigOk Try.prog (dqg.sig (Lqg none)) ∧ (dqg.sig (Lqg none)).ok = true := zf (ze kq2 (by kernel_rfl) zg) (by kernel_rfl) (by kernel_rfl) (by kernel_rfl)
def dqv : FD := { fn := 51, nb := 0, pre := ⟨[.ag [.s 0, .fz 9 false 1], .sc (.i .i64 2)], []⟩, post := ⟨[.sc (.s 0)], []⟩, sh := false, cuts := [⟨5, [2, 5, 6], ⟨[.sc (.pt 0 0), .sc (.ow 1), .sc (.i .i64 0)], [.bx [.s 1, .fz 9 false 2], .rw 5 true 3]⟩⟩] }
noncomputable def Lqv : Option Nat → Lv → Option Lv := Lim Try.prog [dqf.sig (Lqf none)] dqv Try.f51
theorem eqv_i (a0 : ByteArray) (a1 : Rw) (a2 : Int) : Lqv none [.s a0, .l a1, .i a2] =
 (Lqf none [.s a0, .l a1, .i a2]).bind fun y1 =>
 cond (!(g y1 0).bool) (
 some [.s (⟨#[]⟩ : ByteArray)]) (
 Lqv (some 5) [.i 0, .s a0, .l a1, .l ([[.i (IntKind.u8.wrap (a1.length : Int))]] : Rw)]) := (zd _ _).trans (by kernel_rfl)
theorem eqv_5 (a0 : Int) (a1 : ByteArray) (a2 a3 : Rw) : Lqv (some 5) [.i a0, .s a1, .l a2, .l a3] =
 cond (decide (a0 < (a2.length : Int))) (
 cond (inb a0 a2.length) (
 cond (decide (a3.length + (rowsOf ((rd a2 a0.toNat 0).str)).length ≤ most)) (
 Lqv (some 5) [.i (IntKind.i64.wrap (a0 + 1)), .s a1, .l a2, .l (a3 ++ (rowsOf ((rd a2 a0.toNat 0).str)))]) (
 none)) (
 none)) (
 cond (decide (a3.length + (rowsOf a1).length ≤ most)) (
 some [.s (bytesOf (a3 ++ (rowsOf a1)))]) (
 none)) := (zd _ _).trans (by kernel_rfl)
theorem kqv : SigOk Try.prog (dqv.sig (Lqv none)) ∧ (dqv.sig (Lqv none)).ok = true := zf (ze kqf (by kernel_rfl) zg) (by kernel_rfl) (by kernel_rfl) (by kernel_rfl)
def dqb : FD := { fn := 23, nb := 0, pre := ⟨[.ag [.i .i64 0, .i .i64 1, .i .i64 2, .i .i64 3, .fz 65 false 4, .fz 54 false 5, .fz 57 false 6]], []⟩, post := ⟨[.sc (.b 0)], []⟩, sh := false, cuts := [⟨4, [1, 3, 4, 5], ⟨[.sc (.pt 0 0), .sc (.ow 1), .sc (.ow 2), .sc (.i .i64 0)], [.bx [.i .i64 1, .i .i64 2, .i .i64 3, .i .i64 4, .fz 65 false 5, .fz 54 false 6, .fz 57 false 7], .rw 4 true 8, .rw 3 true 9]⟩⟩, ⟨14, [1, 3, 4, 5, 6, 7], ⟨[.sc (.pt 0 0), .sc (.ow 1), .sc (.ow 2), .sc (.i .i64 0), .sc (.pt 3 0), .sc (.i .i64 1)], [.bx [.i .i64 2, .i .i64 3, .i .i64 4, .i .i64 5, .fz 65 false 6, .fz 54 false 7, .fz 57 false 8], .rw 4 true 9, .rw 3 true 10, .bx [.s 11, .i .i64 12, .s 13, .fz 9 false 14]]⟩⟩, ⟨20, [1, 8], ⟨[.sc (.pt 0 0), .sc (.i .i64 0)], [.bx [.i .i64 1, .i .i64 2, .i .i64 3, .i .i64 4, .fz 65 false 5, .fz 54 false 6, .fz 57 false 7]]⟩⟩, ⟨23, [1, 8, 9], ⟨[.sc (.pt 0 0), .sc (.i .i64 0), .sc (.i .i64 1)], [.bx [.i .i64 2, .i .i64 3, .i .i64 4, .i .i64 5, .fz 65 false 6, .fz 54 false 7, .fz 57 false 8]]⟩⟩] }
noncomputable def Lqb : Option Nat → Lv → Option Lv := Lim Try.prog [dq1.sig (Lq1 none), dqd.sig (Lqd none), dqf.sig (Lqf none), dqg.sig (Lqg none), dqv.sig (Lqv none)] dqb Try.f23
theorem eqb_i (a0 a1 a2 a3 : Int) (a4 a5 a6 : Rw) : Lqb none [.i a0, .i a1, .i a2, .i a3, .l a4, .l a5, .l a6] =
 Lqb (some 4) [.i 0, .i a0, .i a1, .i a2, .i a3, .l a4, .l a5, .l a6, .l (List.replicate 601 ([.b false] : List C)), .l ([] : Rw)] := (zd _ _).trans (by kernel_rfl)
theorem eqb_4 (a0 a1 a2 a3 a4 : Int) (a5 a6 a7 a8 a9 : Rw) : Lqb (some 4) [.i a0, .i a1, .i a2, .i a3, .i a4, .l a5, .l a6, .l a7, .l a8, .l a9] =
 cond (decide (a0 < (a5.length : Int))) (
 cond (inb a0 a5.length) (
 (Lqf none [.s ((rd a5 a0.toNat 2).str), .l ((rd a5 a0.toNat 3).list), .i a1]).bind fun y1 =>
 cond (!(g y1 0).bool) (
 some [.b false]) (
 (Lqv none [.s ((rd a5 a0.toNat 2).str), .l ((rd a5 a0.toNat 3).list), .i a1]).bind fun y2 =>
 (Lqg none [.s ((g y2 0).str), .i a1]).bind fun y3 =>
 cond (!Eng.seq ((rd a5 a0.toNat 0).str) ((g y3 0).str)) (
 some [.b false]) (
 cond (decide (0 < a0)) (
 cond (inb (IntKind.i64.wrap (a0 - 1)) a5.length) (
 cond (!slt ((rd a5 ((IntKind.i64.wrap (a0 - 1)).toNat) 0).str) ((rd a5 a0.toNat 0).str)) (
 some [.b false]) (
 (Lq1 none [.i ((rd a5 a0.toNat 1).int), .i 1, .i a4]).bind fun y4 =>
 cond (!(g y4 0).bool) (
 some [.b false]) (
 cond (decide ((rd a5 a0.toNat 1).int ≤ 600)) (
 cond (inb ((rd a5 a0.toNat 1).int) a8.length) (
 cond ((rd a8 (((rd a5 a0.toNat 1).int).toNat) 0).bool) (
 some [.b false]) (
 cond (inb ((rd a5 a0.toNat 1).int) a8.length) (
 Lqb (some 4) [.i (IntKind.i64.wrap (a0 + 1)), .i a1, .i a2, .i a3, .i a4, .l a5, .l a6, .l a7, .l (wrs a8 (((rd a5 a0.toNat 1).int).toNat) 0 ([.b true] : List C)), .l a9]) (
 none))) (
 none)) (
 Lqb (some 14) [.i a0, .i 0, .i a1, .i a2, .i a3, .i a4, .l a5, .l a6, .l a7, .l a8, .l a9, .s ((rd a5 a0.toNat 0).str), .i ((rd a5 a0.toNat 1).int), .s ((rd a5 a0.toNat 2).str), .l ((rd a5 a0.toNat 3).list)])))) (
 none)) (
 (Lq1 none [.i ((rd a5 a0.toNat 1).int), .i 1, .i a4]).bind fun y5 =>
 cond (!(g y5 0).bool) (
 some [.b false]) (
 cond (decide ((rd a5 a0.toNat 1).int ≤ 600)) (
 cond (inb ((rd a5 a0.toNat 1).int) a8.length) (
 cond ((rd a8 (((rd a5 a0.toNat 1).int).toNat) 0).bool) (
 some [.b false]) (
 cond (inb ((rd a5 a0.toNat 1).int) a8.length) (
 Lqb (some 4) [.i (IntKind.i64.wrap (a0 + 1)), .i a1, .i a2, .i a3, .i a4, .l a5, .l a6, .l a7, .l (wrs a8 (((rd a5 a0.toNat 1).int).toNat) 0 ([.b true] : List C)), .l a9]) (
 none))) (
 none)) (
 Lqb (some 14) [.i a0, .i 0, .i a1, .i a2, .i a3, .i a4, .l a5, .l a6, .l a7, .l a8, .l a9, .s ((rd a5 a0.toNat 0).str), .i ((rd a5 a0.toNat 1).int), .s ((rd a5 a0.toNat 2).str), .l ((rd a5 a0.toNat 3).list)])))))) (
 none)) (
 Lqb (some 20) [.i 0, .i a1, .i a2, .i a3, .i a4, .l a5, .l a6, .l a7]) := (zd _ _).trans (by kernel_rfl)
theorem eqb_14 (a0 a1 a2 a3 a4 a5 : Int) (a6 a7 a8 a9 a10 : Rw) (a11 : ByteArray) (a12 : Int) (a13 : ByteArray) (a14 : Rw) : Lqb (some 14) [.i a0, .i a1, .i a2, .i a3, .i a4, .i a5, .l a6, .l a7, .l a8, .l a9, .l a10, .s a11, .i a12, .s a13, .l a14] =
 cond (decide (a1 < (a10.length : Int))) (
 cond (inb a1 a10.length) (
 cond ((rd a10 a1.toNat 0).int == a12) (
 some [.b false]) (
 Lqb (some 14) [.i a0, .i (IntKind.i64.wrap (a1 + 1)), .i a2, .i a3, .i a4, .i a5, .l a6, .l a7, .l a8, .l a9, .l a10, .s a11, .i a12, .s a13, .l a14])) (
 none)) (
 cond (decide (a10.length + ([[.i a12]] : Rw).length ≤ most)) (
 Lqb (some 4) [.i (IntKind.i64.wrap (a0 + 1)), .i a2, .i a3, .i a4, .i a5, .l a6, .l a7, .l a8, .l a9, .l (a10 ++ ([[.i a12]] : Rw))]) (
 none)) := (zd _ _).trans (by kernel_rfl)
theorem eqb_20 (a0 a1 a2 a3 a4 : Int) (a5 a6 a7 : Rw) : Lqb (some 20) [.i a0, .i a1, .i a2, .i a3, .i a4, .l a5, .l a6, .l a7] =
 cond (decide (a0 < (a5.length : Int))) (
 Lqb (some 23) [.i a0, .i 0, .i a1, .i a2, .i a3, .i a4, .l a5, .l a6, .l a7]) (
 some [.b true]) := (zd _ _).trans (by kernel_rfl)
theorem eqb_23 (a0 a1 a2 a3 a4 a5 : Int) (a6 a7 a8 : Rw) : Lqb (some 23) [.i a0, .i a1, .i a2, .i a3, .i a4, .i a5, .l a6, .l a7, .l a8] =
 cond (inb a0 a6.length) (
 cond (decide (a1 < (((rd a6 a0.toNat 3).list).length : Int))) (
 cond (inb a0 a6.length) (
 cond (inb a1 (((rd a6 a0.toNat 3).list).length)) (
 (Lqd none [.i a2, .i a3, .i a4, .i a5, .l a6, .l a7, .l a8, .s ((rd ((rd a6 a0.toNat 3).list) a1.toNat 0).str)]).bind fun y1 =>
 cond (decide ((g y1 0).int < 0)) (
 some [.b false]) (
 cond (inb ((g y1 0).int) a6.length) (
 cond (inb a0 a6.length) (
 cond (decide ((rd a6 a0.toNat 1).int ≤ (rd a6 (((g y1 0).int).toNat) 1).int)) (
 some [.b false]) (
 Lqb (some 23) [.i a0, .i (IntKind.i64.wrap (a1 + 1)), .i a2, .i a3, .i a4, .i a5, .l a6, .l a7, .l a8])) (
 none)) (
 none))) (
 none)) (
 none)) (
 Lqb (some 20) [.i (IntKind.i64.wrap (a0 + 1)), .i a2, .i a3, .i a4, .i a5, .l a6, .l a7, .l a8])) (
 none) := (zd _ _).trans (by kernel_rfl)
theorem kqb : SigOk Try.prog (dqb.sig (Lqb none)) ∧ (dqb.sig (Lqb none)).ok = true := zf (ze kq1 (by kernel_rfl) (ze kqd (by kernel_rfl) (ze kqf (by kernel_rfl) (ze kqg (by kernel_rfl) (ze kqv (by kernel_rfl) zg))))) (by kernel_rfl) (by kernel_rfl) (by kernel_rfl)
def dqw : FD := { fn := 24, nb := 0, pre := ⟨[.sc (.s 0)], []⟩, post := ⟨[.sc (.b 0)], []⟩, sh := false, cuts := [⟨2, [0, 3], ⟨[.sc (.s 0), .sc (.i .i64 1)], []⟩⟩] }
noncomputable def Lqw : Option Nat → Lv → Option Lv := Lim Try.prog [] dqw Try.f24
theorem eqw_i (a0 : ByteArray) : Lqw none [.s a0] =
 Lqw (some 2) [.s a0, .i 0] := (zd _ _).trans (by kernel_rfl)
theorem eqw_2 (a0 : ByteArray) (a1 : Int) : Lqw (some 2) [.s a0, .i a1] =
 cond (decide (a1 < (a0.size : Int))) (
 cond (inb a1 a0.size) (
 cond (decide ((byteAt a0 a1.toNat) < 33)) (
 some [.b false]) (
 cond (inb a1 a0.size) (
 cond (decide (126 < (byteAt a0 a1.toNat))) (
 some [.b false]) (
 Lqw (some 2) [.s a0, .i (IntKind.i64.wrap (a1 + 1))])) (
 none))) (
 none)) (
 cond (decide (1 ≤ (a0.size : Int))) (
 some [.b (decide ((a0.size : Int) ≤ 40))]) (
 some [.b false])) := (zd _ _).trans (by kernel_rfl)
theorem kqw : SigOk Try.prog (dqw.sig (Lqw none)) ∧ (dqw.sig (Lqw none)).ok = true := zf zg (by kernel_rfl) (by kernel_rfl) (by kernel_rfl)
def dqc : FD := { fn := 7, nb := 0, pre := ⟨[.ag [.i .i64 0, .i .i64 1, .i .i64 2, .i .i64 3, .fz 65 false 4, .fz 54 false 5, .fz 57 false 6]], []⟩, post := ⟨[.sc (.b 0)], []⟩, sh := false, cuts := [⟨6, [1, 3], ⟨[.sc (.pt 0 0), .sc (.i .i64 0)], [.bx [.i .i64 1, .i .i64 2, .i .i64 3, .i .i64 4, .fz 65 false 5, .fz 54 false 6, .fz 57 false 7]]⟩⟩, ⟨11, [1, 4], ⟨[.sc (.pt 0 0), .sc (.i .i64 0)], [.bx [.i .i64 1, .i .i64 2, .i .i64 3, .i .i64 4, .fz 65 false 5, .fz 54 false 6, .fz 57 false 7]]⟩⟩] }
noncomputable def Lqc : Option Nat → Lv → Option Lv := Lim Try.prog [dq2.sig (Lq2 none), dq1.sig (Lq1 none), dqd.sig (Lqd none), dqb.sig (Lqb none), dqw.sig (Lqw none)] dqc Try.f7
theorem eqc_i (a0 a1 a2 a3 : Int) (a4 a5 a6 : Rw) : Lqc none [.i a0, .i a1, .i a2, .i a3, .l a4, .l a5, .l a6] =
 (Lq2 none [.i a0]).bind fun y1 =>
 cond (!(g y1 0).bool) (
 some [.b false]) (
 (Lq1 none [.i a1, .i 0, .i 1000000000]).bind fun y2 =>
 cond (!(g y2 0).bool) (
 some [.b false]) (
 (Lq1 none [.i a2, .i 0, .i 1000000000]).bind fun y3 =>
 cond (!(g y3 0).bool) (
 some [.b false]) (
 (Lq1 none [.i a3, .i 0, .i 1000000000]).bind fun y4 =>
 cond (!(g y4 0).bool) (
 some [.b false]) (
 cond (decide (600 < (a4.length : Int))) (
 some [.b false]) (
 cond (decide (100 < (a5.length : Int))) (
 some [.b false]) (
 cond (decide (200 < (a6.length : Int))) (
 some [.b false]) (
 (Lqb none [.i a0, .i a1, .i a2, .i a3, .l a4, .l a5, .l a6]).bind fun y5 =>
 cond (!(g y5 0).bool) (
 some [.b false]) (
 Lqc (some 6) [.i 0, .i a0, .i a1, .i a2, .i a3, .l a4, .l a5, .l a6])))))))) := (zd _ _).trans (by kernel_rfl)
theorem eqc_6 (a0 a1 a2 a3 a4 : Int) (a5 a6 a7 : Rw) : Lqc (some 6) [.i a0, .i a1, .i a2, .i a3, .i a4, .l a5, .l a6, .l a7] =
 cond (decide (a0 < (a6.length : Int))) (
 cond (inb a0 a6.length) (
 (Lqw none [.s ((rd a6 a0.toNat 0).str)]).bind fun y1 =>
 cond (!(g y1 0).bool) (
 some [.b false]) (
 cond (decide (0 < a0)) (
 cond (inb (IntKind.i64.wrap (a0 - 1)) a6.length) (
 cond (inb a0 a6.length) (
 cond (!slt ((rd a6 ((IntKind.i64.wrap (a0 - 1)).toNat) 0).str) ((rd a6 a0.toNat 0).str)) (
 some [.b false]) (
 cond (inb a0 a6.length) (
 (Lqd none [.i a1, .i a2, .i a3, .i a4, .l a5, .l a6, .l a7, .s ((rd a6 a0.toNat 1).str)]).bind fun y2 =>
 cond (decide ((g y2 0).int < 0)) (
 some [.b false]) (
 Lqc (some 6) [.i (IntKind.i64.wrap (a0 + 1)), .i a1, .i a2, .i a3, .i a4, .l a5, .l a6, .l a7])) (
 none))) (
 none)) (
 none)) (
 cond (inb a0 a6.length) (
 (Lqd none [.i a1, .i a2, .i a3, .i a4, .l a5, .l a6, .l a7, .s ((rd a6 a0.toNat 1).str)]).bind fun y3 =>
 cond (decide ((g y3 0).int < 0)) (
 some [.b false]) (
 Lqc (some 6) [.i (IntKind.i64.wrap (a0 + 1)), .i a1, .i a2, .i a3, .i a4, .l a5, .l a6, .l a7])) (
 none)))) (
 none)) (
 Lqc (some 11) [.i 0, .i a1, .i a2, .i a3, .i a4, .l a5, .l a6, .l a7]) := (zd _ _).trans (by kernel_rfl)
theorem eqc_11 (a0 a1 a2 a3 a4 : Int) (a5 a6 a7 : Rw) : Lqc (some 11) [.i a0, .i a1, .i a2, .i a3, .i a4, .l a5, .l a6, .l a7] =
 cond (decide (a0 < (a7.length : Int))) (
 cond (inb a0 a7.length) (
 (Lq1 none [.i ((rd a7 a0.toNat 0).int), .i 1, .i a3]).bind fun y1 =>
 cond (!(g y1 0).bool) (
 some [.b false]) (
 cond (decide (0 < a0)) (
 cond (inb (IntKind.i64.wrap (a0 - 1)) a7.length) (
 cond (decide ((rd a7 a0.toNat 0).int ≤ (rd a7 ((IntKind.i64.wrap (a0 - 1)).toNat) 0).int)) (
 some [.b false]) (
 (Lqd none [.i a1, .i a2, .i a3, .i a4, .l a5, .l a6, .l a7, .s ((rd a7 a0.toNat 1).str)]).bind fun y2 =>
 cond (decide ((g y2 0).int < 0)) (
 some [.b false]) (
 cond (decide ((rd a7 a0.toNat 2).int ≤ a2)) (
 some [.b false]) (
 cond (decide ((IntKind.i64.wrap (a2 + 100000)) < (rd a7 a0.toNat 2).int)) (
 some [.b false]) (
 Lqc (some 11) [.i (IntKind.i64.wrap (a0 + 1)), .i a1, .i a2, .i a3, .i a4, .l a5, .l a6, .l a7]))))) (
 none)) (
 (Lqd none [.i a1, .i a2, .i a3, .i a4, .l a5, .l a6, .l a7, .s ((rd a7 a0.toNat 1).str)]).bind fun y3 =>
 cond (decide ((g y3 0).int < 0)) (
 some [.b false]) (
 cond (decide ((rd a7 a0.toNat 2).int ≤ a2)) (
 some [.b false]) (
 cond (decide ((IntKind.i64.wrap (a2 + 100000)) < (rd a7 a0.toNat 2).int)) (
 some [.b false]) (
 Lqc (some 11) [.i (IntKind.i64.wrap (a0 + 1)), .i a1, .i a2, .i a3, .i a4, .l a5, .l a6, .l a7])))))) (
 none)) (
 some [.b true]) := (zd _ _).trans (by kernel_rfl)
theorem kqc : SigOk Try.prog (dqc.sig (Lqc none)) ∧ (dqc.sig (Lqc none)).ok = true := zf (ze kq2 (by kernel_rfl) (ze kq1 (by kernel_rfl) (ze kqd (by kernel_rfl) (ze kqb (by kernel_rfl) (ze kqw (by kernel_rfl) zg))))) (by kernel_rfl) (by kernel_rfl) (by kernel_rfl)
def dqx : FD := { fn := 39, nb := 0, pre := ⟨[.ag [.i .i64 0, .i .i64 1, .i .i64 2, .i .i64 3, .fz 65 false 4, .fz 54 false 5, .fz 57 false 6]], []⟩, post := ⟨[.sc (.i .i64 0)], []⟩, sh := false, cuts := [⟨3, [1, 3, 4], ⟨[.sc (.pt 0 0), .sc (.i .i64 0), .sc (.i .i64 1)], [.bx [.i .i64 2, .i .i64 3, .i .i64 4, .i .i64 5, .fz 65 false 6, .fz 54 false 7, .fz 57 false 8]]⟩⟩] }
noncomputable def Lqx : Option Nat → Lv → Option Lv := Lim Try.prog [] dqx Try.f39
theorem eqx_i (a0 a1 a2 a3 : Int) (a4 a5 a6 : Rw) : Lqx none [.i a0, .i a1, .i a2, .i a3, .l a4, .l a5, .l a6] =
 Lqx (some 3) [.i 0, .i 0, .i a0, .i a1, .i a2, .i a3, .l a4, .l a5, .l a6] := (zd _ _).trans (by kernel_rfl)
theorem eqx_3 (a0 a1 a2 a3 a4 a5 : Int) (a6 a7 a8 : Rw) : Lqx (some 3) [.i a0, .i a1, .i a2, .i a3, .i a4, .i a5, .l a6, .l a7, .l a8] =
 cond (decide (a1 < (a6.length : Int))) (
 cond (inb a1 a6.length) (
 cond (inb a1 a6.length) (
 Lqx (some 3) [.i (IntKind.i64.wrap ((IntKind.i64.wrap ((IntKind.i64.wrap (a0 + 1)) + (IntKind.i64.wrap ((((rd a6 a1.toNat 3).list).length : Int) * a2)))) + (((rd a6 a1.toNat 2).str).size : Int))), .i (IntKind.i64.wrap (a1 + 1)), .i a2, .i a3, .i a4, .i a5, .l a6, .l a7, .l a8]) (
 none)) (
 none)) (
 some [.i a0]) := (zd _ _).trans (by kernel_rfl)
theorem kqx : SigOk Try.prog (dqx.sig (Lqx none)) ∧ (dqx.sig (Lqx none)).ok = true := zf zg (by kernel_rfl) (by kernel_rfl) (by kernel_rfl)
def dq9 : FD := { fn := 11, nb := 0, pre := ⟨[.ag [.i .i64 0, .i .i64 1, .i .i64 2, .i .i64 3, .fz 65 false 4, .fz 54 false 5, .fz 57 false 6]], []⟩, post := ⟨[.sc (.i .i64 0)], []⟩, sh := false, cuts := [] }
noncomputable def Lq9 : Option Nat → Lv → Option Lv := Lim Try.prog [dqc.sig (Lqc none), dqx.sig (Lqx none)] dq9 Try.f11
theorem eq9_i (a0 a1 a2 a3 : Int) (a4 a5 a6 : Rw) : Lq9 none [.i a0, .i a1, .i a2, .i a3, .l a4, .l a5, .l a6] =
 (Lqc none [.i a0, .i a1, .i a2, .i a3, .l a4, .l a5, .l a6]).bind fun y1 =>
 cond (!(g y1 0).bool) (
 some [.i 0]) (
 (Lqx none [.i a0, .i a1, .i a2, .i a3, .l a4, .l a5, .l a6]).bind fun y2 =>
 some [.i ((g y2 0).int)]) := (zd _ _).trans (by kernel_rfl)
theorem kq9 : SigOk Try.prog (dq9.sig (Lq9 none)) ∧ (dq9.sig (Lq9 none)).ok = true := zf (ze kqc (by kernel_rfl) (ze kqx (by kernel_rfl) zg)) (by kernel_rfl) (by kernel_rfl) (by kernel_rfl)
def dq3 : FD := { fn := 29, nb := 0, pre := ⟨[.sc (.i .i64 0)], []⟩, post := ⟨[.sc (.b 0)], []⟩, sh := false, cuts := [] }
noncomputable def Lq3 : Option Nat → Lv → Option Lv := Lim Try.prog [] dq3 Try.f29
theorem eq3_i (a0 : Int) : Lq3 none [.i a0] =
 cond (decide (1 ≤ a0)) (
 some [.b (decide (a0 ≤ 8))]) (
 some [.b false]) := (zd _ _).trans (by kernel_rfl)
theorem kq3 : SigOk Try.prog (dq3.sig (Lq3 none)) ∧ (dq3.sig (Lq3 none)).ok = true := zf zg (by kernel_rfl) (by kernel_rfl) (by kernel_rfl)
def dq5 : FD := { fn := 30, nb := 0, pre := ⟨[.sc (.i .i64 0)], []⟩, post := ⟨[.sc (.b 0)], []⟩, sh := false, cuts := [] }
noncomputable def Lq5 : Option Nat → Lv → Option Lv := Lim Try.prog [] dq5 Try.f30
theorem eq5_i (a0 : Int) : Lq5 none [.i a0] =
 cond (decide (0 ≤ a0)) (
 some [.b (decide (a0 ≤ 1000000000))]) (
 some [.b false]) := (zd _ _).trans (by kernel_rfl)
theorem kq5 : SigOk Try.prog (dq5.sig (Lq5 none)) ∧ (dq5.sig (Lq5 none)).ok = true := zf zg (by kernel_rfl) (by kernel_rfl) (by kernel_rfl)
def dqj : FD := { fn := 31, nb := 0, pre := ⟨[.ag [.s 0, .fz 9 false 1], .sc (.i .i64 2)], []⟩, post := ⟨[.sc (.b 0)], []⟩, sh := false, cuts := [⟨4, [1, 2, 18, 19, 20], ⟨[.sc (.i .i64 0), .sc (.pt 0 0), .sc (.fz 9 false 1), .sc (.i .i64 2), .sc (.i .i64 3)], [.bx [.s 4, .fz 9 false 5]]⟩⟩] }
noncomputable def Lqj : Option Nat → Lv → Option Lv := Lim Try.prog [dq3.sig (Lq3 none)] dqj Try.f31
theorem eqj_i (a0 : ByteArray) (a1 : Rw) (a2 : Int) : Lqj none [.s a0, .l a1, .i a2] =
 cond (decide (2000 < (a0.size : Int))) (
 some [.b false]) (
 cond (decide (30 < (a1.length : Int))) (
 some [.b false]) (
 Lqj (some 4) [.i a2, .l a1, .i (a1.length : Int), .i 0, .s a0, .l a1])) := (zd _ _).trans (by kernel_rfl)
theorem eqj_4 (a0 : Int) (a1 : Rw) (a2 a3 : Int) (a4 : ByteArray) (a5 : Rw) : Lqj (some 4) [.i a0, .l a1, .i a2, .i a3, .s a4, .l a5] =
 cond (decide (a3 < a2)) (
 cond (inb a3 a1.length) (
 cond ((((rd a1 a3.toNat 0).str).size : Int) != a0) (
 some [.b false]) (
 cond (decide (0 < a3)) (
 cond (inb (IntKind.i64.wrap (a3 - 1)) a5.length) (
 cond (!slt ((rd a5 ((IntKind.i64.wrap (a3 - 1)).toNat) 0).str) ((rd a1 a3.toNat 0).str)) (
 some [.b false]) (
 Lqj (some 4) [.i a0, .l a1, .i a2, .i (IntKind.i64.wrap (a3 + 1)), .s a4, .l a5])) (
 none)) (
 Lqj (some 4) [.i a0, .l a1, .i a2, .i (IntKind.i64.wrap (a3 + 1)), .s a4, .l a5]))) (
 none)) (
 (Lq3 none [.i a0]).bind fun y1 =>
 some [.b ((g y1 0).bool)]) := (zd _ _).trans (by kernel_rfl)
theorem kqj : SigOk Try.prog (dqj.sig (Lqj none)) ∧ (dqj.sig (Lqj none)).ok = true := zf (ze kq3 (by kernel_rfl) zg) (by kernel_rfl) (by kernel_rfl) (by kernel_rfl)
def dqe : FD := { fn := 32, nb := 0, pre := ⟨[.sc (.s 0), .sc (.i .i64 1)], []⟩, post := ⟨[.sc (.s 0)], []⟩, sh := false, cuts := [⟨5, [0, 1, 5, 13, 14], ⟨[.sc (.s 0), .sc (.i .i64 1), .sc (.i .u64 2), .sc (.i .i64 3), .sc (.i .i64 4)], []⟩⟩, ⟨12, [5, 7, 8], ⟨[.sc (.i .u64 0), .sc (.ow 0), .sc (.i .i64 1)], [.rw 5 true 2]⟩⟩] }
noncomputable def Lqe : Option Nat → Lv → Option Lv := Lim Try.prog [dq3.sig (Lq3 none)] dqe Try.f32
theorem eqe_i (a0 : ByteArray) (a1 : Int) : Lqe none [.s a0, .i a1] =
 (Lq3 none [.i a1]).bind fun y1 =>
 cond (!(g y1 0).bool) (
 some [.s (⟨#[]⟩ : ByteArray)]) (
 Lqe (some 5) [.s a0, .i a1, .i 14695981039346656037, .i (a0.size : Int), .i 0]) := (zd _ _).trans (by kernel_rfl)
theorem eqe_5 (a0 : ByteArray) (a1 a2 a3 a4 : Int) : Lqe (some 5) [.s a0, .i a1, .i a2, .i a3, .i a4] =
 cond (decide (a4 < a3)) (
 cond (inb a4 a0.size) (
 Lqe (some 5) [.s a0, .i a1, .i (IntKind.u64.wrap ((IntKind.u64.wrap (BitVec.ofInt (IntKind.u64).bits a2 ^^^ BitVec.ofInt (IntKind.u64).bits (IntKind.u64.wrap (byteAt a0 a4.toNat))).toNat) * 1099511628211)), .i a3, .i (IntKind.i64.wrap (a4 + 1))]) (
 none)) (
 cond (decide (0 ≤ a1)) (
 cond (a1 == a1) (
 cond (decide (a1 ≤ (most : Int))) (
 Lqe (some 12) [.i a2, .i (IntKind.i64.wrap (a1 - 1)), .l (List.replicate a1.toNat ([.i 0] : List C))]) (
 none)) (
 none)) (
 none)) := (zd _ _).trans (by kernel_rfl)
theorem eqe_12 (a0 a1 : Int) (a2 : Rw) : Lqe (some 12) [.i a0, .i a1, .l a2] =
 cond (decide (0 ≤ a1)) (
 cond (inb a1 a2.length) (
 Lqe (some 12) [.i (a0.fdiv (2 ^ 8)), .i (IntKind.i64.wrap (a1 - 1)), .l (wrs a2 a1.toNat 0 ([.i (IntKind.u8.wrap a0)] : List C))]) (
 none)) (
 some [.s (bytesOf a2)]) := (zd _ _).trans (by kernel_rfl)
theorem kqe : SigOk Try.prog (dqe.sig (Lqe none)) ∧ (dqe.sig (Lqe none)).ok = true := zf (ze kq3 (by kernel_rfl) zg) (by kernel_rfl) (by kernel_rfl) (by kernel_rfl)
end KV
end
section
set_option maxRecDepth 100000
namespace KV
open Go Go.Eng Go.Proofs
def dqh : FD := { fn := 33, nb := 0, pre := ⟨[.ag [.s 0, .fz 9 false 1]], []⟩, post := ⟨[.sc (.s 0)], []⟩, sh := false, cuts := [⟨3, [1, 3, 13, 14, 15], ⟨[.sc (.pt 0 0), .sc (.s 0), .sc (.fz 9 false 1), .sc (.i .i64 2), .sc (.i .i64 3)], [.bx [.s 4, .fz 9 false 5]]⟩⟩] }
noncomputable def Lqh : Option Nat → Lv → Option Lv := Lim Try.prog [] dqh Try.f33
theorem eqh_i (a0 : ByteArray) (a1 : Rw) : Lqh none [.s a0, .l a1] =
 Lqh (some 3) [.s (bytesOf ([[.i (IntKind.u8.wrap (a1.length : Int))]] : Rw)), .l a1, .i (a1.length : Int), .i 0, .s a0, .l a1] := (zd _ _).trans (by kernel_rfl)
theorem eqh_3 (a0 : ByteArray) (a1 : Rw) (a2 a3 : Int) (a4 : ByteArray) (a5 : Rw) : Lqh (some 3) [.s a0, .l a1, .i a2, .i a3, .s a4, .l a5] =
 cond (decide (a3 < a2)) (
 cond (inb a3 a1.length) (
 cond (decide (a0.size + ((rd a1 a3.toNat 0).str).size ≤ most)) (
 Lqh (some 3) [.s (a0 ++ ((rd a1 a3.toNat 0).str)), .l a1, .i a2, .i (IntKind.i64.wrap (a3 + 1)), .s a4, .l a5]) (
 none)) (
 none)) (
 cond (decide (a0.size + a4.size ≤ most)) (
 some [.s (a0 ++ a4)]) (
 none)) := (zd _ _).trans (by kernel_rfl)
theorem kqh : SigOk Try.prog (dqh.sig (Lqh none)) ∧ (dqh.sig (Lqh none)).ok = true := zf zg (by kernel_rfl) (by kernel_rfl) (by kernel_rfl)
def dqbn : FD := { fn := 56, nb := 0, pre := ⟨[.sc (.i .i64 0), .sc (.pt 0 0), .sc (.pt 2 0)], [.rb [.pt 1 0], .rb [.i .i64 1, .i .i64 2, .i .i64 3, .i .i64 4, .fz 65 false 5, .fz 54 false 6, .fz 57 false 7], .rb [.s 8]]⟩, post := ⟨[.sc (.b 0)], []⟩, sh := false, cuts := [] }
noncomputable def Lqbn : Option Nat → Lv → Option Lv := Lim Try.prog [] dqbn Try.f56
theorem eqbn_i (a0 a1 a2 a3 a4 : Int) (a5 a6 a7 : Rw) (a8 : ByteArray) : Lqbn none [.i a0, .i a1, .i a2, .i a3, .i a4, .l a5, .l a6, .l a7, .s a8] =
 cond (inb a0 a5.length) (
 some [.b (!slt ((rd a5 a0.toNat 0).str) a8)]) (
 none) := (zd _ _).trans (by kernel_rfl)
theorem kqbn : SigOk Try.prog (dqbn.sig (Lqbn none)) ∧ (dqbn.sig (Lqbn none)).ok = true := zf zg (by kernel_rfl) (by kernel_rfl) (by kernel_rfl)
def dqy : FD := { fn := 55, nb := 0, pre := ⟨[.sc (.i .i64 0), .sc (.fn 56 [(0, 0), (2, 0)])], [.rb [.pt 1 0], .rb [.i .i64 1, .i .i64 2, .i .i64 3, .i .i64 4, .fz 65 false 5, .fz 54 false 6, .fz 57 false 7], .rb [.s 8]]⟩, post := ⟨[.sc (.i .i64 0)], []⟩, sh := false, cuts := [⟨2, [1, 5, 6], ⟨[.sc (.fn 56 [(0, 0), (1, 0)]), .sc (.i .i64 0), .sc (.i .i64 1)], [.rb [.pt 2 0], .rb [.s 2], .rb [.i .i64 3, .i .i64 4, .i .i64 5, .i .i64 6, .fz 65 false 7, .fz 54 false 8, .fz 57 false 9]]⟩⟩] }
noncomputable def Lqy : Option Nat → Lv → Option Lv := Lim Try.prog [dqbn.sig (Lqbn none)] dqy Try.f55
theorem eqy_i (a0 a1 a2 a3 a4 : Int) (a5 a6 a7 : Rw) (a8 : ByteArray) : Lqy none [.i a0, .i a1, .i a2, .i a3, .i a4, .l a5, .l a6, .l a7, .s a8] =
 Lqy (some 2) [.i 0, .i a0, .s a8, .i a1, .i a2, .i a3, .i a4, .l a5, .l a6, .l a7] := (zd _ _).trans (by kernel_rfl)
theorem eqy_2 (a0 a1 : Int) (a2 : ByteArray) (a3 a4 a5 a6 : Int) (a7 a8 a9 : Rw) : Lqy (some 2) [.i a0, .i a1, .s a2, .i a3, .i a4, .i a5, .i a6, .l a7, .l a8, .l a9] =
 cond (decide (a0 < a1)) (
 (Lqbn none [.i (IntKind.i64.wrap ((IntKind.u64.wrap (IntKind.i64.wrap (a0 + a1))).fdiv (2 ^ 1))), .i a3, .i a4, .i a5, .i a6, .l a7, .l a8, .l a9, .s a2]).bind fun y1 =>
 cond (!(g y1 0).bool) (
 Lqy (some 2) [.i (IntKind.i64.wrap ((IntKind.i64.wrap ((IntKind.u64.wrap (IntKind.i64.wrap (a0 + a1))).fdiv (2 ^ 1))) + 1)), .i a1, .s a2, .i a3, .i a4, .i a5, .i a6, .l a7, .l a8, .l a9]) (
 Lqy (some 2) [.i a0, .i (IntKind.i64.wrap ((IntKind.u64.wrap (IntKind.i64.wrap (a0 + a1))).fdiv (2 ^ 1))), .s a2, .i a3, .i a4, .i a5, .i a6, .l a7, .l a8, .l a9])) (
 some [.i a0]) := (zd _ _).trans (by kernel_rfl)
theorem kqy : SigOk Try.prog (dqy.sig (Lqy none)) ∧ (dqy.sig (Lqy none)).ok = true := zf (ze kqbn (by kernel_rfl) zg) (by kernel_rfl) (by kernel_rfl) (by kernel_rfl)
def dq6 : FD := { fn := 34, nb := 0, pre := ⟨[.sc (.pt 0 0), .sc (.s 0)], [.rb [.i .i64 1, .i .i64 2, .i .i64 3, .i .i64 4, .fz 65 false 5, .fz 54 false 6, .fz 57 false 7]]⟩, post := ⟨[.tu [(false, [.i .i64 0]), (false, [.b 1])]], []⟩, sh := false, cuts := [] }
noncomputable def Lq6 : Option Nat → Lv → Option Lv := Lim Try.prog [dqy.sig (Lqy none)] dq6 Try.f34
theorem eq6_i (a0 : ByteArray) (a1 a2 a3 a4 : Int) (a5 a6 a7 : Rw) : Lq6 none [.s a0, .i a1, .i a2, .i a3, .i a4, .l a5, .l a6, .l a7] =
 (Lqy none [.i (a5.length : Int), .i a1, .i a2, .i a3, .i a4, .l a5, .l a6, .l a7, .s a0]).bind fun y1 =>
 cond (decide ((g y1 0).int < (a5.length : Int))) (
 cond (inb ((g y1 0).int) a5.length) (
 some [.i ((g y1 0).int), .b (Eng.seq ((rd a5 (((g y1 0).int).toNat) 0).str) a0)]) (
 none)) (
 some [.i ((g y1 0).int), .b false]) := (zd _ _).trans (by kernel_rfl)
theorem kq6 : SigOk Try.prog (dq6.sig (Lq6 none)) ∧ (dq6.sig (Lq6 none)).ok = true := zf (ze kqy (by kernel_rfl) zg) (by kernel_rfl) (by kernel_rfl) (by kernel_rfl)
def dqz : FD := { fn := 35, nb := 0, pre := ⟨[.sc (.s 0)], []⟩, post := ⟨[.sc (.b 0)], []⟩, sh := false, cuts := [⟨2, [0, 5, 6], ⟨[.sc (.s 0), .sc (.i .i64 1), .sc (.i .i64 2)], []⟩⟩] }
noncomputable def Lqz : Option Nat → Lv → Option Lv := Lim Try.prog [] dqz Try.f35
theorem eqz_i (a0 : ByteArray) : Lqz none [.s a0] =
 Lqz (some 2) [.s a0, .i (a0.size : Int), .i 0] := (zd _ _).trans (by kernel_rfl)
theorem eqz_2 (a0 : ByteArray) (a1 a2 : Int) : Lqz (some 2) [.s a0, .i a1, .i a2] =
 cond (decide (a2 < a1)) (
 cond (inb a2 a0.size) (
 cond (decide ((byteAt a0 a2.toNat) < 33)) (
 some [.b false]) (
 cond (inb a2 a0.size) (
 cond (decide (126 < (byteAt a0 a2.toNat))) (
 some [.b false]) (
 Lqz (some 2) [.s a0, .i a1, .i (IntKind.i64.wrap (a2 + 1))])) (
 none))) (
 none)) (
 cond (decide (1 ≤ (a0.size : Int))) (
 some [.b (decide ((a0.size : Int) ≤ 40))]) (
 some [.b false])) := (zd _ _).trans (by kernel_rfl)
theorem kqz : SigOk Try.prog (dqz.sig (Lqz none)) ∧ (dqz.sig (Lqz none)).ok = true := zf zg (by kernel_rfl) (by kernel_rfl) (by kernel_rfl)
def dqa : FD := { fn := 9, nb := 0, pre := ⟨[.ag [.i .i64 0, .i .i64 1, .i .i64 2, .i .i64 3, .fz 65 false 4, .fz 54 false 5, .fz 57 false 6]], []⟩, post := ⟨[.sc (.b 0)], []⟩, sh := false, cuts := [⟨5, [1, 3, 62, 63, 64], ⟨[.sc (.pt 0 0), .sc (.mp 1), .sc (.fz 65 false 0), .sc (.i .i64 1), .sc (.i .i64 2)], [.bx [.i .i64 3, .i .i64 4, .i .i64 5, .i .i64 6, .fz 65 false 7, .fz 54 false 8, .fz 57 false 9], .mp 3 4 10]⟩⟩, ⟨12, [1, 125, 126, 127], ⟨[.sc (.pt 0 0), .sc (.fz 65 false 0), .sc (.i .i64 1), .sc (.i .i64 2)], [.bx [.i .i64 3, .i .i64 4, .i .i64 5, .i .i64 6, .fz 65 false 7, .fz 54 false 8, .fz 57 false 9]]⟩⟩, ⟨15, [1, 7, 125, 126, 127, 133, 134, 135], ⟨[.sc (.pt 0 0), .sc (.pt 1 0), .sc (.fz 65 false 0), .sc (.i .i64 1), .sc (.i .i64 2), .sc (.fz 9 false 3), .sc (.i .i64 4), .sc (.i .i64 5)], [.bx [.i .i64 6, .i .i64 7, .i .i64 8, .i .i64 9, .fz 65 false 10, .fz 54 false 11, .fz 57 false 12], .bx [.s 13, .i .i64 14, .s 15, .fz 9 false 16]]⟩⟩, ⟨23, [1, 160, 161, 162], ⟨[.sc (.pt 0 0), .sc (.fz 54 false 0), .sc (.i .i64 1), .sc (.i .i64 2)], [.bx [.i .i64 3, .i .i64 4, .i .i64 5, .i .i64 6, .fz 65 false 7, .fz 54 false 8, .fz 57 false 9]]⟩⟩, ⟨30, [1, 199, 200, 201], ⟨[.sc (.pt 0 0), .sc (.fz 57 false 0), .sc (.i .i64 1), .sc (.i .i64 2)], [.bx [.i .i64 3, .i .i64 4, .i .i64 5, .i .i64 6, .fz 65 false 7, .fz 54 false 8, .fz 57 false 9]]⟩⟩] }
noncomputable def Lqa : Option Nat → Lv → Option Lv := Lim Try.prog [dq3.sig (Lq3 none), dq5.sig (Lq5 none), dqj.sig (Lqj none), dqe.sig (Lqe none), dqh.sig (Lqh none), dq6.sig (Lq6 none), dqz.sig (Lqz none)] dqa Try.f9
theorem eqa_i (a0 a1 a2 a3 : Int) (a4 a5 a6 : Rw) : Lqa none [.i a0, .i a1, .i a2, .i a3, .l a4, .l a5, .l a6] =
 (Lq3 none [.i a0]).bind fun y1 =>
 cond (!(g y1 0).bool) (
 some [.b false]) (
 (Lq5 none [.i a1]).bind fun y2 =>
 cond (!(g y2 0).bool) (
 some [.b false]) (
 (Lq5 none [.i a2]).bind fun y3 =>
 cond (!(g y3 0).bool) (
 some [.b false]) (
 (Lq5 none [.i a3]).bind fun y4 =>
 cond (!(g y4 0).bool) (
 some [.b false]) (
 cond (decide (600 < (a4.length : Int))) (
 some [.b false]) (
 cond (decide (100 < (a5.length : Int))) (
 some [.b false]) (
 cond (decide (200 < (a6.length : Int))) (
 some [.b false]) (
 Lqa (some 5) [.l a4, .i (a4.length : Int), .i 0, .i a0, .i a1, .i a2, .i a3, .l a4, .l a5, .l a6, .m ([])]))))))) := (zd _ _).trans (by kernel_rfl)
theorem eqa_5 (a0 : Rw) (a1 a2 a3 a4 a5 a6 : Int) (a7 a8 a9 : Rw) (a10 : List (C × C)) : Lqa (some 5) [.l a0, .i a1, .i a2, .i a3, .i a4, .i a5, .i a6, .l a7, .l a8, .l a9, .m a10] =
 cond (decide (a2 < a1)) (
 cond (inb a2 a0.length) (
 cond (decide (0 < a2)) (
 cond (inb (IntKind.i64.wrap (a2 - 1)) a7.length) (
 cond (!slt ((rd a7 ((IntKind.i64.wrap (a2 - 1)).toNat) 0).str) ((rd a0 a2.toNat 0).str)) (
 some [.b false]) (
 (Lqj none [.s ((rd a0 a2.toNat 2).str), .l ((rd a0 a2.toNat 3).list), .i a3]).bind fun y1 =>
 cond (!(g y1 0).bool) (
 some [.b false]) (
 (Lqh none [.s ((rd a0 a2.toNat 2).str), .l ((rd a0 a2.toNat 3).list)]).bind fun y2 =>
 (Lqe none [.s ((g y2 0).str), .i a3]).bind fun y3 =>
 cond (!Eng.seq ((rd a0 a2.toNat 0).str) ((g y3 0).str)) (
 some [.b false]) (
 cond (decide ((rd a0 a2.toNat 1).int < 1)) (
 some [.b false]) (
 cond (decide (a6 < (rd a0 a2.toNat 1).int)) (
 some [.b false]) (
 cond (((mget (.i .i64) (.i ((rd a0 a2.toNat 1).int)) a10).getD (.b false)).bool) (
 some [.b false]) (
 Lqa (some 5) [.l a0, .i a1, .i (IntKind.i64.wrap (a2 + 1)), .i a3, .i a4, .i a5, .i a6, .l a7, .l a8, .l a9, .m (mput (.i .i64) (.i ((rd a0 a2.toNat 1).int)) (.b true) a10)]))))))) (
 none)) (
 (Lqj none [.s ((rd a0 a2.toNat 2).str), .l ((rd a0 a2.toNat 3).list), .i a3]).bind fun y4 =>
 cond (!(g y4 0).bool) (
 some [.b false]) (
 (Lqh none [.s ((rd a0 a2.toNat 2).str), .l ((rd a0 a2.toNat 3).list)]).bind fun y5 =>
 (Lqe none [.s ((g y5 0).str), .i a3]).bind fun y6 =>
 cond (!Eng.seq ((rd a0 a2.toNat 0).str) ((g y6 0).str)) (
 some [.b false]) (
 cond (decide ((rd a0 a2.toNat 1).int < 1)) (
 some [.b false]) (
 cond (decide (a6 < (rd a0 a2.toNat 1).int)) (
 some [.b false]) (
 cond (((mget (.i .i64) (.i ((rd a0 a2.toNat 1).int)) a10).getD (.b false)).bool) (
 some [.b false]) (
 Lqa (some 5) [.l a0, .i a1, .i (IntKind.i64.wrap (a2 + 1)), .i a3, .i a4, .i a5, .i a6, .l a7, .l a8, .l a9, .m (mput (.i .i64) (.i ((rd a0 a2.toNat 1).int)) (.b true) a10)]))))))) (
 none)) (
 Lqa (some 12) [.l a7, .i (a7.length : Int), .i 0, .i a3, .i a4, .i a5, .i a6, .l a7, .l a8, .l a9]) := (zd _ _).trans (by kernel_rfl)
theorem eqa_12 (a0 : Rw) (a1 a2 a3 a4 a5 a6 : Int) (a7 a8 a9 : Rw) : Lqa (some 12) [.l a0, .i a1, .i a2, .i a3, .i a4, .i a5, .i a6, .l a7, .l a8, .l a9] =
 cond (decide (a2 < a1)) (
 cond (inb a2 a0.length) (
 Lqa (some 15) [.l a0, .i a1, .i a2, .l ((rd a0 a2.toNat 3).list), .i (((rd a0 a2.toNat 3).list).length : Int), .i 0, .i a3, .i a4, .i a5, .i a6, .l a7, .l a8, .l a9, .s ((rd a0 a2.toNat 0).str), .i ((rd a0 a2.toNat 1).int), .s ((rd a0 a2.toNat 2).str), .l ((rd a0 a2.toNat 3).list)]) (
 none)) (
 Lqa (some 23) [.l a8, .i (a8.length : Int), .i 0, .i a3, .i a4, .i a5, .i a6, .l a7, .l a8, .l a9]) := (zd _ _).trans (by kernel_rfl)
theorem eqa_15 (a0 : Rw) (a1 a2 : Int) (a3 : Rw) (a4 a5 a6 a7 a8 a9 : Int) (a10 a11 a12 : Rw) (a13 : ByteArray) (a14 : Int) (a15 : ByteArray) (a16 : Rw) : Lqa (some 15) [.l a0, .i a1, .i a2, .l a3, .i a4, .i a5, .i a6, .i a7, .i a8, .i a9, .l a10, .l a11, .l a12, .s a13, .i a14, .s a15, .l a16] =
 cond (decide (a5 < a4)) (
 cond (inb a5 a3.length) (
 (Lq6 none [.s ((rd a3 a5.toNat 0).str), .i a6, .i a7, .i a8, .i a9, .l a10, .l a11, .l a12]).bind fun y1 =>
 cond (!(g y1 1).bool) (
 some [.b false]) (
 cond (inb ((g y1 0).int) a10.length) (
 cond (decide (a14 ≤ (rd a10 (((g y1 0).int).toNat) 1).int)) (
 some [.b false]) (
 Lqa (some 15) [.l a0, .i a1, .i a2, .l a3, .i a4, .i (IntKind.i64.wrap (a5 + 1)), .i a6, .i a7, .i a8, .i a9, .l a10, .l a11, .l a12, .s a13, .i a14, .s a15, .l a16])) (
 none))) (
 none)) (
 Lqa (some 12) [.l a0, .i a1, .i (IntKind.i64.wrap (a2 + 1)), .i a6, .i a7, .i a8, .i a9, .l a10, .l a11, .l a12]) := (zd _ _).trans (by kernel_rfl)
theorem eqa_23 (a0 : Rw) (a1 a2 a3 a4 a5 a6 : Int) (a7 a8 a9 : Rw) : Lqa (some 23) [.l a0, .i a1, .i a2, .i a3, .i a4, .i a5, .i a6, .l a7, .l a8, .l a9] =
 cond (decide (a2 < a1)) (
 cond (inb a2 a0.length) (
 (Lq6 none [.s ((rd a0 a2.toNat 1).str), .i a3, .i a4, .i a5, .i a6, .l a7, .l a8, .l a9]).bind fun y1 =>
 cond (!(g y1 1).bool) (
 some [.b false]) (
 (Lqz none [.s ((rd a0 a2.toNat 0).str)]).bind fun y2 =>
 cond (!(g y2 0).bool) (
 some [.b false]) (
 cond (decide (0 < a2)) (
 cond (inb (IntKind.i64.wrap (a2 - 1)) a8.length) (
 cond (!slt ((rd a8 ((IntKind.i64.wrap (a2 - 1)).toNat) 0).str) ((rd a0 a2.toNat 0).str)) (
 some [.b false]) (
 Lqa (some 23) [.l a0, .i a1, .i (IntKind.i64.wrap (a2 + 1)), .i a3, .i a4, .i a5, .i a6, .l a7, .l a8, .l a9])) (
 none)) (
 Lqa (some 23) [.l a0, .i a1, .i (IntKind.i64.wrap (a2 + 1)), .i a3, .i a4, .i a5, .i a6, .l a7, .l a8, .l a9])))) (
 none)) (
 Lqa (some 30) [.l a9, .i (a9.length : Int), .i 0, .i a3, .i a4, .i a5, .i a6, .l a7, .l a8, .l a9]) := (zd _ _).trans (by kernel_rfl)
theorem eqa_30 (a0 : Rw) (a1 a2 a3 a4 a5 a6 : Int) (a7 a8 a9 : Rw) : Lqa (some 30) [.l a0, .i a1, .i a2, .i a3, .i a4, .i a5, .i a6, .l a7, .l a8, .l a9] =
 cond (decide (a2 < a1)) (
 cond (inb a2 a0.length) (
 (Lq6 none [.s ((rd a0 a2.toNat 1).str), .i a3, .i a4, .i a5, .i a6, .l a7, .l a8, .l a9]).bind fun y1 =>
 cond (!(g y1 1).bool) (
 some [.b false]) (
 cond (decide ((rd a0 a2.toNat 0).int < 1)) (
 some [.b false]) (
 cond (decide (a5 < (rd a0 a2.toNat 0).int)) (
 some [.b false]) (
 cond (decide (0 < a2)) (
 cond (inb (IntKind.i64.wrap (a2 - 1)) a9.length) (
 cond (decide ((rd a0 a2.toNat 0).int ≤ (rd a9 ((IntKind.i64.wrap (a2 - 1)).toNat) 0).int)) (
 some [.b false]) (
 cond (decide ((rd a0 a2.toNat 2).int ≤ a4)) (
 some [.b false]) (
 cond (decide ((IntKind.i64.wrap (a4 + 100000)) < (rd a0 a2.toNat 2).int)) (
 some [.b false]) (
 Lqa (some 30) [.l a0, .i a1, .i (IntKind.i64.wrap (a2 + 1)), .i a3, .i a4, .i a5, .i a6, .l a7, .l a8, .l a9])))) (
 none)) (
 cond (decide ((rd a0 a2.toNat 2).int ≤ a4)) (
 some [.b false]) (
 cond (decide ((IntKind.i64.wrap (a4 + 100000)) < (rd a0 a2.toNat 2).int)) (
 some [.b false]) (
 Lqa (some 30) [.l a0, .i a1, .i (IntKind.i64.wrap (a2 + 1)), .i a3, .i a4, .i a5, .i a6, .l a7, .l a8, .l a9]))))))) (
 none)) (
 some [.b true]) := (zd _ _).trans (by kernel_rfl)
theorem kqa : SigOk Try.prog (dqa.sig (Lqa none)) ∧ (dqa.sig (Lqa none)).ok = true := zf (ze kq3 (by kernel_rfl) (ze kq5 (by kernel_rfl) (ze kqj (by kernel_rfl) (ze kqe (by kernel_rfl) (ze kqh (by kernel_rfl) (ze kq6 (by kernel_rfl) (ze kqz (by kernel_rfl) zg))))))) (by kernel_rfl) (by kernel_rfl) (by kernel_rfl)
def dq0 : FD := { fn := 40, nb := 0, pre := ⟨[.sc (.pt 0 0)], [.rb [.i .i64 0, .i .i64 1, .i .i64 2, .i .i64 3, .fz 65 false 4, .fz 54 false 5, .fz 57 false 6]]⟩, post := ⟨[.sc (.i .i64 0)], []⟩, sh := false, cuts := [⟨3, [3, 9, 10, 11], ⟨[.sc (.i .i64 0), .sc (.fz 65 false 1), .sc (.i .i64 2), .sc (.i .i64 3)], []⟩⟩] }
noncomputable def Lq0 : Option Nat → Lv → Option Lv := Lim Try.prog [dqh.sig (Lqh none)] dq0 Try.f40
theorem eq0_i (a0 a1 a2 a3 : Int) (a4 a5 a6 : Rw) : Lq0 none [.i a0, .i a1, .i a2, .i a3, .l a4, .l a5, .l a6] =
 Lq0 (some 3) [.i 0, .l a4, .i (a4.length : Int), .i 0] := (zd _ _).trans (by kernel_rfl)
theorem eq0_3 (a0 : Int) (a1 : Rw) (a2 a3 : Int) : Lq0 (some 3) [.i a0, .l a1, .i a2, .i a3] =
 cond (decide (a3 < a2)) (
 cond (inb a3 a1.length) (
 (Lqh none [.s ((rd a1 a3.toNat 2).str), .l ((rd a1 a3.toNat 3).list)]).bind fun y1 =>
 Lq0 (some 3) [.i (IntKind.i64.wrap (a0 + (((g y1 0).str).size : Int))), .l a1, .i a2, .i (IntKind.i64.wrap (a3 + 1))]) (
 none)) (
 some [.i a0]) := (zd _ _).trans (by kernel_rfl)
theorem kq0 : SigOk Try.prog (dq0.sig (Lq0 none)) ∧ (dq0.sig (Lq0 none)).ok = true := zf (ze kqh (by kernel_rfl) zg) (by kernel_rfl) (by kernel_rfl) (by kernel_rfl)
def dqba : FD := { fn := 12, nb := 0, pre := ⟨[.ag [.i .i64 0, .i .i64 1, .i .i64 2, .i .i64 3, .fz 65 false 4, .fz 54 false 5, .fz 57 false 6]], []⟩, post := ⟨[.sc (.i .i64 0)], []⟩, sh := false, cuts := [] }
noncomputable def Lqba : Option Nat → Lv → Option Lv := Lim Try.prog [dqa.sig (Lqa none), dq0.sig (Lq0 none)] dqba Try.f12
theorem eqba_i (a0 a1 a2 a3 : Int) (a4 a5 a6 : Rw) : Lqba none [.i a0, .i a1, .i a2, .i a3, .l a4, .l a5, .l a6] =
 (Lqa none [.i a0, .i a1, .i a2, .i a3, .l a4, .l a5, .l a6]).bind fun y1 =>
 cond (!(g y1 0).bool) (
 some [.i 0]) (
 (Lq0 none [.i a0, .i a1, .i a2, .i a3, .l a4, .l a5, .l a6]).bind fun y2 =>
 some [.i ((g y2 0).int)]) := (zd _ _).trans (by kernel_rfl)
theorem kqba : SigOk Try.prog (dqba.sig (Lqba none)) ∧ (dqba.sig (Lqba none)).ok = true := zf (ze kqa (by kernel_rfl) (ze kq0 (by kernel_rfl) zg)) (by kernel_rfl) (by kernel_rfl) (by kernel_rfl)
def dqbo : FD := { fn := 4, nb := 0, pre := ⟨[.ag [.i .i64 0, .i .i64 1, .i .i64 2, .i .i64 3, .fz 82 false 4, .fz 84 false 5, .fz 86 false 6]], []⟩, post := ⟨[.sc (.b 0)], []⟩, sh := false, cuts := [] }
noncomputable def Lqbo : Option Nat → Lv → Option Lv := Lim Try.prog [dqbd.sig (Lqbd none), dq4.sig (Lq4 none), dq8.sig (Lq8 none), dq9.sig (Lq9 none), dqba.sig (Lqba none)] dqbo Try.f4
theorem eqbo_i (a0 a1 a2 a3 : Int) (a4 a5 a6 : Rw) : Lqbo none [.i a0, .i a1, .i a2, .i a3, .l a4, .l a5, .l a6] =
 (Lqbd none [.i a0, .i a1, .i a2, .i a3, .l a4, .l a5, .l a6, .i 1048576]).bind fun y1 =>
 cond (decide ((g y1 0).int < 0)) (
 some [.b true]) (
 (Lq4 none [.i a0, .i a1, .i a2, .i a3, .l a4, .l a5, .l a6]).bind fun y2 =>
 (Lq9 none [.i ((g y2 0).int), .i ((g y2 1).int), .i ((g y2 2).int), .i ((g y2 3).int), .l ((g y2 4).list), .l ((g y2 5).list), .l ((g y2 6).list)]).bind fun y3 =>
 (Lq4 none [.i a0, .i a1, .i a2, .i a3, .l a4, .l a5, .l a6]).bind fun y4 =>
 (Lqba none [.i ((g y4 0).int), .i ((g y4 1).int), .i ((g y4 2).int), .i ((g y4 3).int), .l ((g y4 4).list), .l ((g y4 5).list), .l ((g y4 6).list)]).bind fun y5 =>
 cond ((g y5 0).int != (g y3 0).int) (
 some [.b false]) (
 (Lq4 none [.i a0, .i a1, .i a2, .i a3, .l a4, .l a5, .l a6]).bind fun y6 =>
 (Lq8 none [.i ((g y4 0).int), .i ((g y4 1).int), .i ((g y4 2).int), .i ((g y4 3).int), .l ((g y4 4).list), .l ((g y4 5).list), .l ((g y4 6).list), .i ((g y6 0).int), .i ((g y6 1).int), .i ((g y6 2).int), .i ((g y6 3).int), .l ((g y6 4).list), .l ((g y6 5).list), .l ((g y6 6).list)]).bind fun y7 =>
 cond (!(g y7 0).bool) (
 some [.b false]) (
 some [.b true]))) := (zd _ _).trans (by kernel_rfl)
theorem kqbo : SigOk Try.prog (dqbo.sig (Lqbo none)) ∧ (dqbo.sig (Lqbo none)).ok = true := zf (ze kqbd (by kernel_rfl) (ze kq4 (by kernel_rfl) (ze kq8 (by kernel_rfl) (ze kq9 (by kernel_rfl) (ze kqba (by kernel_rfl) zg))))) (by kernel_rfl) (by kernel_rfl) (by kernel_rfl)
end KV
end
