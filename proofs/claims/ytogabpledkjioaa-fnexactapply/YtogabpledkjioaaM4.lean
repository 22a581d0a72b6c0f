/- Walks of Go functions, printed by a program of ours. -/
import Derived.Test.YtogabpledkjioaaProg
import Derived.Test.YtogabpledkjioaaM1
import Derived.Test.YtogabpledkjioaaM2
import Derived.Test.YtogabpledkjioaaM3
set_option linter.unusedSimpArgs false
set_option linter.unusedVariables false
set_option linter.unusedSectionVars false
section
set_option maxRecDepth 100000
namespace KV
open Go Go.Eng Go.Proofs
def dqz : FD := { fn := 29, nb := 0, pre := ⟨[.sc (.fz 9 false 0), .sc (.i .i64 1)], []⟩, post := ⟨[.sc (.i .i64 0)], []⟩, sh := false, cuts := [⟨5, [0, 1, 5], ⟨[.sc (.fz 9 false 0), .sc (.i .i64 1), .sc (.i .i64 2)], []⟩⟩] }
noncomputable def Lqz : Option Nat → Lv → Option Lv := Lim Try.prog [] dqz Try.f29
theorem eqz_i (a0 : Rw) (a1 : Int) : Lqz none [.l a0, .i a1] =
 cond (decide ((IntKind.i64.wrap (a1 - (a0.length : Int))) < 0)) (
 some [.i (-1)]) (
 Lqz (some 5) [.l a0, .i (IntKind.i64.wrap (a1 - (a0.length : Int))), .i 0]) := (zb _ _).trans (by kernel_rfl)
theorem eqz_5 (a0 : Rw) (a1 a2 : Int) : Lqz (some 5) [.l a0, .i a1, .i a2] =
 cond (decide (a2 < (a0.length : Int))) (
 cond (inb a2 a0.length) (
 cond (decide ((IntKind.i64.wrap (a1 - (((rd a0 a2.toNat 0).str).size : Int))) < 0)) (
 some [.i (-1)]) (
 Lqz (some 5) [.l a0, .i (IntKind.i64.wrap (a1 - (((rd a0 a2.toNat 0).str).size : Int))), .i (IntKind.i64.wrap (a2 + 1))])) (
 none)) (
 some [.i a1]) := (zb _ _).trans (by kernel_rfl)
theorem kqz : SigOk Try.prog (dqz.sig (Lqz none)) ∧ (dqz.sig (Lqz none)).ok = true := zg zf (by kernel_rfl) (by kernel_rfl) (by kernel_rfl)
def dqbz : FD := { fn := 110, nb := 0, pre := ⟨[.ag [.s 0, .fz 9 false 1], .sc (.i .i64 2)], []⟩, post := ⟨[.sc (.i .i64 0)], []⟩, sh := false, cuts := [] }
noncomputable def Lqbz : Option Nat → Lv → Option Lv := Lim Try.prog [dqz.sig (Lqz none)] dqbz Try.f110
theorem eqbz_i (a0 : ByteArray) (a1 : Rw) (a2 : Int) : Lqbz none [.s a0, .l a1, .i a2] =
 cond (decide ((IntKind.i64.wrap (a2 - (a0.size : Int))) < 0)) (
 some [.i (-1)]) (
 (Lqz none [.l a1, .i (IntKind.i64.wrap (a2 - (a0.size : Int)))]).bind fun y1 =>
 cond (decide ((g y1 0).int < 0)) (
 some [.i (-1)]) (
 some [.i ((g y1 0).int)])) := (zb _ _).trans (by kernel_rfl)
theorem kqbz : SigOk Try.prog (dqbz.sig (Lqbz none)) ∧ (dqbz.sig (Lqbz none)).ok = true := zg (zd kqz (by kernel_rfl) zf) (by kernel_rfl) (by kernel_rfl) (by kernel_rfl)
def dqcf : FD := { fn := 116, nb := 0, pre := ⟨[.ag [.s 0, .i .i64 1, .s 2, .fz 9 false 3], .sc (.i .i64 4)], []⟩, post := ⟨[.sc (.i .i64 0)], []⟩, sh := false, cuts := [] }
noncomputable def Lqcf : Option Nat → Lv → Option Lv := Lim Try.prog [dqbz.sig (Lqbz none)] dqcf Try.f116
theorem eqcf_i (a0 : ByteArray) (a1 : Int) (a2 : ByteArray) (a3 : Rw) (a4 : Int) : Lqcf none [.s a0, .i a1, .s a2, .l a3, .i a4] =
 cond (decide ((IntKind.i64.wrap (a4 - (a0.size : Int))) < 0)) (
 some [.i (-1)]) (
 (Lqbz none [.s a2, .l a3, .i (IntKind.i64.wrap (a4 - (a0.size : Int)))]).bind fun y1 =>
 cond (decide ((g y1 0).int < 0)) (
 some [.i (-1)]) (
 some [.i ((g y1 0).int)])) := (zb _ _).trans (by kernel_rfl)
theorem kqcf : SigOk Try.prog (dqcf.sig (Lqcf none)) ∧ (dqcf.sig (Lqcf none)).ok = true := zg (zd kqbz (by kernel_rfl) zf) (by kernel_rfl) (by kernel_rfl) (by kernel_rfl)
def dq0 : FD := { fn := 61, nb := 0, pre := ⟨[.sc (.fz 150 false 0), .sc (.i .i64 1)], []⟩, post := ⟨[.sc (.i .i64 0)], []⟩, sh := false, cuts := [⟨5, [0, 1, 5], ⟨[.sc (.fz 150 false 0), .sc (.i .i64 1), .sc (.i .i64 2)], []⟩⟩] }
noncomputable def Lq0 : Option Nat → Lv → Option Lv := Lim Try.prog [dqcf.sig (Lqcf none)] dq0 Try.f61
theorem eq0_i (a0 : Rw) (a1 : Int) : Lq0 none [.l a0, .i a1] =
 cond (decide ((IntKind.i64.wrap (a1 - (a0.length : Int))) < 0)) (
 some [.i (-1)]) (
 Lq0 (some 5) [.l a0, .i (IntKind.i64.wrap (a1 - (a0.length : Int))), .i 0]) := (zb _ _).trans (by kernel_rfl)
theorem eq0_5 (a0 : Rw) (a1 a2 : Int) : Lq0 (some 5) [.l a0, .i a1, .i a2] =
 cond (decide (a2 < (a0.length : Int))) (
 cond (inb a2 a0.length) (
 (Lqcf none [.s ((rd a0 a2.toNat 0).str), .i ((rd a0 a2.toNat 1).int), .s ((rd a0 a2.toNat 2).str), .l ((rd a0 a2.toNat 3).list), .i a1]).bind fun y1 =>
 cond (decide ((g y1 0).int < 0)) (
 some [.i (-1)]) (
 Lq0 (some 5) [.l a0, .i ((g y1 0).int), .i (IntKind.i64.wrap (a2 + 1))])) (
 none)) (
 some [.i a1]) := (zb _ _).trans (by kernel_rfl)
theorem kq0 : SigOk Try.prog (dq0.sig (Lq0 none)) ∧ (dq0.sig (Lq0 none)).ok = true := zg (zd kqcf (by kernel_rfl) zf) (by kernel_rfl) (by kernel_rfl) (by kernel_rfl)
def dqca : FD := { fn := 117, nb := 0, pre := ⟨[.ag [.s 0, .s 1], .sc (.i .i64 2)], []⟩, post := ⟨[.sc (.i .i64 0)], []⟩, sh := false, cuts := [] }
noncomputable def Lqca : Option Nat → Lv → Option Lv := Lim Try.prog [] dqca Try.f117
theorem eqca_i (a0 a1 : ByteArray) (a2 : Int) : Lqca none [.s a0, .s a1, .i a2] =
 cond (decide ((IntKind.i64.wrap (a2 - (a0.size : Int))) < 0)) (
 some [.i (-1)]) (
 cond (decide ((IntKind.i64.wrap ((IntKind.i64.wrap (a2 - (a0.size : Int))) - (a1.size : Int))) < 0)) (
 some [.i (-1)]) (
 some [.i (IntKind.i64.wrap ((IntKind.i64.wrap (a2 - (a0.size : Int))) - (a1.size : Int)))])) := (zb _ _).trans (by kernel_rfl)
theorem kqca : SigOk Try.prog (dqca.sig (Lqca none)) ∧ (dqca.sig (Lqca none)).ok = true := zg zf (by kernel_rfl) (by kernel_rfl) (by kernel_rfl)
def dqv : FD := { fn := 62, nb := 0, pre := ⟨[.sc (.fz 152 false 0), .sc (.i .i64 1)], []⟩, post := ⟨[.sc (.i .i64 0)], []⟩, sh := false, cuts := [⟨5, [0, 1, 5], ⟨[.sc (.fz 152 false 0), .sc (.i .i64 1), .sc (.i .i64 2)], []⟩⟩] }
noncomputable def Lqv : Option Nat → Lv → Option Lv := Lim Try.prog [dqca.sig (Lqca none)] dqv Try.f62
theorem eqv_i (a0 : Rw) (a1 : Int) : Lqv none [.l a0, .i a1] =
 cond (decide ((IntKind.i64.wrap (a1 - (a0.length : Int))) < 0)) (
 some [.i (-1)]) (
 Lqv (some 5) [.l a0, .i (IntKind.i64.wrap (a1 - (a0.length : Int))), .i 0]) := (zb _ _).trans (by kernel_rfl)
theorem eqv_5 (a0 : Rw) (a1 a2 : Int) : Lqv (some 5) [.l a0, .i a1, .i a2] =
 cond (decide (a2 < (a0.length : Int))) (
 cond (inb a2 a0.length) (
 (Lqca none [.s ((rd a0 a2.toNat 0).str), .s ((rd a0 a2.toNat 1).str), .i a1]).bind fun y1 =>
 cond (decide ((g y1 0).int < 0)) (
 some [.i (-1)]) (
 Lqv (some 5) [.l a0, .i ((g y1 0).int), .i (IntKind.i64.wrap (a2 + 1))])) (
 none)) (
 some [.i a1]) := (zb _ _).trans (by kernel_rfl)
theorem kqv : SigOk Try.prog (dqv.sig (Lqv none)) ∧ (dqv.sig (Lqv none)).ok = true := zg (zd kqca (by kernel_rfl) zf) (by kernel_rfl) (by kernel_rfl) (by kernel_rfl)
def dqcg : FD := { fn := 118, nb := 0, pre := ⟨[.ag [.i .i64 0, .s 1, .i .i64 2], .sc (.i .i64 3)], []⟩, post := ⟨[.sc (.i .i64 0)], []⟩, sh := false, cuts := [] }
noncomputable def Lqcg : Option Nat → Lv → Option Lv := Lim Try.prog [] dqcg Try.f118
theorem eqcg_i (a0 : Int) (a1 : ByteArray) (a2 a3 : Int) : Lqcg none [.i a0, .s a1, .i a2, .i a3] =
 cond (decide ((IntKind.i64.wrap (a3 - (a1.size : Int))) < 0)) (
 some [.i (-1)]) (
 some [.i (IntKind.i64.wrap (a3 - (a1.size : Int)))]) := (zb _ _).trans (by kernel_rfl)
theorem kqcg : SigOk Try.prog (dqcg.sig (Lqcg none)) ∧ (dqcg.sig (Lqcg none)).ok = true := zg zf (by kernel_rfl) (by kernel_rfl) (by kernel_rfl)
def dq1 : FD := { fn := 63, nb := 0, pre := ⟨[.sc (.fz 154 false 0), .sc (.i .i64 1)], []⟩, post := ⟨[.sc (.i .i64 0)], []⟩, sh := false, cuts := [⟨5, [0, 1, 5], ⟨[.sc (.fz 154 false 0), .sc (.i .i64 1), .sc (.i .i64 2)], []⟩⟩] }
noncomputable def Lq1 : Option Nat → Lv → Option Lv := Lim Try.prog [dqcg.sig (Lqcg none)] dq1 Try.f63
theorem eq1_i (a0 : Rw) (a1 : Int) : Lq1 none [.l a0, .i a1] =
 cond (decide ((IntKind.i64.wrap (a1 - (a0.length : Int))) < 0)) (
 some [.i (-1)]) (
 Lq1 (some 5) [.l a0, .i (IntKind.i64.wrap (a1 - (a0.length : Int))), .i 0]) := (zb _ _).trans (by kernel_rfl)
theorem eq1_5 (a0 : Rw) (a1 a2 : Int) : Lq1 (some 5) [.l a0, .i a1, .i a2] =
 cond (decide (a2 < (a0.length : Int))) (
 cond (inb a2 a0.length) (
 (Lqcg none [.i ((rd a0 a2.toNat 0).int), .s ((rd a0 a2.toNat 1).str), .i ((rd a0 a2.toNat 2).int), .i a1]).bind fun y1 =>
 cond (decide ((g y1 0).int < 0)) (
 some [.i (-1)]) (
 Lq1 (some 5) [.l a0, .i ((g y1 0).int), .i (IntKind.i64.wrap (a2 + 1))])) (
 none)) (
 some [.i a1]) := (zb _ _).trans (by kernel_rfl)
theorem kq1 : SigOk Try.prog (dq1.sig (Lq1 none)) ∧ (dq1.sig (Lq1 none)).ok = true := zg (zd kqcg (by kernel_rfl) zf) (by kernel_rfl) (by kernel_rfl) (by kernel_rfl)
def dqch : FD := { fn := 11, nb := 0, pre := ⟨[.ag [.i .i64 0, .i .i64 1, .i .i64 2, .i .i64 3, .fz 150 false 4, .fz 152 false 5, .fz 154 false 6], .sc (.i .i64 7)], []⟩, post := ⟨[.sc (.i .i64 0)], []⟩, sh := false, cuts := [] }
noncomputable def Lqch : Option Nat → Lv → Option Lv := Lim Try.prog [dq0.sig (Lq0 none), dqv.sig (Lqv none), dq1.sig (Lq1 none)] dqch Try.f11
theorem eqch_i (a0 a1 a2 a3 : Int) (a4 a5 a6 : Rw) (a7 : Int) : Lqch none [.i a0, .i a1, .i a2, .i a3, .l a4, .l a5, .l a6, .i a7] =
 (Lq0 none [.l a4, .i a7]).bind fun y1 =>
 cond (decide ((g y1 0).int < 0)) (
 some [.i (-1)]) (
 (Lqv none [.l a5, .i ((g y1 0).int)]).bind fun y2 =>
 cond (decide ((g y2 0).int < 0)) (
 some [.i (-1)]) (
 (Lq1 none [.l a6, .i ((g y2 0).int)]).bind fun y3 =>
 cond (decide ((g y3 0).int < 0)) (
 some [.i (-1)]) (
 some [.i ((g y3 0).int)]))) := (zb _ _).trans (by kernel_rfl)
theorem kqch : SigOk Try.prog (dqch.sig (Lqch none)) ∧ (dqch.sig (Lqch none)).ok = true := zg (zd kq0 (by kernel_rfl) (zd kqv (by kernel_rfl) (zd kq1 (by kernel_rfl) zf))) (by kernel_rfl) (by kernel_rfl) (by kernel_rfl)
def dq8 : FD := { fn := 31, nb := 0, pre := ⟨[.sc (.fz 9 false 0)], []⟩, post := ⟨[.sc (.ow 0)], [.dw 9 none 0]⟩, sh := false, cuts := [⟨3, [0, 3, 4], ⟨[.sc (.fz 9 false 0), .sc (.ow 0), .sc (.i .i64 1)], [.rw 9 true 2]⟩⟩] }
noncomputable def Lq8 : Option Nat → Lv → Option Lv := Lim Try.prog [] dq8 Try.f31
theorem eq8_i (a0 : Rw) : Lq8 none [.l a0] =
 cond (decide (0 ≤ (a0.length : Int))) (
 cond ((a0.length : Int) == (a0.length : Int)) (
 cond (decide ((a0.length : Int) ≤ (most : Int))) (
 Lq8 (some 3) [.l a0, .i 0, .l (List.replicate (a0.length : Int).toNat ([.s (⟨#[]⟩ : ByteArray)] : List C))]) (
 none)) (
 none)) (
 none) := (zb _ _).trans (by kernel_rfl)
theorem eq8_3 (a0 : Rw) (a1 : Int) (a2 : Rw) : Lq8 (some 3) [.l a0, .i a1, .l a2] =
 cond (decide (a1 < (a0.length : Int))) (
 cond (inb a1 a0.length) (
 cond (inb a1 a2.length) (
 Lq8 (some 3) [.l a0, .i (IntKind.i64.wrap (a1 + 1)), .l (wrs a2 a1.toNat 0 ([.s ((rd a0 a1.toNat 0).str)] : List C))]) (
 none)) (
 none)) (
 some [.l a2]) := (zb _ _).trans (by kernel_rfl)
theorem kq8 : SigOk Try.prog (dq8.sig (Lq8 none)) ∧ (dq8.sig (Lq8 none)).ok = true := zg zf (by kernel_rfl) (by kernel_rfl) (by kernel_rfl)
def dqcr : FD := { fn := 112, nb := 0, pre := ⟨[.ag [.s 0, .fz 9 false 1]], []⟩, post := ⟨[.ag [.s 0, .ow 0]], [.dw 9 none 1]⟩, sh := false, cuts := [] }
noncomputable def Lqcr : Option Nat → Lv → Option Lv := Lim Try.prog [dq8.sig (Lq8 none)] dqcr Try.f112
theorem eqcr_i (a0 : ByteArray) (a1 : Rw) : Lqcr none [.s a0, .l a1] =
 (Lq8 none [.l a1]).bind fun y1 =>
 some [.s a0, .l ((g y1 0).list)] := (zb _ _).trans (by kernel_rfl)
theorem kqcr : SigOk Try.prog (dqcr.sig (Lqcr none)) ∧ (dqcr.sig (Lqcr none)).ok = true := zg (zd kq8 (by kernel_rfl) zf) (by kernel_rfl) (by kernel_rfl) (by kernel_rfl)
def dqci : FD := { fn := 121, nb := 0, pre := ⟨[.ag [.s 0, .i .i64 1, .s 2, .fz 9 false 3]], []⟩, post := ⟨[.ag [.s 0, .i .i64 1, .s 2, .ow 0]], [.dw 9 none 3]⟩, sh := false, cuts := [] }
noncomputable def Lqci : Option Nat → Lv → Option Lv := Lim Try.prog [dqcr.sig (Lqcr none)] dqci Try.f121
theorem eqci_i (a0 : ByteArray) (a1 : Int) (a2 : ByteArray) (a3 : Rw) : Lqci none [.s a0, .i a1, .s a2, .l a3] =
 (Lqcr none [.s a2, .l a3]).bind fun y1 =>
 some [.s a0, .i a1, .s ((g y1 0).str), .l ((g y1 1).list)] := (zb _ _).trans (by kernel_rfl)
theorem kqci : SigOk Try.prog (dqci.sig (Lqci none)) ∧ (dqci.sig (Lqci none)).ok = true := zg (zd kqcr (by kernel_rfl) zf) (by kernel_rfl) (by kernel_rfl) (by kernel_rfl)
def dq9 : FD := { fn := 68, nb := 0, pre := ⟨[.sc (.fz 150 false 0)], []⟩, post := ⟨[.sc (.ow 0)], [.dw 116 (some (3, 9)) 0]⟩, sh := false, cuts := [⟨3, [0, 3, 4], ⟨[.sc (.fz 150 false 0), .sc (.ow 0), .sc (.i .i64 1)], [.dw 116 (some (3, 9)) 2]⟩⟩] }
noncomputable def Lq9 : Option Nat → Lv → Option Lv := Lim Try.prog [dqci.sig (Lqci none)] dq9 Try.f68
theorem eq9_i (a0 : Rw) : Lq9 none [.l a0] =
 cond (decide (0 ≤ (a0.length : Int))) (
 cond ((a0.length : Int) == (a0.length : Int)) (
 cond (decide ((a0.length : Int) ≤ (most : Int))) (
 Lq9 (some 3) [.l a0, .i 0, .l (List.replicate (a0.length : Int).toNat ([.s (⟨#[]⟩ : ByteArray), .i 0, .s (⟨#[]⟩ : ByteArray), .l ([])] : List C))]) (
 none)) (
 none)) (
 none) := (zb _ _).trans (by kernel_rfl)
theorem eq9_3 (a0 : Rw) (a1 : Int) (a2 : Rw) : Lq9 (some 3) [.l a0, .i a1, .l a2] =
 cond (decide (a1 < (a0.length : Int))) (
 cond (inb a1 a0.length) (
 (Lqci none [.s ((rd a0 a1.toNat 0).str), .i ((rd a0 a1.toNat 1).int), .s ((rd a0 a1.toNat 2).str), .l ((rd a0 a1.toNat 3).list)]).bind fun y1 =>
 cond (inb a1 a2.length) (
 Lq9 (some 3) [.l a0, .i (IntKind.i64.wrap (a1 + 1)), .l (wrs a2 a1.toNat 0 ([.s ((g y1 0).str), .i ((g y1 1).int), .s ((g y1 2).str), .l ((g y1 3).list)] : List C))]) (
 none)) (
 none)) (
 some [.l a2]) := (zb _ _).trans (by kernel_rfl)
theorem kq9 : SigOk Try.prog (dq9.sig (Lq9 none)) ∧ (dq9.sig (Lq9 none)).ok = true := zg (zd kqci (by kernel_rfl) zf) (by kernel_rfl) (by kernel_rfl) (by kernel_rfl)
def dqcs : FD := { fn := 122, nb := 0, pre := ⟨[.ag [.s 0, .s 1]], []⟩, post := ⟨[.ag [.s 0, .s 1]], []⟩, sh := false, cuts := [] }
noncomputable def Lqcs : Option Nat → Lv → Option Lv := Lim Try.prog [] dqcs Try.f122
theorem eqcs_i (a0 a1 : ByteArray) : Lqcs none [.s a0, .s a1] =
 some [.s a0, .s a1] := (zb _ _).trans (by kernel_rfl)
theorem kqcs : SigOk Try.prog (dqcs.sig (Lqcs none)) ∧ (dqcs.sig (Lqcs none)).ok = true := zg zf (by kernel_rfl) (by kernel_rfl) (by kernel_rfl)
end KV
end
section
set_option maxRecDepth 100000
namespace KV
open Go Go.Eng Go.Proofs
def dqba : FD := { fn := 69, nb := 0, pre := ⟨[.sc (.fz 152 false 0)], []⟩, post := ⟨[.sc (.ow 0)], [.dw 127 none 0]⟩, sh := false, cuts := [⟨3, [0, 3, 4], ⟨[.sc (.fz 152 false 0), .sc (.ow 0), .sc (.i .i64 1)], [.rw 127 true 2]⟩⟩] }
noncomputable def Lqba : Option Nat → Lv → Option Lv := Lim Try.prog [dqcs.sig (Lqcs none)] dqba Try.f69
theorem eqba_i (a0 : Rw) : Lqba none [.l a0] =
 cond (decide (0 ≤ (a0.length : Int))) (
 cond ((a0.length : Int) == (a0.length : Int)) (
 cond (decide ((a0.length : Int) ≤ (most : Int))) (
 Lqba (some 3) [.l a0, .i 0, .l (List.replicate (a0.length : Int).toNat ([.s (⟨#[]⟩ : ByteArray), .s (⟨#[]⟩ : ByteArray)] : List C))]) (
 none)) (
 none)) (
 none) := (zb _ _).trans (by kernel_rfl)
theorem eqba_3 (a0 : Rw) (a1 : Int) (a2 : Rw) : Lqba (some 3) [.l a0, .i a1, .l a2] =
 cond (decide (a1 < (a0.length : Int))) (
 cond (inb a1 a0.length) (
 (Lqcs none [.s ((rd a0 a1.toNat 0).str), .s ((rd a0 a1.toNat 1).str)]).bind fun y1 =>
 cond (inb a1 a2.length) (
 Lqba (some 3) [.l a0, .i (IntKind.i64.wrap (a1 + 1)), .l (wrs a2 a1.toNat 0 ([.s ((g y1 0).str), .s ((g y1 1).str)] : List C))]) (
 none)) (
 none)) (
 some [.l a2]) := (zb _ _).trans (by kernel_rfl)
theorem kqba : SigOk Try.prog (dqba.sig (Lqba none)) ∧ (dqba.sig (Lqba none)).ok = true := zg (zd kqcs (by kernel_rfl) zf) (by kernel_rfl) (by kernel_rfl) (by kernel_rfl)
def dqct : FD := { fn := 123, nb := 0, pre := ⟨[.ag [.i .i64 0, .s 1, .i .i64 2]], []⟩, post := ⟨[.ag [.i .i64 0, .s 1, .i .i64 2]], []⟩, sh := false, cuts := [] }
noncomputable def Lqct : Option Nat → Lv → Option Lv := Lim Try.prog [] dqct Try.f123
theorem eqct_i (a0 : Int) (a1 : ByteArray) (a2 : Int) : Lqct none [.i a0, .s a1, .i a2] =
 some [.i a0, .s a1, .i a2] := (zb _ _).trans (by kernel_rfl)
theorem kqct : SigOk Try.prog (dqct.sig (Lqct none)) ∧ (dqct.sig (Lqct none)).ok = true := zg zf (by kernel_rfl) (by kernel_rfl) (by kernel_rfl)
def dqbb : FD := { fn := 70, nb := 0, pre := ⟨[.sc (.fz 154 false 0)], []⟩, post := ⟨[.sc (.ow 0)], [.dw 129 none 0]⟩, sh := false, cuts := [⟨3, [0, 3, 4], ⟨[.sc (.fz 154 false 0), .sc (.ow 0), .sc (.i .i64 1)], [.rw 129 true 2]⟩⟩] }
noncomputable def Lqbb : Option Nat → Lv → Option Lv := Lim Try.prog [dqct.sig (Lqct none)] dqbb Try.f70
theorem eqbb_i (a0 : Rw) : Lqbb none [.l a0] =
 cond (decide (0 ≤ (a0.length : Int))) (
 cond ((a0.length : Int) == (a0.length : Int)) (
 cond (decide ((a0.length : Int) ≤ (most : Int))) (
 Lqbb (some 3) [.l a0, .i 0, .l (List.replicate (a0.length : Int).toNat ([.i 0, .s (⟨#[]⟩ : ByteArray), .i 0] : List C))]) (
 none)) (
 none)) (
 none) := (zb _ _).trans (by kernel_rfl)
theorem eqbb_3 (a0 : Rw) (a1 : Int) (a2 : Rw) : Lqbb (some 3) [.l a0, .i a1, .l a2] =
 cond (decide (a1 < (a0.length : Int))) (
 cond (inb a1 a0.length) (
 (Lqct none [.i ((rd a0 a1.toNat 0).int), .s ((rd a0 a1.toNat 1).str), .i ((rd a0 a1.toNat 2).int)]).bind fun y1 =>
 cond (inb a1 a2.length) (
 Lqbb (some 3) [.l a0, .i (IntKind.i64.wrap (a1 + 1)), .l (wrs a2 a1.toNat 0 ([.i ((g y1 0).int), .s ((g y1 1).str), .i ((g y1 2).int)] : List C))]) (
 none)) (
 none)) (
 some [.l a2]) := (zb _ _).trans (by kernel_rfl)
theorem kqbb : SigOk Try.prog (dqbb.sig (Lqbb none)) ∧ (dqbb.sig (Lqbb none)).ok = true := zg (zd kqct (by kernel_rfl) zf) (by kernel_rfl) (by kernel_rfl) (by kernel_rfl)
def dqb4 : FD := { fn := 13, nb := 0, pre := ⟨[.ag [.i .i64 0, .i .i64 1, .i .i64 2, .i .i64 3, .fz 150 false 4, .fz 152 false 5, .fz 154 false 6]], []⟩, post := ⟨[.ag [.i .i64 0, .i .i64 1, .i .i64 2, .i .i64 3, .ow 0, .ow 1, .ow 2]], [.dw 116 (some (3, 9)) 4, .dw 127 none 5, .dw 129 none 6]⟩, sh := false, cuts := [] }
noncomputable def Lqb4 : Option Nat → Lv → Option Lv := Lim Try.prog [dq9.sig (Lq9 none), dqba.sig (Lqba none), dqbb.sig (Lqbb none)] dqb4 Try.f13
theorem eqb4_i (a0 a1 a2 a3 : Int) (a4 a5 a6 : Rw) : Lqb4 none [.i a0, .i a1, .i a2, .i a3, .l a4, .l a5, .l a6] =
 (Lq9 none [.l a4]).bind fun y1 =>
 (Lqba none [.l a5]).bind fun y2 =>
 (Lqbb none [.l a6]).bind fun y3 =>
 some [.i a0, .i a1, .i a2, .i a3, .l ((g y1 0).list), .l ((g y2 0).list), .l ((g y3 0).list)] := (zb _ _).trans (by kernel_rfl)
theorem kqb4 : SigOk Try.prog (dqb4.sig (Lqb4 none)) ∧ (dqb4.sig (Lqb4 none)).ok = true := zg (zd kq9 (by kernel_rfl) (zd kqba (by kernel_rfl) (zd kqbb (by kernel_rfl) zf))) (by kernel_rfl) (by kernel_rfl) (by kernel_rfl)
def dqbc : FD := { fn := 15, nb := 0, pre := ⟨[.sc (.fz 9 false 0), .sc (.fz 9 false 1)], []⟩, post := ⟨[.sc (.b 0)], []⟩, sh := false, cuts := [⟨4, [0, 1, 5], ⟨[.sc (.fz 9 false 0), .sc (.fz 9 false 1), .sc (.i .i64 2)], []⟩⟩] }
noncomputable def Lqbc : Option Nat → Lv → Option Lv := Lim Try.prog [] dqbc Try.f15
theorem eqbc_i (a0 a1 : Rw) : Lqbc none [.l a0, .l a1] =
 cond ((a0.length : Int) != (a1.length : Int)) (
 some [.b false]) (
 Lqbc (some 4) [.l a0, .l a1, .i 0]) := (zb _ _).trans (by kernel_rfl)
theorem eqbc_4 (a0 a1 : Rw) (a2 : Int) : Lqbc (some 4) [.l a0, .l a1, .i a2] =
 cond (decide (a2 < (a0.length : Int))) (
 cond (inb a2 a0.length) (
 cond (inb a2 a1.length) (
 cond (!Eng.seq ((rd a0 a2.toNat 0).str) ((rd a1 a2.toNat 0).str)) (
 some [.b false]) (
 Lqbc (some 4) [.l a0, .l a1, .i (IntKind.i64.wrap (a2 + 1))])) (
 none)) (
 none)) (
 some [.b true]) := (zb _ _).trans (by kernel_rfl)
theorem kqbc : SigOk Try.prog (dqbc.sig (Lqbc none)) ∧ (dqbc.sig (Lqbc none)).ok = true := zg zf (by kernel_rfl) (by kernel_rfl) (by kernel_rfl)
def dqb0 : FD := { fn := 114, nb := 0, pre := ⟨[.ag [.s 0, .fz 9 false 1], .ag [.s 2, .fz 9 false 3]], []⟩, post := ⟨[.sc (.b 0)], []⟩, sh := false, cuts := [] }
noncomputable def Lqb0 : Option Nat → Lv → Option Lv := Lim Try.prog [dqbc.sig (Lqbc none)] dqb0 Try.f114
theorem eqb0_i (a0 : ByteArray) (a1 : Rw) (a2 : ByteArray) (a3 : Rw) : Lqb0 none [.s a0, .l a1, .s a2, .l a3] =
 cond (!Eng.seq a0 a2) (
 some [.b false]) (
 (Lqbc none [.l a1, .l a3]).bind fun y1 =>
 cond (!(g y1 0).bool) (
 some [.b false]) (
 some [.b true])) := (zb _ _).trans (by kernel_rfl)
theorem kqb0 : SigOk Try.prog (dqb0.sig (Lqb0 none)) ∧ (dqb0.sig (Lqb0 none)).ok = true := zg (zd kqbc (by kernel_rfl) zf) (by kernel_rfl) (by kernel_rfl) (by kernel_rfl)
def dqcu : FD := { fn := 129, nb := 0, pre := ⟨[.ag [.s 0, .i .i64 1, .s 2, .fz 9 false 3], .ag [.s 4, .i .i64 5, .s 6, .fz 9 false 7]], []⟩, post := ⟨[.sc (.b 0)], []⟩, sh := false, cuts := [] }
noncomputable def Lqcu : Option Nat → Lv → Option Lv := Lim Try.prog [dqb0.sig (Lqb0 none)] dqcu Try.f129
theorem eqcu_i (a0 : ByteArray) (a1 : Int) (a2 : ByteArray) (a3 : Rw) (a4 : ByteArray) (a5 : Int) (a6 : ByteArray) (a7 : Rw) : Lqcu none [.s a0, .i a1, .s a2, .l a3, .s a4, .i a5, .s a6, .l a7] =
 cond (!Eng.seq a0 a4) (
 some [.b false]) (
 cond (a1 != a5) (
 some [.b false]) (
 (Lqb0 none [.s a2, .l a3, .s a6, .l a7]).bind fun y1 =>
 cond (!(g y1 0).bool) (
 some [.b false]) (
 some [.b true]))) := (zb _ _).trans (by kernel_rfl)
theorem kqcu : SigOk Try.prog (dqcu.sig (Lqcu none)) ∧ (dqcu.sig (Lqcu none)).ok = true := zg (zd kqb0 (by kernel_rfl) zf) (by kernel_rfl) (by kernel_rfl) (by kernel_rfl)
def dqbd : FD := { fn := 74, nb := 0, pre := ⟨[.sc (.fz 116 false 0), .sc (.fz 116 false 1)], []⟩, post := ⟨[.sc (.b 0)], []⟩, sh := false, cuts := [⟨4, [0, 1, 5], ⟨[.sc (.fz 116 false 0), .sc (.fz 116 false 1), .sc (.i .i64 2)], []⟩⟩] }
noncomputable def Lqbd : Option Nat → Lv → Option Lv := Lim Try.prog [dqcu.sig (Lqcu none)] dqbd Try.f74
theorem eqbd_i (a0 a1 : Rw) : Lqbd none [.l a0, .l a1] =
 cond ((a0.length : Int) != (a1.length : Int)) (
 some [.b false]) (
 Lqbd (some 4) [.l a0, .l a1, .i 0]) := (zb _ _).trans (by kernel_rfl)
theorem eqbd_4 (a0 a1 : Rw) (a2 : Int) : Lqbd (some 4) [.l a0, .l a1, .i a2] =
 cond (decide (a2 < (a0.length : Int))) (
 cond (inb a2 a0.length) (
 cond (inb a2 a1.length) (
 (Lqcu none [.s ((rd a0 a2.toNat 0).str), .i ((rd a0 a2.toNat 1).int), .s ((rd a0 a2.toNat 2).str), .l ((rd a0 a2.toNat 3).list), .s ((rd a1 a2.toNat 0).str), .i ((rd a1 a2.toNat 1).int), .s ((rd a1 a2.toNat 2).str), .l ((rd a1 a2.toNat 3).list)]).bind fun y1 =>
 cond (!(g y1 0).bool) (
 some [.b false]) (
 Lqbd (some 4) [.l a0, .l a1, .i (IntKind.i64.wrap (a2 + 1))])) (
 none)) (
 none)) (
 some [.b true]) := (zb _ _).trans (by kernel_rfl)
theorem kqbd : SigOk Try.prog (dqbd.sig (Lqbd none)) ∧ (dqbd.sig (Lqbd none)).ok = true := zg (zd kqcu (by kernel_rfl) zf) (by kernel_rfl) (by kernel_rfl) (by kernel_rfl)
def dqcv : FD := { fn := 130, nb := 0, pre := ⟨[.ag [.s 0, .s 1], .ag [.s 2, .s 3]], []⟩, post := ⟨[.sc (.b 0)], []⟩, sh := false, cuts := [] }
noncomputable def Lqcv : Option Nat → Lv → Option Lv := Lim Try.prog [] dqcv Try.f130
theorem eqcv_i (a0 a1 a2 a3 : ByteArray) : Lqcv none [.s a0, .s a1, .s a2, .s a3] =
 cond (!Eng.seq a0 a2) (
 some [.b false]) (
 cond (!Eng.seq a1 a3) (
 some [.b false]) (
 some [.b true])) := (zb _ _).trans (by kernel_rfl)
theorem kqcv : SigOk Try.prog (dqcv.sig (Lqcv none)) ∧ (dqcv.sig (Lqcv none)).ok = true := zg zf (by kernel_rfl) (by kernel_rfl) (by kernel_rfl)
def dqbe : FD := { fn := 75, nb := 0, pre := ⟨[.sc (.fz 127 false 0), .sc (.fz 127 false 1)], []⟩, post := ⟨[.sc (.b 0)], []⟩, sh := false, cuts := [⟨4, [0, 1, 5], ⟨[.sc (.fz 127 false 0), .sc (.fz 127 false 1), .sc (.i .i64 2)], []⟩⟩] }
noncomputable def Lqbe : Option Nat → Lv → Option Lv := Lim Try.prog [dqcv.sig (Lqcv none)] dqbe Try.f75
theorem eqbe_i (a0 a1 : Rw) : Lqbe none [.l a0, .l a1] =
 cond ((a0.length : Int) != (a1.length : Int)) (
 some [.b false]) (
 Lqbe (some 4) [.l a0, .l a1, .i 0]) := (zb _ _).trans (by kernel_rfl)
theorem eqbe_4 (a0 a1 : Rw) (a2 : Int) : Lqbe (some 4) [.l a0, .l a1, .i a2] =
 cond (decide (a2 < (a0.length : Int))) (
 cond (inb a2 a0.length) (
 cond (inb a2 a1.length) (
 (Lqcv none [.s ((rd a0 a2.toNat 0).str), .s ((rd a0 a2.toNat 1).str), .s ((rd a1 a2.toNat 0).str), .s ((rd a1 a2.toNat 1).str)]).bind fun y1 =>
 cond (!(g y1 0).bool) (
 some [.b false]) (
 Lqbe (some 4) [.l a0, .l a1, .i (IntKind.i64.wrap (a2 + 1))])) (
 none)) (
 none)) (
 some [.b true]) := (zb _ _).trans (by kernel_rfl)
theorem kqbe : SigOk Try.prog (dqbe.sig (Lqbe none)) ∧ (dqbe.sig (Lqbe none)).ok = true := zg (zd kqcv (by kernel_rfl) zf) (by kernel_rfl) (by kernel_rfl) (by kernel_rfl)
def dqcw : FD := { fn := 131, nb := 0, pre := ⟨[.ag [.i .i64 0, .s 1, .i .i64 2], .ag [.i .i64 3, .s 4, .i .i64 5]], []⟩, post := ⟨[.sc (.b 0)], []⟩, sh := false, cuts := [] }
noncomputable def Lqcw : Option Nat → Lv → Option Lv := Lim Try.prog [] dqcw Try.f131
theorem eqcw_i (a0 : Int) (a1 : ByteArray) (a2 a3 : Int) (a4 : ByteArray) (a5 : Int) : Lqcw none [.i a0, .s a1, .i a2, .i a3, .s a4, .i a5] =
 cond (a0 != a3) (
 some [.b false]) (
 cond (!Eng.seq a1 a4) (
 some [.b false]) (
 cond (a2 != a5) (
 some [.b false]) (
 some [.b true]))) := (zb _ _).trans (by kernel_rfl)
theorem kqcw : SigOk Try.prog (dqcw.sig (Lqcw none)) ∧ (dqcw.sig (Lqcw none)).ok = true := zg zf (by kernel_rfl) (by kernel_rfl) (by kernel_rfl)
def dqbf : FD := { fn := 76, nb := 0, pre := ⟨[.sc (.fz 129 false 0), .sc (.fz 129 false 1)], []⟩, post := ⟨[.sc (.b 0)], []⟩, sh := false, cuts := [⟨4, [0, 1, 5], ⟨[.sc (.fz 129 false 0), .sc (.fz 129 false 1), .sc (.i .i64 2)], []⟩⟩] }
noncomputable def Lqbf : Option Nat → Lv → Option Lv := Lim Try.prog [dqcw.sig (Lqcw none)] dqbf Try.f76
theorem eqbf_i (a0 a1 : Rw) : Lqbf none [.l a0, .l a1] =
 cond ((a0.length : Int) != (a1.length : Int)) (
 some [.b false]) (
 Lqbf (some 4) [.l a0, .l a1, .i 0]) := (zb _ _).trans (by kernel_rfl)
theorem eqbf_4 (a0 a1 : Rw) (a2 : Int) : Lqbf (some 4) [.l a0, .l a1, .i a2] =
 cond (decide (a2 < (a0.length : Int))) (
 cond (inb a2 a0.length) (
 cond (inb a2 a1.length) (
 (Lqcw none [.i ((rd a0 a2.toNat 0).int), .s ((rd a0 a2.toNat 1).str), .i ((rd a0 a2.toNat 2).int), .i ((rd a1 a2.toNat 0).int), .s ((rd a1 a2.toNat 1).str), .i ((rd a1 a2.toNat 2).int)]).bind fun y1 =>
 cond (!(g y1 0).bool) (
 some [.b false]) (
 Lqbf (some 4) [.l a0, .l a1, .i (IntKind.i64.wrap (a2 + 1))])) (
 none)) (
 none)) (
 some [.b true]) := (zb _ _).trans (by kernel_rfl)
theorem kqbf : SigOk Try.prog (dqbf.sig (Lqbf none)) ∧ (dqbf.sig (Lqbf none)).ok = true := zg (zd kqcw (by kernel_rfl) zf) (by kernel_rfl) (by kernel_rfl) (by kernel_rfl)
def dqbw : FD := { fn := 16, nb := 0, pre := ⟨[.ag [.i .i64 0, .i .i64 1, .i .i64 2, .i .i64 3, .fz 116 false 4, .fz 127 false 5, .fz 129 false 6], .ag [.i .i64 7, .i .i64 8, .i .i64 9, .i .i64 10, .fz 116 false 11, .fz 127 false 12, .fz 129 false 13]], []⟩, post := ⟨[.sc (.b 0)], []⟩, sh := false, cuts := [] }
noncomputable def Lqbw : Option Nat → Lv → Option Lv := Lim Try.prog [dqbd.sig (Lqbd none), dqbe.sig (Lqbe none), dqbf.sig (Lqbf none)] dqbw Try.f16
theorem eqbw_i (a0 a1 a2 a3 : Int) (a4 a5 a6 : Rw) (a7 a8 a9 a10 : Int) (a11 a12 a13 : Rw) : Lqbw none [.i a0, .i a1, .i a2, .i a3, .l a4, .l a5, .l a6, .i a7, .i a8, .i a9, .i a10, .l a11, .l a12, .l a13] =
 cond (a0 != a7) (
 some [.b false]) (
 cond (a1 != a8) (
 some [.b false]) (
 cond (a2 != a9) (
 some [.b false]) (
 cond (a3 != a10) (
 some [.b false]) (
 (Lqbd none [.l a4, .l a11]).bind fun y1 =>
 cond (!(g y1 0).bool) (
 some [.b false]) (
 (Lqbe none [.l a5, .l a12]).bind fun y2 =>
 cond (!(g y2 0).bool) (
 some [.b false]) (
 (Lqbf none [.l a6, .l a13]).bind fun y3 =>
 cond (!(g y3 0).bool) (
 some [.b false]) (
 some [.b true]))))))) := (zb _ _).trans (by kernel_rfl)
theorem kqbw : SigOk Try.prog (dqbw.sig (Lqbw none)) ∧ (dqbw.sig (Lqbw none)).ok = true := zg (zd kqbd (by kernel_rfl) (zd kqbe (by kernel_rfl) (zd kqbf (by kernel_rfl) zf))) (by kernel_rfl) (by kernel_rfl) (by kernel_rfl)
def dqd : FD := { fn := 80, nb := 0, pre := ⟨[.sc (.i .i64 0)], []⟩, post := ⟨[.sc (.s 0)], []⟩, sh := false, cuts := [⟨4, [0, 3], ⟨[.sc (.i .i64 0), .sc (.s 1)], []⟩⟩] }
noncomputable def Lqd : Option Nat → Lv → Option Lv := Lim Try.prog [] dqd Try.f80
theorem eqd_i (a0 : Int) : Lqd none [.i a0] =
 cond (decide (a0 ≤ 0)) (
 some [.s (⟨#[109, 48]⟩ : ByteArray)]) (
 Lqd (some 4) [.i a0, .s (⟨#[]⟩ : ByteArray)]) := (zb _ _).trans (by kernel_rfl)
theorem eqd_4 (a0 : Int) (a1 : ByteArray) : Lqd (some 4) [.i a0, .s a1] =
 cond (decide (0 < a0)) (
 cond (decide ((bytesOf ([[.i (IntKind.u8.wrap (IntKind.i64.wrap (48 + (a0.tmod 10))))]] : Rw)).size + a1.size ≤ most)) (
 Lqd (some 4) [.i (IntKind.i64.wrap (a0.tdiv 10)), .s ((bytesOf ([[.i (IntKind.u8.wrap (IntKind.i64.wrap (48 + (a0.tmod 10))))]] : Rw)) ++ a1)]) (
 none)) (
 cond (decide ((⟨#[109]⟩ : ByteArray).size + a1.size ≤ most)) (
 some [.s ((⟨#[109]⟩ : ByteArray) ++ a1)]) (
 none)) := (zb _ _).trans (by kernel_rfl)
theorem kqd : SigOk Try.prog (dqd.sig (Lqd none)) ∧ (dqd.sig (Lqd none)).ok = true := zg zf (by kernel_rfl) (by kernel_rfl) (by kernel_rfl)
end KV
end
section
set_option maxRecDepth 100000
namespace KV
open Go Go.Eng Go.Proofs
def dqw : FD := { fn := 18, nb := 1, pre := ⟨[.sc (.ow 0), .sc (.i .i64 0)], [.rw 9 false 1]⟩, post := ⟨[.sc (.i .i64 0)], [.rw 9 false 1]⟩, sh := true, cuts := [⟨2, [0, 1, 5], ⟨[.sc (.ow 0), .sc (.i .i64 0), .sc (.i .i64 1)], [.rw 9 false 2]⟩⟩] }
noncomputable def Lqw : Option Nat → Lv → Option Lv := Lim Try.prog [dqd.sig (Lqd none)] dqw Try.f18
theorem eqw_i (a0 : Int) (a1 : Rw) : Lqw none [.i a0, .l a1] =
 Lqw (some 2) [.i a0, .i 0, .l a1] := (zb _ _).trans (by kernel_rfl)
theorem eqw_2 (a0 a1 : Int) (a2 : Rw) : Lqw (some 2) [.i a0, .i a1, .l a2] =
 cond (decide (a1 < (a2.length : Int))) (
 (Lqd none [.i a0]).bind fun y1 =>
 cond (inb a1 a2.length) (
 Lqw (some 2) [.i (IntKind.i64.wrap (a0 + 1)), .i (IntKind.i64.wrap (a1 + 1)), .l (wrs a2 a1.toNat 0 ([.s ((g y1 0).str)] : List C))]) (
 none)) (
 some [.i a0, .l a2]) := (zb _ _).trans (by kernel_rfl)
theorem kqw : SigOk Try.prog (dqw.sig (Lqw none)) ∧ (dqw.sig (Lqw none)).ok = true := zg (zd kqd (by kernel_rfl) zf) (by kernel_rfl) (by kernel_rfl) (by kernel_rfl)
def dqbg : FD := { fn := 77, nb := 1, pre := ⟨[.sc (.ow 0), .sc (.i .i64 0)], [.dw 116 (some (3, 9)) 1]⟩, post := ⟨[.sc (.i .i64 0)], [.dw 116 (some (3, 9)) 1]⟩, sh := false, cuts := [⟨2, [0, 1, 5], ⟨[.sc (.ow 0), .sc (.i .i64 0), .sc (.i .i64 1)], [.dw 116 (some (3, 9)) 2]⟩⟩] }
noncomputable def Lqbg : Option Nat → Lv → Option Lv := Lim Try.prog [dqd.sig (Lqd none), dqw.sig (Lqw none)] dqbg Try.f77
theorem eqbg_i (a0 : Int) (a1 : Rw) : Lqbg none [.i a0, .l a1] =
 Lqbg (some 2) [.i a0, .i 0, .l a1] := (zb _ _).trans (by kernel_rfl)
theorem eqbg_2 (a0 a1 : Int) (a2 : Rw) : Lqbg (some 2) [.i a0, .i a1, .l a2] =
 cond (decide (a1 < (a2.length : Int))) (
 (Lqd none [.i a0]).bind fun y1 =>
 cond (inb a1 a2.length) (
 cond (inb a1 ((wrs a2 a1.toNat 0 ([.s ((g y1 0).str)] : List C)).length)) (
 (Lqd none [.i (IntKind.i64.wrap ((IntKind.i64.wrap (a0 + 1)) + 1))]).bind fun y2 =>
 cond (inb a1 ((wrs (wrs a2 a1.toNat 0 ([.s ((g y1 0).str)] : List C)) a1.toNat 1 ([.i (IntKind.i64.wrap (a0 + 1))] : List C)).length)) (
 cond (inb a1 ((wrs (wrs (wrs a2 a1.toNat 0 ([.s ((g y1 0).str)] : List C)) a1.toNat 1 ([.i (IntKind.i64.wrap (a0 + 1))] : List C)) a1.toNat 2 ([.s ((g y2 0).str)] : List C)).length)) (
 (Lqw none [.i (IntKind.i64.wrap ((IntKind.i64.wrap ((IntKind.i64.wrap (a0 + 1)) + 1)) + 1)), .l (rd (wrs (wrs (wrs a2 a1.toNat 0 ([.s ((g y1 0).str)] : List C)) a1.toNat 1 ([.i (IntKind.i64.wrap (a0 + 1))] : List C)) a1.toNat 2 ([.s ((g y2 0).str)] : List C)) a1.toNat 3).list]).bind fun y3 =>
 Lqbg (some 2) [.i ((g y3 0).int), .i (IntKind.i64.wrap (a1 + 1)), .l (wr (wrs (wrs (wrs a2 a1.toNat 0 ([.s ((g y1 0).str)] : List C)) a1.toNat 1 ([.i (IntKind.i64.wrap (a0 + 1))] : List C)) a1.toNat 2 ([.s ((g y2 0).str)] : List C)) a1.toNat 3 (C.l (g y3 1).list))]) (
 none)) (
 none)) (
 none)) (
 none)) (
 some [.i a0, .l a2]) := (zb _ _).trans (by kernel_rfl)
theorem kqbg : SigOk Try.prog (dqbg.sig (Lqbg none)) ∧ (dqbg.sig (Lqbg none)).ok = true := zg (zd kqd (by kernel_rfl) (zd kqw (by kernel_rfl) zf)) (by kernel_rfl) (by kernel_rfl) (by kernel_rfl)
def dqbh : FD := { fn := 78, nb := 1, pre := ⟨[.sc (.ow 0), .sc (.i .i64 0)], [.dw 127 none 1]⟩, post := ⟨[.sc (.i .i64 0)], [.dw 127 none 1]⟩, sh := false, cuts := [⟨2, [0, 1, 5], ⟨[.sc (.ow 0), .sc (.i .i64 0), .sc (.i .i64 1)], [.dw 127 none 2]⟩⟩] }
noncomputable def Lqbh : Option Nat → Lv → Option Lv := Lim Try.prog [dqd.sig (Lqd none)] dqbh Try.f78
theorem eqbh_i (a0 : Int) (a1 : Rw) : Lqbh none [.i a0, .l a1] =
 Lqbh (some 2) [.i a0, .i 0, .l a1] := (zb _ _).trans (by kernel_rfl)
theorem eqbh_2 (a0 a1 : Int) (a2 : Rw) : Lqbh (some 2) [.i a0, .i a1, .l a2] =
 cond (decide (a1 < (a2.length : Int))) (
 (Lqd none [.i a0]).bind fun y1 =>
 cond (inb a1 a2.length) (
 (Lqd none [.i (IntKind.i64.wrap (a0 + 1))]).bind fun y2 =>
 cond (inb a1 ((wrs a2 a1.toNat 0 ([.s ((g y1 0).str)] : List C)).length)) (
 Lqbh (some 2) [.i (IntKind.i64.wrap ((IntKind.i64.wrap (a0 + 1)) + 1)), .i (IntKind.i64.wrap (a1 + 1)), .l (wrs (wrs a2 a1.toNat 0 ([.s ((g y1 0).str)] : List C)) a1.toNat 1 ([.s ((g y2 0).str)] : List C))]) (
 none)) (
 none)) (
 some [.i a0, .l a2]) := (zb _ _).trans (by kernel_rfl)
theorem kqbh : SigOk Try.prog (dqbh.sig (Lqbh none)) ∧ (dqbh.sig (Lqbh none)).ok = true := zg (zd kqd (by kernel_rfl) zf) (by kernel_rfl) (by kernel_rfl) (by kernel_rfl)
def dqbi : FD := { fn := 79, nb := 1, pre := ⟨[.sc (.ow 0), .sc (.i .i64 0)], [.dw 129 none 1]⟩, post := ⟨[.sc (.i .i64 0)], [.dw 129 none 1]⟩, sh := false, cuts := [⟨2, [0, 1, 5], ⟨[.sc (.ow 0), .sc (.i .i64 0), .sc (.i .i64 1)], [.dw 129 none 2]⟩⟩] }
noncomputable def Lqbi : Option Nat → Lv → Option Lv := Lim Try.prog [dqd.sig (Lqd none)] dqbi Try.f79
theorem eqbi_i (a0 : Int) (a1 : Rw) : Lqbi none [.i a0, .l a1] =
 Lqbi (some 2) [.i a0, .i 0, .l a1] := (zb _ _).trans (by kernel_rfl)
theorem eqbi_2 (a0 a1 : Int) (a2 : Rw) : Lqbi (some 2) [.i a0, .i a1, .l a2] =
 cond (decide (a1 < (a2.length : Int))) (
 cond (inb a1 a2.length) (
 (Lqd none [.i (IntKind.i64.wrap (a0 + 1))]).bind fun y1 =>
 cond (inb a1 ((wrs a2 a1.toNat 0 ([.i a0] : List C)).length)) (
 cond (inb a1 ((wrs (wrs a2 a1.toNat 0 ([.i a0] : List C)) a1.toNat 1 ([.s ((g y1 0).str)] : List C)).length)) (
 Lqbi (some 2) [.i (IntKind.i64.wrap ((IntKind.i64.wrap ((IntKind.i64.wrap (a0 + 1)) + 1)) + 1)), .i (IntKind.i64.wrap (a1 + 1)), .l (wrs (wrs (wrs a2 a1.toNat 0 ([.i a0] : List C)) a1.toNat 1 ([.s ((g y1 0).str)] : List C)) a1.toNat 2 ([.i (IntKind.i64.wrap ((IntKind.i64.wrap (a0 + 1)) + 1))] : List C))]) (
 none)) (
 none)) (
 none)) (
 some [.i a0, .l a2]) := (zb _ _).trans (by kernel_rfl)
theorem kqbi : SigOk Try.prog (dqbi.sig (Lqbi none)) ∧ (dqbi.sig (Lqbi none)).ok = true := zg (zd kqd (by kernel_rfl) zf) (by kernel_rfl) (by kernel_rfl) (by kernel_rfl)
def dqby : FD := { fn := 17, nb := 3, pre := ⟨[.ag [.i .i64 0, .i .i64 1, .i .i64 2, .i .i64 3, .ow 0, .ow 1, .ow 2], .sc (.i .i64 4)], [.dw 116 (some (3, 9)) 5, .dw 127 none 6, .dw 129 none 7]⟩, post := ⟨[.sc (.i .i64 0)], [.dw 116 (some (3, 9)) 1, .dw 127 none 2, .dw 129 none 3]⟩, sh := false, cuts := [] }
noncomputable def Lqby : Option Nat → Lv → Option Lv := Lim Try.prog [dqbg.sig (Lqbg none), dqbh.sig (Lqbh none), dqbi.sig (Lqbi none)] dqby Try.f17
theorem eqby_i (a0 a1 a2 a3 a4 : Int) (a5 a6 a7 : Rw) : Lqby none [.i a0, .i a1, .i a2, .i a3, .i a4, .l a5, .l a6, .l a7] =
 (Lqbg none [.i a4, .l a5]).bind fun y1 =>
 (Lqbh none [.i ((g y1 0).int), .l a6]).bind fun y2 =>
 (Lqbi none [.i ((g y2 0).int), .l a7]).bind fun y3 =>
 some [.i ((g y3 0).int), .l ((g y1 1).list), .l ((g y2 1).list), .l ((g y3 1).list)] := (zb _ _).trans (by kernel_rfl)
theorem kqby : SigOk Try.prog (dqby.sig (Lqby none)) ∧ (dqby.sig (Lqby none)).ok = true := zg (zd kqbg (by kernel_rfl) (zd kqbh (by kernel_rfl) (zd kqbi (by kernel_rfl) zf))) (by kernel_rfl) (by kernel_rfl) (by kernel_rfl)
def dqb6 : FD := { fn := 33, nb := 0, pre := ⟨[.ag [.i .i64 0, .i .i64 1, .i .i64 2, .i .i64 3, .i .i64 4, .fz 116 false 5, .fz 127 false 6, .fz 129 false 7, .s 8, .i .i64 9, .s 10, .s 11], .ag [.i .i64 12, .i .i64 13, .i .i64 14, .i .i64 15, .i .i64 16, .fz 116 false 17, .fz 127 false 18, .fz 129 false 19, .s 20, .i .i64 21, .s 22, .s 23]], []⟩, post := ⟨[.sc (.b 0)], []⟩, sh := false, cuts := [] }
noncomputable def Lqb6 : Option Nat → Lv → Option Lv := Lim Try.prog [dqbw.sig (Lqbw none)] dqb6 Try.f33
theorem eqb6_i (a0 a1 a2 a3 a4 : Int) (a5 a6 a7 : Rw) (a8 : ByteArray) (a9 : Int) (a10 a11 : ByteArray) (a12 a13 a14 a15 a16 : Int) (a17 a18 a19 : Rw) (a20 : ByteArray) (a21 : Int) (a22 a23 : ByteArray) : Lqb6 none [.i a0, .i a1, .i a2, .i a3, .i a4, .l a5, .l a6, .l a7, .s a8, .i a9, .s a10, .s a11, .i a12, .i a13, .i a14, .i a15, .i a16, .l a17, .l a18, .l a19, .s a20, .i a21, .s a22, .s a23] =
 cond (a0 != a12) (
 some [.b false]) (
 (Lqbw none [.i a1, .i a2, .i a3, .i a4, .l a5, .l a6, .l a7, .i a13, .i a14, .i a15, .i a16, .l a17, .l a18, .l a19]).bind fun y1 =>
 cond (!(g y1 0).bool) (
 some [.b false]) (
 cond (!Eng.seq a8 a20) (
 some [.b false]) (
 cond (a9 != a21) (
 some [.b false]) (
 cond (!Eng.seq a10 a22) (
 some [.b false]) (
 cond (!Eng.seq a11 a23) (
 some [.b false]) (
 some [.b true])))))) := (zb _ _).trans (by kernel_rfl)
theorem kqb6 : SigOk Try.prog (dqb6.sig (Lqb6 none)) ∧ (dqb6.sig (Lqb6 none)).ok = true := zg (zd kqbw (by kernel_rfl) zf) (by kernel_rfl) (by kernel_rfl) (by kernel_rfl)
def dqcj : FD := { fn := 34, nb := 3, pre := ⟨[.ag [.i .i64 0, .i .i64 1, .i .i64 2, .i .i64 3, .i .i64 4, .ow 0, .ow 1, .ow 2, .s 5, .i .i64 6, .s 7, .s 8], .sc (.i .i64 9)], [.dw 116 (some (3, 9)) 10, .dw 127 none 11, .dw 129 none 12]⟩, post := ⟨[.sc (.i .i64 0)], [.dw 116 (some (3, 9)) 1, .dw 127 none 2, .dw 129 none 3]⟩, sh := false, cuts := [] }
noncomputable def Lqcj : Option Nat → Lv → Option Lv := Lim Try.prog [dqby.sig (Lqby none)] dqcj Try.f34
theorem eqcj_i (a0 a1 a2 a3 a4 : Int) (a5 : ByteArray) (a6 : Int) (a7 a8 : ByteArray) (a9 : Int) (a10 a11 a12 : Rw) : Lqcj none [.i a0, .i a1, .i a2, .i a3, .i a4, .s a5, .i a6, .s a7, .s a8, .i a9, .l a10, .l a11, .l a12] =
 (Lqby none [.i a1, .i a2, .i a3, .i a4, .i a9, .l a10, .l a11, .l a12]).bind fun y1 =>
 some [.i ((g y1 0).int), .l ((g y1 1).list), .l ((g y1 2).list), .l ((g y1 3).list)] := (zb _ _).trans (by kernel_rfl)
theorem kqcj : SigOk Try.prog (dqcj.sig (Lqcj none)) ∧ (dqcj.sig (Lqcj none)).ok = true := zg (zd kqby (by kernel_rfl) zf) (by kernel_rfl) (by kernel_rfl) (by kernel_rfl)
def dqbj : FD := { fn := 19, nb := 0, pre := ⟨[.sc (.fz 9 false 0), .sc (.i .i64 1)], []⟩, post := ⟨[.sc (.i .i64 0)], []⟩, sh := false, cuts := [⟨2, [0, 1, 5], ⟨[.sc (.fz 9 false 0), .sc (.i .i64 1), .sc (.i .i64 2)], []⟩⟩] }
noncomputable def Lqbj : Option Nat → Lv → Option Lv := Lim Try.prog [dqd.sig (Lqd none)] dqbj Try.f19
theorem eqbj_i (a0 : Rw) (a1 : Int) : Lqbj none [.l a0, .i a1] =
 Lqbj (some 2) [.l a0, .i a1, .i 0] := (zb _ _).trans (by kernel_rfl)
theorem eqbj_2 (a0 : Rw) (a1 a2 : Int) : Lqbj (some 2) [.l a0, .i a1, .i a2] =
 cond (decide (a2 < (a0.length : Int))) (
 cond (inb a2 a0.length) (
 (Lqd none [.i a1]).bind fun y1 =>
 cond (!Eng.seq ((rd a0 a2.toNat 0).str) ((g y1 0).str)) (
 some [.i (-1)]) (
 Lqbj (some 2) [.l a0, .i (IntKind.i64.wrap (a1 + 1)), .i (IntKind.i64.wrap (a2 + 1))])) (
 none)) (
 some [.i a1]) := (zb _ _).trans (by kernel_rfl)
theorem kqbj : SigOk Try.prog (dqbj.sig (Lqbj none)) ∧ (dqbj.sig (Lqbj none)).ok = true := zg (zd kqd (by kernel_rfl) zf) (by kernel_rfl) (by kernel_rfl) (by kernel_rfl)
def dqbk : FD := { fn := 147, nb := 0, pre := ⟨[.sc (.fz 116 false 0), .sc (.i .i64 1)], []⟩, post := ⟨[.sc (.i .i64 0)], []⟩, sh := false, cuts := [⟨2, [0, 1, 5], ⟨[.sc (.fz 116 false 0), .sc (.i .i64 1), .sc (.i .i64 2)], []⟩⟩] }
noncomputable def Lqbk : Option Nat → Lv → Option Lv := Lim Try.prog [dqd.sig (Lqd none), dqbj.sig (Lqbj none)] dqbk Try.f147
theorem eqbk_i (a0 : Rw) (a1 : Int) : Lqbk none [.l a0, .i a1] =
 Lqbk (some 2) [.l a0, .i a1, .i 0] := (zb _ _).trans (by kernel_rfl)
theorem eqbk_2 (a0 : Rw) (a1 a2 : Int) : Lqbk (some 2) [.l a0, .i a1, .i a2] =
 cond (decide (a2 < (a0.length : Int))) (
 cond (inb a2 a0.length) (
 (Lqd none [.i a1]).bind fun y1 =>
 cond (!Eng.seq ((rd a0 a2.toNat 0).str) ((g y1 0).str)) (
 some [.i (-1)]) (
 cond (inb a2 a0.length) (
 cond ((rd a0 a2.toNat 1).int != (IntKind.i64.wrap (a1 + 1))) (
 some [.i (-1)]) (
 cond (inb a2 a0.length) (
 (Lqd none [.i (IntKind.i64.wrap ((IntKind.i64.wrap (a1 + 1)) + 1))]).bind fun y2 =>
 cond (!Eng.seq ((rd a0 a2.toNat 2).str) ((g y2 0).str)) (
 some [.i (-1)]) (
 cond (inb a2 a0.length) (
 (Lqbj none [.l ((rd a0 a2.toNat 3).list), .i (IntKind.i64.wrap ((IntKind.i64.wrap ((IntKind.i64.wrap (a1 + 1)) + 1)) + 1))]).bind fun y3 =>
 cond (decide ((g y3 0).int < 0)) (
 some [.i (-1)]) (
 Lqbk (some 2) [.l a0, .i ((g y3 0).int), .i (IntKind.i64.wrap (a2 + 1))])) (
 none))) (
 none))) (
 none))) (
 none)) (
 some [.i a1]) := (zb _ _).trans (by kernel_rfl)
theorem kqbk : SigOk Try.prog (dqbk.sig (Lqbk none)) ∧ (dqbk.sig (Lqbk none)).ok = true := zg (zd kqd (by kernel_rfl) (zd kqbj (by kernel_rfl) zf)) (by kernel_rfl) (by kernel_rfl) (by kernel_rfl)
def dqbl : FD := { fn := 148, nb := 0, pre := ⟨[.sc (.fz 127 false 0), .sc (.i .i64 1)], []⟩, post := ⟨[.sc (.i .i64 0)], []⟩, sh := false, cuts := [⟨2, [0, 1, 5], ⟨[.sc (.fz 127 false 0), .sc (.i .i64 1), .sc (.i .i64 2)], []⟩⟩] }
noncomputable def Lqbl : Option Nat → Lv → Option Lv := Lim Try.prog [dqd.sig (Lqd none)] dqbl Try.f148
theorem eqbl_i (a0 : Rw) (a1 : Int) : Lqbl none [.l a0, .i a1] =
 Lqbl (some 2) [.l a0, .i a1, .i 0] := (zb _ _).trans (by kernel_rfl)
theorem eqbl_2 (a0 : Rw) (a1 a2 : Int) : Lqbl (some 2) [.l a0, .i a1, .i a2] =
 cond (decide (a2 < (a0.length : Int))) (
 cond (inb a2 a0.length) (
 (Lqd none [.i a1]).bind fun y1 =>
 cond (!Eng.seq ((rd a0 a2.toNat 0).str) ((g y1 0).str)) (
 some [.i (-1)]) (
 cond (inb a2 a0.length) (
 (Lqd none [.i (IntKind.i64.wrap (a1 + 1))]).bind fun y2 =>
 cond (!Eng.seq ((rd a0 a2.toNat 1).str) ((g y2 0).str)) (
 some [.i (-1)]) (
 Lqbl (some 2) [.l a0, .i (IntKind.i64.wrap ((IntKind.i64.wrap (a1 + 1)) + 1)), .i (IntKind.i64.wrap (a2 + 1))])) (
 none))) (
 none)) (
 some [.i a1]) := (zb _ _).trans (by kernel_rfl)
theorem kqbl : SigOk Try.prog (dqbl.sig (Lqbl none)) ∧ (dqbl.sig (Lqbl none)).ok = true := zg (zd kqd (by kernel_rfl) zf) (by kernel_rfl) (by kernel_rfl) (by kernel_rfl)
def dqbm : FD := { fn := 149, nb := 0, pre := ⟨[.sc (.fz 129 false 0), .sc (.i .i64 1)], []⟩, post := ⟨[.sc (.i .i64 0)], []⟩, sh := false, cuts := [⟨2, [0, 1, 5], ⟨[.sc (.fz 129 false 0), .sc (.i .i64 1), .sc (.i .i64 2)], []⟩⟩] }
noncomputable def Lqbm : Option Nat → Lv → Option Lv := Lim Try.prog [dqd.sig (Lqd none)] dqbm Try.f149
theorem eqbm_i (a0 : Rw) (a1 : Int) : Lqbm none [.l a0, .i a1] =
 Lqbm (some 2) [.l a0, .i a1, .i 0] := (zb _ _).trans (by kernel_rfl)
theorem eqbm_2 (a0 : Rw) (a1 a2 : Int) : Lqbm (some 2) [.l a0, .i a1, .i a2] =
 cond (decide (a2 < (a0.length : Int))) (
 cond (inb a2 a0.length) (
 cond ((rd a0 a2.toNat 0).int != a1) (
 some [.i (-1)]) (
 cond (inb a2 a0.length) (
 (Lqd none [.i (IntKind.i64.wrap (a1 + 1))]).bind fun y1 =>
 cond (!Eng.seq ((rd a0 a2.toNat 1).str) ((g y1 0).str)) (
 some [.i (-1)]) (
 cond (inb a2 a0.length) (
 cond ((rd a0 a2.toNat 2).int != (IntKind.i64.wrap ((IntKind.i64.wrap (a1 + 1)) + 1))) (
 some [.i (-1)]) (
 Lqbm (some 2) [.l a0, .i (IntKind.i64.wrap ((IntKind.i64.wrap ((IntKind.i64.wrap (a1 + 1)) + 1)) + 1)), .i (IntKind.i64.wrap (a2 + 1))])) (
 none))) (
 none))) (
 none)) (
 some [.i a1]) := (zb _ _).trans (by kernel_rfl)
theorem kqbm : SigOk Try.prog (dqbm.sig (Lqbm none)) ∧ (dqbm.sig (Lqbm none)).ok = true := zg (zd kqd (by kernel_rfl) zf) (by kernel_rfl) (by kernel_rfl) (by kernel_rfl)
def dqck : FD := { fn := 92, nb := 0, pre := ⟨[.ag [.i .i64 0, .i .i64 1, .i .i64 2, .i .i64 3, .fz 116 false 4, .fz 127 false 5, .fz 129 false 6], .sc (.i .i64 7)], []⟩, post := ⟨[.sc (.i .i64 0)], []⟩, sh := false, cuts := [] }
noncomputable def Lqck : Option Nat → Lv → Option Lv := Lim Try.prog [dqbk.sig (Lqbk none), dqbl.sig (Lqbl none), dqbm.sig (Lqbm none)] dqck Try.f92
theorem eqck_i (a0 a1 a2 a3 : Int) (a4 a5 a6 : Rw) (a7 : Int) : Lqck none [.i a0, .i a1, .i a2, .i a3, .l a4, .l a5, .l a6, .i a7] =
 (Lqbk none [.l a4, .i a7]).bind fun y1 =>
 cond (decide ((g y1 0).int < 0)) (
 some [.i (-1)]) (
 (Lqbl none [.l a5, .i ((g y1 0).int)]).bind fun y2 =>
 cond (decide ((g y2 0).int < 0)) (
 some [.i (-1)]) (
 (Lqbm none [.l a6, .i ((g y2 0).int)]).bind fun y3 =>
 cond (decide ((g y3 0).int < 0)) (
 some [.i (-1)]) (
 some [.i ((g y3 0).int)]))) := (zb _ _).trans (by kernel_rfl)
theorem kqck : SigOk Try.prog (dqck.sig (Lqck none)) ∧ (dqck.sig (Lqck none)).ok = true := zg (zd kqbk (by kernel_rfl) (zd kqbl (by kernel_rfl) (zd kqbm (by kernel_rfl) zf))) (by kernel_rfl) (by kernel_rfl) (by kernel_rfl)
def dqcb : FD := { fn := 35, nb := 0, pre := ⟨[.ag [.i .i64 0, .i .i64 1, .i .i64 2, .i .i64 3, .i .i64 4, .fz 116 false 5, .fz 127 false 6, .fz 129 false 7, .s 8, .i .i64 9, .s 10, .s 11], .sc (.i .i64 12)], []⟩, post := ⟨[.sc (.i .i64 0)], []⟩, sh := false, cuts := [] }
noncomputable def Lqcb : Option Nat → Lv → Option Lv := Lim Try.prog [dqck.sig (Lqck none)] dqcb Try.f35
theorem eqcb_i (a0 a1 a2 a3 a4 : Int) (a5 a6 a7 : Rw) (a8 : ByteArray) (a9 : Int) (a10 a11 : ByteArray) (a12 : Int) : Lqcb none [.i a0, .i a1, .i a2, .i a3, .i a4, .l a5, .l a6, .l a7, .s a8, .i a9, .s a10, .s a11, .i a12] =
 (Lqck none [.i a1, .i a2, .i a3, .i a4, .l a5, .l a6, .l a7, .i a12]).bind fun y1 =>
 cond (decide ((g y1 0).int < 0)) (
 some [.i (-1)]) (
 some [.i ((g y1 0).int)]) := (zb _ _).trans (by kernel_rfl)
theorem kqcb : SigOk Try.prog (dqcb.sig (Lqcb none)) ∧ (dqcb.sig (Lqcb none)).ok = true := zg (zd kqck (by kernel_rfl) zf) (by kernel_rfl) (by kernel_rfl) (by kernel_rfl)
def dqbu : FD := { fn := 55, nb := 0, pre := ⟨[.ag [.i .i64 0, .s 1, .s 2, .i .i64 3, .s 4, .fz 9 false 5], .sc (.i .i64 6)], []⟩, post := ⟨[.sc (.i .i64 0)], []⟩, sh := false, cuts := [] }
noncomputable def Lqbu : Option Nat → Lv → Option Lv := Lim Try.prog [dqbz.sig (Lqbz none)] dqbu Try.f55
theorem eqbu_i (a0 : Int) (a1 a2 : ByteArray) (a3 : Int) (a4 : ByteArray) (a5 : Rw) (a6 : Int) : Lqbu none [.i a0, .s a1, .s a2, .i a3, .s a4, .l a5, .i a6] =
 cond (decide ((IntKind.i64.wrap (a6 - (a1.size : Int))) < 0)) (
 some [.i (-1)]) (
 cond (decide ((IntKind.i64.wrap ((IntKind.i64.wrap (a6 - (a1.size : Int))) - (a2.size : Int))) < 0)) (
 some [.i (-1)]) (
 (Lqbz none [.s a4, .l a5, .i (IntKind.i64.wrap ((IntKind.i64.wrap (a6 - (a1.size : Int))) - (a2.size : Int)))]).bind fun y1 =>
 cond (decide ((g y1 0).int < 0)) (
 some [.i (-1)]) (
 some [.i ((g y1 0).int)]))) := (zb _ _).trans (by kernel_rfl)
theorem kqbu : SigOk Try.prog (dqbu.sig (Lqbu none)) ∧ (dqbu.sig (Lqbu none)).ok = true := zg (zd kqbz (by kernel_rfl) zf) (by kernel_rfl) (by kernel_rfl) (by kernel_rfl)
end KV
end
section
set_option maxRecDepth 100000
namespace KV
open Go Go.Eng Go.Proofs
def dq2 : FD := { fn := 86, nb := 0, pre := ⟨[.sc (.i .i64 0)], []⟩, post := ⟨[.sc (.b 0)], []⟩, sh := false, cuts := [] }
noncomputable def Lq2 : Option Nat → Lv → Option Lv := Lim Try.prog [] dq2 Try.f86
theorem eq2_i (a0 : Int) : Lq2 none [.i a0] =
 cond (decide (1 ≤ a0)) (
 some [.b (decide (a0 ≤ 8))]) (
 some [.b false]) := (zb _ _).trans (by kernel_rfl)
theorem kq2 : SigOk Try.prog (dq2.sig (Lq2 none)) ∧ (dq2.sig (Lq2 none)).ok = true := zg zf (by kernel_rfl) (by kernel_rfl) (by kernel_rfl)
def dqf : FD := { fn := 93, nb := 0, pre := ⟨[.ag [.i .i64 0, .i .i64 1, .i .i64 2, .i .i64 3, .fz 116 false 4, .fz 127 false 5, .fz 129 false 6], .sc (.s 7)], []⟩, post := ⟨[.sc (.i .i64 0)], []⟩, sh := false, cuts := [⟨2, [1, 2, 5], ⟨[.sc (.s 0), .sc (.pt 0 0), .sc (.i .i64 1)], [.bx [.i .i64 2, .i .i64 3, .i .i64 4, .i .i64 5, .fz 116 false 6, .fz 127 false 7, .fz 129 false 8]]⟩⟩] }
noncomputable def Lqf : Option Nat → Lv → Option Lv := Lim Try.prog [] dqf Try.f93
theorem eqf_i (a0 a1 a2 a3 : Int) (a4 a5 a6 : Rw) (a7 : ByteArray) : Lqf none [.i a0, .i a1, .i a2, .i a3, .l a4, .l a5, .l a6, .s a7] =
 Lqf (some 2) [.s a7, .i 0, .i a0, .i a1, .i a2, .i a3, .l a4, .l a5, .l a6] := (zb _ _).trans (by kernel_rfl)
theorem eqf_2 (a0 : ByteArray) (a1 a2 a3 a4 a5 : Int) (a6 a7 a8 : Rw) : Lqf (some 2) [.s a0, .i a1, .i a2, .i a3, .i a4, .i a5, .l a6, .l a7, .l a8] =
 cond (decide (a1 < (a6.length : Int))) (
 cond (inb a1 a6.length) (
 cond (Eng.seq ((rd a6 a1.toNat 0).str) a0) (
 some [.i a1]) (
 Lqf (some 2) [.s a0, .i (IntKind.i64.wrap (a1 + 1)), .i a2, .i a3, .i a4, .i a5, .l a6, .l a7, .l a8])) (
 none)) (
 some [.i (-1)]) := (zb _ _).trans (by kernel_rfl)
theorem kqf : SigOk Try.prog (dqf.sig (Lqf none)) ∧ (dqf.sig (Lqf none)).ok = true := zg zf (by kernel_rfl) (by kernel_rfl) (by kernel_rfl)
def dqbv : FD := { fn := 97, nb := 0, pre := ⟨[.sc (.i .i64 0), .sc (.i .i64 1), .sc (.i .i64 2)], []⟩, post := ⟨[.sc (.b 0)], []⟩, sh := false, cuts := [] }
noncomputable def Lqbv : Option Nat → Lv → Option Lv := Lim Try.prog [] dqbv Try.f97
theorem eqbv_i (a0 a1 a2 : Int) : Lqbv none [.i a0, .i a1, .i a2] =
 cond (decide (a1 ≤ a0)) (
 some [.b (decide (a0 ≤ a2))]) (
 some [.b false]) := (zb _ _).trans (by kernel_rfl)
theorem kqbv : SigOk Try.prog (dqbv.sig (Lqbv none)) ∧ (dqbv.sig (Lqbv none)).ok = true := zg zf (by kernel_rfl) (by kernel_rfl) (by kernel_rfl)
def dqo : FD := { fn := 165, nb := 0, pre := ⟨[.ag [.s 0, .fz 9 false 1], .sc (.i .i64 2)], []⟩, post := ⟨[.sc (.b 0)], []⟩, sh := false, cuts := [⟨4, [1, 2, 5], ⟨[.sc (.i .i64 0), .sc (.pt 0 0), .sc (.i .i64 1)], [.bx [.s 2, .fz 9 false 3]]⟩⟩] }
noncomputable def Lqo : Option Nat → Lv → Option Lv := Lim Try.prog [dq2.sig (Lq2 none)] dqo Try.f165
theorem eqo_i (a0 : ByteArray) (a1 : Rw) (a2 : Int) : Lqo none [.s a0, .l a1, .i a2] =
 (Lq2 none [.i a2]).bind fun y1 =>
 cond (!(g y1 0).bool) (
 some [.b false]) (
 cond (decide (2000 < (a0.size : Int))) (
 some [.b false]) (
 cond (decide (30 < (a1.length : Int))) (
 some [.b false]) (
 Lqo (some 4) [.i a2, .i 0, .s a0, .l a1]))) := (zb _ _).trans (by kernel_rfl)
theorem eqo_4 (a0 a1 : Int) (a2 : ByteArray) (a3 : Rw) : Lqo (some 4) [.i a0, .i a1, .s a2, .l a3] =
 cond (decide (a1 < (a3.length : Int))) (
 cond (inb a1 a3.length) (
 cond ((((rd a3 a1.toNat 0).str).size : Int) != a0) (
 some [.b false]) (
 cond (decide (0 < a1)) (
 cond (inb (IntKind.i64.wrap (a1 - 1)) a3.length) (
 cond (inb a1 a3.length) (
 cond (!slt ((rd a3 ((IntKind.i64.wrap (a1 - 1)).toNat) 0).str) ((rd a3 a1.toNat 0).str)) (
 some [.b false]) (
 Lqo (some 4) [.i a0, .i (IntKind.i64.wrap (a1 + 1)), .s a2, .l a3])) (
 none)) (
 none)) (
 Lqo (some 4) [.i a0, .i (IntKind.i64.wrap (a1 + 1)), .s a2, .l a3]))) (
 none)) (
 some [.b true]) := (zb _ _).trans (by kernel_rfl)
theorem kqo : SigOk Try.prog (dqo.sig (Lqo none)) ∧ (dqo.sig (Lqo none)).ok = true := zg (zd kq2 (by kernel_rfl) zf) (by kernel_rfl) (by kernel_rfl) (by kernel_rfl)
def dqp : FD := { fn := 168, nb := 0, pre := ⟨[.sc (.s 0), .sc (.i .i64 1)], []⟩, post := ⟨[.sc (.s 0)], []⟩, sh := false, cuts := [⟨5, [0, 1, 5, 6], ⟨[.sc (.s 0), .sc (.i .i64 1), .sc (.i .u64 2), .sc (.i .i64 3)], []⟩⟩, ⟨10, [1, 5, 7, 8], ⟨[.sc (.i .i64 0), .sc (.i .u64 1), .sc (.ow 0), .sc (.i .i64 2)], [.rw 5 true 3]⟩⟩] }
noncomputable def Lqp : Option Nat → Lv → Option Lv := Lim Try.prog [dq2.sig (Lq2 none)] dqp Try.f168
theorem eqp_i (a0 : ByteArray) (a1 : Int) : Lqp none [.s a0, .i a1] =
 (Lq2 none [.i a1]).bind fun y1 =>
 cond (!(g y1 0).bool) (
 some [.s (⟨#[]⟩ : ByteArray)]) (
 Lqp (some 5) [.s a0, .i a1, .i 14695981039346656037, .i 0]) := (zb _ _).trans (by kernel_rfl)
theorem eqp_5 (a0 : ByteArray) (a1 a2 a3 : Int) : Lqp (some 5) [.s a0, .i a1, .i a2, .i a3] =
 cond (decide (a3 < (a0.size : Int))) (
 cond (inb a3 a0.size) (
 Lqp (some 5) [.s a0, .i a1, .i (IntKind.u64.wrap ((IntKind.u64.wrap (BitVec.ofInt (IntKind.u64).bits a2 ^^^ BitVec.ofInt (IntKind.u64).bits (IntKind.u64.wrap (byteAt a0 a3.toNat))).toNat) * 1099511628211)), .i (IntKind.i64.wrap (a3 + 1))]) (
 none)) (
 Lqp (some 10) [.i a1, .i a2, .i 0, .l ([] : Rw)]) := (zb _ _).trans (by kernel_rfl)
theorem eqp_10 (a0 a1 a2 : Int) (a3 : Rw) : Lqp (some 10) [.i a0, .i a1, .i a2, .l a3] =
 cond (decide (a2 < a0)) (
 cond (decide (([[.i (IntKind.u8.wrap (a1.tmod 256))]] : Rw).length + a3.length ≤ most)) (
 Lqp (some 10) [.i a0, .i (IntKind.u64.wrap (a1.tdiv 256)), .i (IntKind.i64.wrap (a2 + 1)), .l (([[.i (IntKind.u8.wrap (a1.tmod 256))]] : Rw) ++ a3)]) (
 none)) (
 some [.s (bytesOf a3)]) := (zb _ _).trans (by kernel_rfl)
theorem kqp : SigOk Try.prog (dqp.sig (Lqp none)) ∧ (dqp.sig (Lqp none)).ok = true := zg (zd kq2 (by kernel_rfl) zf) (by kernel_rfl) (by kernel_rfl) (by kernel_rfl)
def dqt : FD := { fn := 169, nb := 0, pre := ⟨[.ag [.s 0, .fz 9 false 1], .sc (.i .i64 2)], []⟩, post := ⟨[.sc (.s 0)], []⟩, sh := false, cuts := [⟨5, [2, 5, 6], ⟨[.sc (.pt 0 0), .sc (.ow 1), .sc (.i .i64 0)], [.bx [.s 1, .fz 9 false 2], .rw 5 true 3]⟩⟩] }
noncomputable def Lqt : Option Nat → Lv → Option Lv := Lim Try.prog [dqo.sig (Lqo none)] dqt Try.f169
theorem eqt_i (a0 : ByteArray) (a1 : Rw) (a2 : Int) : Lqt none [.s a0, .l a1, .i a2] =
 (Lqo none [.s a0, .l a1, .i a2]).bind fun y1 =>
 cond (!(g y1 0).bool) (
 some [.s (⟨#[]⟩ : ByteArray)]) (
 Lqt (some 5) [.i 0, .s a0, .l a1, .l ([[.i (IntKind.u8.wrap (a1.length : Int))]] : Rw)]) := (zb _ _).trans (by kernel_rfl)
theorem eqt_5 (a0 : Int) (a1 : ByteArray) (a2 a3 : Rw) : Lqt (some 5) [.i a0, .s a1, .l a2, .l a3] =
 cond (decide (a0 < (a2.length : Int))) (
 cond (inb a0 a2.length) (
 cond (decide (a3.length + (rowsOf ((rd a2 a0.toNat 0).str)).length ≤ most)) (
 Lqt (some 5) [.i (IntKind.i64.wrap (a0 + 1)), .s a1, .l a2, .l (a3 ++ (rowsOf ((rd a2 a0.toNat 0).str)))]) (
 none)) (
 none)) (
 cond (decide (a3.length + (rowsOf a1).length ≤ most)) (
 some [.s (bytesOf (a3 ++ (rowsOf a1)))]) (
 none)) := (zb _ _).trans (by kernel_rfl)
theorem kqt : SigOk Try.prog (dqt.sig (Lqt none)) ∧ (dqt.sig (Lqt none)).ok = true := zg (zd kqo (by kernel_rfl) zf) (by kernel_rfl) (by kernel_rfl) (by kernel_rfl)
def dqc : FD := { fn := 119, nb := 0, pre := ⟨[.ag [.i .i64 0, .i .i64 1, .i .i64 2, .i .i64 3, .fz 116 false 4, .fz 127 false 5, .fz 129 false 6]], []⟩, post := ⟨[.sc (.b 0)], []⟩, sh := false, cuts := [⟨4, [1, 3, 4, 5], ⟨[.sc (.pt 0 0), .sc (.ow 1), .sc (.ow 2), .sc (.i .i64 0)], [.bx [.i .i64 1, .i .i64 2, .i .i64 3, .i .i64 4, .fz 116 false 5, .fz 127 false 6, .fz 129 false 7], .rw 4 true 8, .rw 3 true 9]⟩⟩, ⟨14, [1, 3, 4, 5, 6, 7], ⟨[.sc (.pt 0 0), .sc (.ow 1), .sc (.ow 2), .sc (.i .i64 0), .sc (.pt 3 0), .sc (.i .i64 1)], [.bx [.i .i64 2, .i .i64 3, .i .i64 4, .i .i64 5, .fz 116 false 6, .fz 127 false 7, .fz 129 false 8], .rw 4 true 9, .rw 3 true 10, .bx [.s 11, .i .i64 12, .s 13, .fz 9 false 14]]⟩⟩, ⟨20, [1, 8], ⟨[.sc (.pt 0 0), .sc (.i .i64 0)], [.bx [.i .i64 1, .i .i64 2, .i .i64 3, .i .i64 4, .fz 116 false 5, .fz 127 false 6, .fz 129 false 7]]⟩⟩, ⟨23, [1, 8, 9], ⟨[.sc (.pt 0 0), .sc (.i .i64 0), .sc (.i .i64 1)], [.bx [.i .i64 2, .i .i64 3, .i .i64 4, .i .i64 5, .fz 116 false 6, .fz 127 false 7, .fz 129 false 8]]⟩⟩] }
noncomputable def Lqc : Option Nat → Lv → Option Lv := Lim Try.prog [dqf.sig (Lqf none), dqbv.sig (Lqbv none), dqo.sig (Lqo none), dqp.sig (Lqp none), dqt.sig (Lqt none)] dqc Try.f119
theorem eqc_i (a0 a1 a2 a3 : Int) (a4 a5 a6 : Rw) : Lqc none [.i a0, .i a1, .i a2, .i a3, .l a4, .l a5, .l a6] =
 Lqc (some 4) [.i 0, .i a0, .i a1, .i a2, .i a3, .l a4, .l a5, .l a6, .l (List.replicate 601 ([.b false] : List C)), .l ([] : Rw)] := (zb _ _).trans (by kernel_rfl)
theorem eqc_4 (a0 a1 a2 a3 a4 : Int) (a5 a6 a7 a8 a9 : Rw) : Lqc (some 4) [.i a0, .i a1, .i a2, .i a3, .i a4, .l a5, .l a6, .l a7, .l a8, .l a9] =
 cond (decide (a0 < (a5.length : Int))) (
 cond (inb a0 a5.length) (
 (Lqo none [.s ((rd a5 a0.toNat 2).str), .l ((rd a5 a0.toNat 3).list), .i a1]).bind fun y1 =>
 cond (!(g y1 0).bool) (
 some [.b false]) (
 (Lqt none [.s ((rd a5 a0.toNat 2).str), .l ((rd a5 a0.toNat 3).list), .i a1]).bind fun y2 =>
 (Lqp none [.s ((g y2 0).str), .i a1]).bind fun y3 =>
 cond (!Eng.seq ((rd a5 a0.toNat 0).str) ((g y3 0).str)) (
 some [.b false]) (
 cond (decide (0 < a0)) (
 cond (inb (IntKind.i64.wrap (a0 - 1)) a5.length) (
 cond (!slt ((rd a5 ((IntKind.i64.wrap (a0 - 1)).toNat) 0).str) ((rd a5 a0.toNat 0).str)) (
 some [.b false]) (
 (Lqbv none [.i ((rd a5 a0.toNat 1).int), .i 1, .i a4]).bind fun y4 =>
 cond (!(g y4 0).bool) (
 some [.b false]) (
 cond (decide ((rd a5 a0.toNat 1).int ≤ 600)) (
 cond (inb ((rd a5 a0.toNat 1).int) a8.length) (
 cond ((rd a8 (((rd a5 a0.toNat 1).int).toNat) 0).bool) (
 some [.b false]) (
 cond (inb ((rd a5 a0.toNat 1).int) a8.length) (
 Lqc (some 4) [.i (IntKind.i64.wrap (a0 + 1)), .i a1, .i a2, .i a3, .i a4, .l a5, .l a6, .l a7, .l (wrs a8 (((rd a5 a0.toNat 1).int).toNat) 0 ([.b true] : List C)), .l a9]) (
 none))) (
 none)) (
 Lqc (some 14) [.i a0, .i 0, .i a1, .i a2, .i a3, .i a4, .l a5, .l a6, .l a7, .l a8, .l a9, .s ((rd a5 a0.toNat 0).str), .i ((rd a5 a0.toNat 1).int), .s ((rd a5 a0.toNat 2).str), .l ((rd a5 a0.toNat 3).list)])))) (
 none)) (
 (Lqbv none [.i ((rd a5 a0.toNat 1).int), .i 1, .i a4]).bind fun y5 =>
 cond (!(g y5 0).bool) (
 some [.b false]) (
 cond (decide ((rd a5 a0.toNat 1).int ≤ 600)) (
 cond (inb ((rd a5 a0.toNat 1).int) a8.length) (
 cond ((rd a8 (((rd a5 a0.toNat 1).int).toNat) 0).bool) (
 some [.b false]) (
 cond (inb ((rd a5 a0.toNat 1).int) a8.length) (
 Lqc (some 4) [.i (IntKind.i64.wrap (a0 + 1)), .i a1, .i a2, .i a3, .i a4, .l a5, .l a6, .l a7, .l (wrs a8 (((rd a5 a0.toNat 1).int).toNat) 0 ([.b true] : List C)), .l a9]) (
 none))) (
 none)) (
 Lqc (some 14) [.i a0, .i 0, .i a1, .i a2, .i a3, .i a4, .l a5, .l a6, .l a7, .l a8, .l a9, .s ((rd a5 a0.toNat 0).str), .i ((rd a5 a0.toNat 1).int), .s ((rd a5 a0.toNat 2).str), .l ((rd a5 a0.toNat 3).list)])))))) (
 none)) (
 Lqc (some 20) [.i 0, .i a1, .i a2, .i a3, .i a4, .l a5, .l a6, .l a7]) := (zb _ _).trans (by kernel_rfl)
theorem eqc_14 (a0 a1 a2 a3 a4 a5 : Int) (a6 a7 a8 a9 a10 : Rw) (a11 : ByteArray) (a12 : Int) (a13 : ByteArray) (a14 : Rw) : Lqc (some 14) [.i a0, .i a1, .i a2, .i a3, .i a4, .i a5, .l a6, .l a7, .l a8, .l a9, .l a10, .s a11, .i a12, .s a13, .l a14] =
 cond (decide (a1 < (a10.length : Int))) (
 cond (inb a1 a10.length) (
 cond ((rd a10 a1.toNat 0).int == a12) (
 some [.b false]) (
 Lqc (some 14) [.i a0, .i (IntKind.i64.wrap (a1 + 1)), .i a2, .i a3, .i a4, .i a5, .l a6, .l a7, .l a8, .l a9, .l a10, .s a11, .i a12, .s a13, .l a14])) (
 none)) (
 cond (decide (a10.length + ([[.i a12]] : Rw).length ≤ most)) (
 Lqc (some 4) [.i (IntKind.i64.wrap (a0 + 1)), .i a2, .i a3, .i a4, .i a5, .l a6, .l a7, .l a8, .l a9, .l (a10 ++ ([[.i a12]] : Rw))]) (
 none)) := (zb _ _).trans (by kernel_rfl)
theorem eqc_20 (a0 a1 a2 a3 a4 : Int) (a5 a6 a7 : Rw) : Lqc (some 20) [.i a0, .i a1, .i a2, .i a3, .i a4, .l a5, .l a6, .l a7] =
 cond (decide (a0 < (a5.length : Int))) (
 Lqc (some 23) [.i a0, .i 0, .i a1, .i a2, .i a3, .i a4, .l a5, .l a6, .l a7]) (
 some [.b true]) := (zb _ _).trans (by kernel_rfl)
theorem eqc_23 (a0 a1 a2 a3 a4 a5 : Int) (a6 a7 a8 : Rw) : Lqc (some 23) [.i a0, .i a1, .i a2, .i a3, .i a4, .i a5, .l a6, .l a7, .l a8] =
 cond (inb a0 a6.length) (
 cond (decide (a1 < (((rd a6 a0.toNat 3).list).length : Int))) (
 cond (inb a0 a6.length) (
 cond (inb a1 (((rd a6 a0.toNat 3).list).length)) (
 (Lqf none [.i a2, .i a3, .i a4, .i a5, .l a6, .l a7, .l a8, .s ((rd ((rd a6 a0.toNat 3).list) a1.toNat 0).str)]).bind fun y1 =>
 cond (decide ((g y1 0).int < 0)) (
 some [.b false]) (
 cond (inb ((g y1 0).int) a6.length) (
 cond (inb a0 a6.length) (
 cond (decide ((rd a6 a0.toNat 1).int ≤ (rd a6 (((g y1 0).int).toNat) 1).int)) (
 some [.b false]) (
 Lqc (some 23) [.i a0, .i (IntKind.i64.wrap (a1 + 1)), .i a2, .i a3, .i a4, .i a5, .l a6, .l a7, .l a8])) (
 none)) (
 none))) (
 none)) (
 none)) (
 Lqc (some 20) [.i (IntKind.i64.wrap (a0 + 1)), .i a2, .i a3, .i a4, .i a5, .l a6, .l a7, .l a8])) (
 none) := (zb _ _).trans (by kernel_rfl)
theorem kqc : SigOk Try.prog (dqc.sig (Lqc none)) ∧ (dqc.sig (Lqc none)).ok = true := zg (zd kqf (by kernel_rfl) (zd kqbv (by kernel_rfl) (zd kqo (by kernel_rfl) (zd kqp (by kernel_rfl) (zd kqt (by kernel_rfl) zf))))) (by kernel_rfl) (by kernel_rfl) (by kernel_rfl)
def dqx : FD := { fn := 120, nb := 0, pre := ⟨[.sc (.s 0)], []⟩, post := ⟨[.sc (.b 0)], []⟩, sh := false, cuts := [⟨2, [0, 3], ⟨[.sc (.s 0), .sc (.i .i64 1)], []⟩⟩] }
noncomputable def Lqx : Option Nat → Lv → Option Lv := Lim Try.prog [] dqx Try.f120
theorem eqx_i (a0 : ByteArray) : Lqx none [.s a0] =
 Lqx (some 2) [.s a0, .i 0] := (zb _ _).trans (by kernel_rfl)
theorem eqx_2 (a0 : ByteArray) (a1 : Int) : Lqx (some 2) [.s a0, .i a1] =
 cond (decide (a1 < (a0.size : Int))) (
 cond (inb a1 a0.size) (
 cond (decide ((byteAt a0 a1.toNat) < 33)) (
 some [.b false]) (
 cond (inb a1 a0.size) (
 cond (decide (126 < (byteAt a0 a1.toNat))) (
 some [.b false]) (
 Lqx (some 2) [.s a0, .i (IntKind.i64.wrap (a1 + 1))])) (
 none))) (
 none)) (
 cond (decide (1 ≤ (a0.size : Int))) (
 some [.b (decide ((a0.size : Int) ≤ 40))]) (
 some [.b false])) := (zb _ _).trans (by kernel_rfl)
theorem kqx : SigOk Try.prog (dqx.sig (Lqx none)) ∧ (dqx.sig (Lqx none)).ok = true := zg zf (by kernel_rfl) (by kernel_rfl) (by kernel_rfl)
def dqh : FD := { fn := 64, nb := 0, pre := ⟨[.ag [.i .i64 0, .i .i64 1, .i .i64 2, .i .i64 3, .fz 116 false 4, .fz 127 false 5, .fz 129 false 6]], []⟩, post := ⟨[.sc (.b 0)], []⟩, sh := false, cuts := [⟨6, [1, 3], ⟨[.sc (.pt 0 0), .sc (.i .i64 0)], [.bx [.i .i64 1, .i .i64 2, .i .i64 3, .i .i64 4, .fz 116 false 5, .fz 127 false 6, .fz 129 false 7]]⟩⟩, ⟨11, [1, 4], ⟨[.sc (.pt 0 0), .sc (.i .i64 0)], [.bx [.i .i64 1, .i .i64 2, .i .i64 3, .i .i64 4, .fz 116 false 5, .fz 127 false 6, .fz 129 false 7]]⟩⟩] }
noncomputable def Lqh : Option Nat → Lv → Option Lv := Lim Try.prog [dq2.sig (Lq2 none), dqf.sig (Lqf none), dqbv.sig (Lqbv none), dqc.sig (Lqc none), dqx.sig (Lqx none)] dqh Try.f64
theorem eqh_i (a0 a1 a2 a3 : Int) (a4 a5 a6 : Rw) : Lqh none [.i a0, .i a1, .i a2, .i a3, .l a4, .l a5, .l a6] =
 (Lq2 none [.i a0]).bind fun y1 =>
 cond (!(g y1 0).bool) (
 some [.b false]) (
 (Lqbv none [.i a1, .i 0, .i 1000000000]).bind fun y2 =>
 cond (!(g y2 0).bool) (
 some [.b false]) (
 (Lqbv none [.i a2, .i 0, .i 1000000000]).bind fun y3 =>
 cond (!(g y3 0).bool) (
 some [.b false]) (
 (Lqbv none [.i a3, .i 0, .i 1000000000]).bind fun y4 =>
 cond (!(g y4 0).bool) (
 some [.b false]) (
 cond (decide (600 < (a4.length : Int))) (
 some [.b false]) (
 cond (decide (100 < (a5.length : Int))) (
 some [.b false]) (
 cond (decide (200 < (a6.length : Int))) (
 some [.b false]) (
 (Lqc none [.i a0, .i a1, .i a2, .i a3, .l a4, .l a5, .l a6]).bind fun y5 =>
 cond (!(g y5 0).bool) (
 some [.b false]) (
 Lqh (some 6) [.i 0, .i a0, .i a1, .i a2, .i a3, .l a4, .l a5, .l a6])))))))) := (zb _ _).trans (by kernel_rfl)
theorem eqh_6 (a0 a1 a2 a3 a4 : Int) (a5 a6 a7 : Rw) : Lqh (some 6) [.i a0, .i a1, .i a2, .i a3, .i a4, .l a5, .l a6, .l a7] =
 cond (decide (a0 < (a6.length : Int))) (
 cond (inb a0 a6.length) (
 (Lqx none [.s ((rd a6 a0.toNat 0).str)]).bind fun y1 =>
 cond (!(g y1 0).bool) (
 some [.b false]) (
 cond (decide (0 < a0)) (
 cond (inb (IntKind.i64.wrap (a0 - 1)) a6.length) (
 cond (inb a0 a6.length) (
 cond (!slt ((rd a6 ((IntKind.i64.wrap (a0 - 1)).toNat) 0).str) ((rd a6 a0.toNat 0).str)) (
 some [.b false]) (
 cond (inb a0 a6.length) (
 (Lqf none [.i a1, .i a2, .i a3, .i a4, .l a5, .l a6, .l a7, .s ((rd a6 a0.toNat 1).str)]).bind fun y2 =>
 cond (decide ((g y2 0).int < 0)) (
 some [.b false]) (
 Lqh (some 6) [.i (IntKind.i64.wrap (a0 + 1)), .i a1, .i a2, .i a3, .i a4, .l a5, .l a6, .l a7])) (
 none))) (
 none)) (
 none)) (
 cond (inb a0 a6.length) (
 (Lqf none [.i a1, .i a2, .i a3, .i a4, .l a5, .l a6, .l a7, .s ((rd a6 a0.toNat 1).str)]).bind fun y3 =>
 cond (decide ((g y3 0).int < 0)) (
 some [.b false]) (
 Lqh (some 6) [.i (IntKind.i64.wrap (a0 + 1)), .i a1, .i a2, .i a3, .i a4, .l a5, .l a6, .l a7])) (
 none)))) (
 none)) (
 Lqh (some 11) [.i 0, .i a1, .i a2, .i a3, .i a4, .l a5, .l a6, .l a7]) := (zb _ _).trans (by kernel_rfl)
theorem eqh_11 (a0 a1 a2 a3 a4 : Int) (a5 a6 a7 : Rw) : Lqh (some 11) [.i a0, .i a1, .i a2, .i a3, .i a4, .l a5, .l a6, .l a7] =
 cond (decide (a0 < (a7.length : Int))) (
 cond (inb a0 a7.length) (
 (Lqbv none [.i ((rd a7 a0.toNat 0).int), .i 1, .i a3]).bind fun y1 =>
 cond (!(g y1 0).bool) (
 some [.b false]) (
 cond (decide (0 < a0)) (
 cond (inb (IntKind.i64.wrap (a0 - 1)) a7.length) (
 cond (decide ((rd a7 a0.toNat 0).int ≤ (rd a7 ((IntKind.i64.wrap (a0 - 1)).toNat) 0).int)) (
 some [.b false]) (
 (Lqf none [.i a1, .i a2, .i a3, .i a4, .l a5, .l a6, .l a7, .s ((rd a7 a0.toNat 1).str)]).bind fun y2 =>
 cond (decide ((g y2 0).int < 0)) (
 some [.b false]) (
 cond (decide ((rd a7 a0.toNat 2).int ≤ a2)) (
 some [.b false]) (
 cond (decide ((IntKind.i64.wrap (a2 + 100000)) < (rd a7 a0.toNat 2).int)) (
 some [.b false]) (
 Lqh (some 11) [.i (IntKind.i64.wrap (a0 + 1)), .i a1, .i a2, .i a3, .i a4, .l a5, .l a6, .l a7]))))) (
 none)) (
 (Lqf none [.i a1, .i a2, .i a3, .i a4, .l a5, .l a6, .l a7, .s ((rd a7 a0.toNat 1).str)]).bind fun y3 =>
 cond (decide ((g y3 0).int < 0)) (
 some [.b false]) (
 cond (decide ((rd a7 a0.toNat 2).int ≤ a2)) (
 some [.b false]) (
 cond (decide ((IntKind.i64.wrap (a2 + 100000)) < (rd a7 a0.toNat 2).int)) (
 some [.b false]) (
 Lqh (some 11) [.i (IntKind.i64.wrap (a0 + 1)), .i a1, .i a2, .i a3, .i a4, .l a5, .l a6, .l a7])))))) (
 none)) (
 some [.b true]) := (zb _ _).trans (by kernel_rfl)
theorem kqh : SigOk Try.prog (dqh.sig (Lqh none)) ∧ (dqh.sig (Lqh none)).ok = true := zg (zd kq2 (by kernel_rfl) (zd kqf (by kernel_rfl) (zd kqbv (by kernel_rfl) (zd kqc (by kernel_rfl) (zd kqx (by kernel_rfl) zf))))) (by kernel_rfl) (by kernel_rfl) (by kernel_rfl)
def dqcl : FD := { fn := 163, nb := 0, pre := ⟨[.sc (.i .i64 0)], []⟩, post := ⟨[.tu [(false, [.b 0]), (false, [.b 1]), (false, [.i .i64 2]), (false, [.b 3])]], []⟩, sh := false, cuts := [] }
noncomputable def Lqcl : Option Nat → Lv → Option Lv := Lim Try.prog [] dqcl Try.f163
theorem eqcl_i (a0 : Int) : Lqcl none [.i a0] =
 cond (a0 == 1) (
 some [.b false, .b false, .i 1, .b true]) (
 cond (a0 == 2) (
 some [.b true, .b true, .i 0, .b false]) (
 cond (a0 == 3) (
 some [.b false, .b true, .i 0, .b false]) (
 cond (a0 == 4) (
 some [.b true, .b false, .i 1, .b false]) (
 cond (a0 == 5) (
 some [.b false, .b false, .i 2, .b false]) (
 cond (a0 == 6) (
 some [.b false, .b false, .i 1, .b false]) (
 cond (a0 == 7) (
 some [.b true, .b false, .i 0, .b false]) (
 some [.b false, .b false, .i 0, .b false]))))))) := (zb _ _).trans (by kernel_rfl)
theorem kqcl : SigOk Try.prog (dqcl.sig (Lqcl none)) ∧ (dqcl.sig (Lqcl none)).ok = true := zg zf (by kernel_rfl) (by kernel_rfl) (by kernel_rfl)
def dqb1 : FD := { fn := 164, nb := 0, pre := ⟨[.sc (.i .i64 0), .sc (.i .i64 1)], []⟩, post := ⟨[.sc (.b 0)], []⟩, sh := false, cuts := [] }
noncomputable def Lqb1 : Option Nat → Lv → Option Lv := Lim Try.prog [] dqb1 Try.f164
theorem eqb1_i (a0 a1 : Int) : Lqb1 none [.i a0, .i a1] =
 cond (a1 == 1) (
 cond (decide (1 ≤ a0)) (
 some [.b (decide (a0 ≤ 100000))]) (
 some [.b false])) (
 cond (a1 == 2) (
 cond (decide (1 ≤ a0)) (
 some [.b (decide (a0 ≤ 1000000000))]) (
 some [.b false])) (
 some [.b (a0 == 0)])) := (zb _ _).trans (by kernel_rfl)
theorem kqb1 : SigOk Try.prog (dqb1.sig (Lqb1 none)) ∧ (dqb1.sig (Lqb1 none)).ok = true := zg zf (by kernel_rfl) (by kernel_rfl) (by kernel_rfl)
def dqq : FD := { fn := 111, nb := 0, pre := ⟨[.ag [.i .i64 0, .s 1, .s 2, .i .i64 3, .s 4, .fz 9 false 5], .sc (.i .i64 6)], []⟩, post := ⟨[.sc (.b 0)], []⟩, sh := false, cuts := [⟨6, [1, 2, 6, 8], ⟨[.sc (.i .i64 0), .sc (.pt 0 0), .sc (.b 1), .sc (.b 2)], [.bx [.i .i64 3, .s 4, .s 5, .i .i64 6, .s 7, .fz 9 false 8]]⟩⟩, ⟨8, [1, 2, 8], ⟨[.sc (.i .i64 0), .sc (.pt 0 0), .sc (.b 1)], [.bx [.i .i64 2, .s 3, .s 4, .i .i64 5, .s 6, .fz 9 false 7]]⟩⟩] }
noncomputable def Lqq : Option Nat → Lv → Option Lv := Lim Try.prog [dq2.sig (Lq2 none), dqo.sig (Lqo none), dqx.sig (Lqx none), dqcl.sig (Lqcl none), dqb1.sig (Lqb1 none)] dqq Try.f111
theorem eqq_i (a0 : Int) (a1 a2 : ByteArray) (a3 : Int) (a4 : ByteArray) (a5 : Rw) (a6 : Int) : Lqq none [.i a0, .s a1, .s a2, .i a3, .s a4, .l a5, .i a6] =
 (Lq2 none [.i a6]).bind fun y1 =>
 cond (!(g y1 0).bool) (
 some [.b false]) (
 cond (decide (a0 < 1)) (
 some [.b false]) (
 cond (decide (7 < a0)) (
 some [.b false]) (
 (Lqcl none [.i a0]).bind fun y2 =>
 cond ((g y2 0).bool) (
 cond ((a1.size : Int) != a6) (
 some [.b false]) (
 cond (!(g y2 0).bool) (
 cond (!Eng.seq a1 (⟨#[]⟩ : ByteArray)) (
 some [.b false]) (
 (Lqb1 none [.i a3, .i ((g y2 2).int)]).bind fun y3 =>
 cond (!(g y3 0).bool) (
 some [.b false]) (
 Lqq (some 6) [.i a6, .b ((g y2 1).bool), .b ((g y2 3).bool), .i a0, .s a1, .s a2, .i a3, .s a4, .l a5]))) (
 (Lqb1 none [.i a3, .i ((g y2 2).int)]).bind fun y4 =>
 cond (!(g y4 0).bool) (
 some [.b false]) (
 Lqq (some 6) [.i a6, .b ((g y2 1).bool), .b ((g y2 3).bool), .i a0, .s a1, .s a2, .i a3, .s a4, .l a5])))) (
 cond (!(g y2 0).bool) (
 cond (!Eng.seq a1 (⟨#[]⟩ : ByteArray)) (
 some [.b false]) (
 (Lqb1 none [.i a3, .i ((g y2 2).int)]).bind fun y5 =>
 cond (!(g y5 0).bool) (
 some [.b false]) (
 Lqq (some 6) [.i a6, .b ((g y2 1).bool), .b ((g y2 3).bool), .i a0, .s a1, .s a2, .i a3, .s a4, .l a5]))) (
 (Lqb1 none [.i a3, .i ((g y2 2).int)]).bind fun y6 =>
 cond (!(g y6 0).bool) (
 some [.b false]) (
 Lqq (some 6) [.i a6, .b ((g y2 1).bool), .b ((g y2 3).bool), .i a0, .s a1, .s a2, .i a3, .s a4, .l a5])))))) := (zb _ _).trans (by kernel_rfl)
theorem eqq_6 (a0 : Int) (a1 a2 : Bool) (a3 : Int) (a4 a5 : ByteArray) (a6 : Int) (a7 : ByteArray) (a8 : Rw) : Lqq (some 6) [.i a0, .b a1, .b a2, .i a3, .s a4, .s a5, .i a6, .s a7, .l a8] =
 cond a1 (
 (Lqx none [.s a5]).bind fun y1 =>
 cond (!(g y1 0).bool) (
 some [.b false]) (
 cond (!a1) (
 cond (!Eng.seq a5 (⟨#[]⟩ : ByteArray)) (
 some [.b false]) (
 Lqq (some 8) [.i a0, .b a2, .i a3, .s a4, .s a5, .i a6, .s a7, .l a8])) (
 Lqq (some 8) [.i a0, .b a2, .i a3, .s a4, .s a5, .i a6, .s a7, .l a8]))) (
 cond (!a1) (
 cond (!Eng.seq a5 (⟨#[]⟩ : ByteArray)) (
 some [.b false]) (
 Lqq (some 8) [.i a0, .b a2, .i a3, .s a4, .s a5, .i a6, .s a7, .l a8])) (
 Lqq (some 8) [.i a0, .b a2, .i a3, .s a4, .s a5, .i a6, .s a7, .l a8])) := (zb _ _).trans (by kernel_rfl)
theorem eqq_8 (a0 : Int) (a1 : Bool) (a2 : Int) (a3 a4 : ByteArray) (a5 : Int) (a6 : ByteArray) (a7 : Rw) : Lqq (some 8) [.i a0, .b a1, .i a2, .s a3, .s a4, .i a5, .s a6, .l a7] =
 cond a1 (
 (Lqo none [.s a6, .l a7, .i a0]).bind fun y1 =>
 some [.b ((g y1 0).bool)]) (
 cond (Eng.seq a6 (⟨#[]⟩ : ByteArray)) (
 some [.b ((a7.length : Int) == 0)]) (
 some [.b false])) := (zb _ _).trans (by kernel_rfl)
theorem kqq : SigOk Try.prog (dqq.sig (Lqq none)) ∧ (dqq.sig (Lqq none)).ok = true := zg (zd kq2 (by kernel_rfl) (zd kqo (by kernel_rfl) (zd kqx (by kernel_rfl) (zd kqcl (by kernel_rfl) (zd kqb1 (by kernel_rfl) zf))))) (by kernel_rfl) (by kernel_rfl) (by kernel_rfl)
def dqb2 : FD := { fn := 145, nb := 0, pre := ⟨[.ag [.s 0, .fz 9 false 1]], []⟩, post := ⟨[.ag [.s 0, .ow 0]], [.rw 9 true 1]⟩, sh := false, cuts := [] }
noncomputable def Lqb2 : Option Nat → Lv → Option Lv := Lim Try.prog [] dqb2 Try.f145
theorem eqb2_i (a0 : ByteArray) (a1 : Rw) : Lqb2 none [.s a0, .l a1] =
 cond (decide (([] : Rw).length + a1.length ≤ most)) (
 some [.s a0, .l (([] : Rw) ++ a1)]) (
 none) := (zb _ _).trans (by kernel_rfl)
theorem kqb2 : SigOk Try.prog (dqb2.sig (Lqb2 none)) ∧ (dqb2.sig (Lqb2 none)).ok = true := zg zf (by kernel_rfl) (by kernel_rfl) (by kernel_rfl)
def dqu : FD := { fn := 89, nb := 0, pre := ⟨[.ag [.i .i64 0, .i .i64 1, .i .i64 2, .i .i64 3, .fz 116 false 4, .fz 127 false 5, .fz 129 false 6]], []⟩, post := ⟨[.ag [.i .i64 0, .i .i64 1, .i .i64 2, .i .i64 3, .ow 0, .ow 1, .ow 2]], [.rw 116 true 4, .rw 127 true 5, .rw 129 true 6]⟩, sh := false, cuts := [⟨4, [1, 2, 3, 4], ⟨[.sc (.pt 0 0), .sc (.pt 1 0), .sc (.pt 2 0), .sc (.i .i64 0)], [.bx [.i .i64 1, .i .i64 2, .i .i64 3, .i .i64 4, .fz 116 false 5, .fz 127 false 6, .fz 129 false 7], .bx [.i .i64 8, .i .i64 9, .i .i64 10, .i .i64 11, .ow 3, .ow 4, .ow 5], .bx [.i .i64 12, .i .i64 13, .i .i64 14, .i .i64 15, .ow 6, .fz 127 false 16, .fz 129 false 17], .rw 116 true 18, .rw 127 true 19, .rw 129 true 20, .rw 116 true 21]⟩⟩] }
noncomputable def Lqu : Option Nat → Lv → Option Lv := Lim Try.prog [dqb2.sig (Lqb2 none)] dqu Try.f89
theorem equ_i (a0 a1 a2 a3 : Int) (a4 a5 a6 : Rw) : Lqu none [.i a0, .i a1, .i a2, .i a3, .l a4, .l a5, .l a6] =
 Lqu (some 4) [.i 0, .i a0, .i a1, .i a2, .i a3, .l a4, .l a5, .l a6, .i 0, .i 0, .i 0, .i 0, .i a0, .i a1, .i a2, .i a3, .l a5, .l a6, .l [], .l [], .l [], .l ([] : Rw)] := (zb _ _).trans (by kernel_rfl)
theorem equ_4 (a0 a1 a2 a3 a4 : Int) (a5 a6 a7 : Rw) (a8 a9 a10 a11 a12 a13 a14 a15 : Int) (a16 a17 a18 a19 a20 a21 : Rw) : Lqu (some 4) [.i a0, .i a1, .i a2, .i a3, .i a4, .l a5, .l a6, .l a7, .i a8, .i a9, .i a10, .i a11, .i a12, .i a13, .i a14, .i a15, .l a16, .l a17, .l a18, .l a19, .l a20, .l a21] =
 cond (decide (a0 < (a5.length : Int))) (
 cond (inb a0 a5.length) (
 (Lqb2 none [.s ((rd a5 a0.toNat 2).str), .l ((rd a5 a0.toNat 3).list)]).bind fun y1 =>
 cond (decide (a21.length + ([[.s ((rd a5 a0.toNat 0).str), .i ((rd a5 a0.toNat 1).int), .s ((g y1 0).str), .l ((g y1 1).list)]] : Rw).length ≤ most)) (
 Lqu (some 4) [.i (IntKind.i64.wrap (a0 + 1)), .i a1, .i a2, .i a3, .i a4, .l a5, .l a6, .l a7, .i a8, .i a9, .i a10, .i a11, .i a12, .i a13, .i a14, .i a15, .l a16, .l a17, .l a18, .l a19, .l a20, .l (a21 ++ ([[.s ((rd a5 a0.toNat 0).str), .i ((rd a5 a0.toNat 1).int), .s ((g y1 0).str), .l ((g y1 1).list)]] : Rw))]) (
 none)) (
 none)) (
 cond (decide (([] : Rw).length + a6.length ≤ most)) (
 cond (decide (([] : Rw).length + a7.length ≤ most)) (
 some [.i a12, .i a13, .i a14, .i a15, .l a21, .l (([] : Rw) ++ a6), .l (([] : Rw) ++ a7)]) (
 none)) (
 none)) := (zb _ _).trans (by kernel_rfl)
theorem kqu : SigOk Try.prog (dqu.sig (Lqu none)) ∧ (dqu.sig (Lqu none)).ok = true := zg (zd kqb2 (by kernel_rfl) zf) (by kernel_rfl) (by kernel_rfl) (by kernel_rfl)
end KV
end
section
set_option maxRecDepth 100000
namespace KV
open Go Go.Eng Go.Proofs
def dqbx : FD := { fn := 141, nb := 0, pre := ⟨[.ag [.i .i64 0, .i .i64 1, .i .i64 2, .i .i64 3, .fz 116 false 4, .fz 127 false 5, .ow 0], .sc (.s 6), .sc (.i .i64 7)], [.rw 129 false 8]⟩, post := ⟨[.ag [.i .i64 0, .i .i64 1, .i .i64 2, .i .i64 3, .i .i64 4, .fz 116 false 5, .fz 127 false 6, .ow 0, .s 7, .i .i64 8, .s 9, .s 10]], [.rw 129 false 11]⟩, sh := true, cuts := [] }
noncomputable def Lqbx : Option Nat → Lv → Option Lv := Lim Try.prog [] dqbx Try.f141
theorem eqbx_i (a0 a1 a2 a3 : Int) (a4 a5 : Rw) (a6 : ByteArray) (a7 : Int) (a8 : Rw) : Lqbx none [.i a0, .i a1, .i a2, .i a3, .l a4, .l a5, .s a6, .i a7, .l a8] =
 cond (decide (200 ≤ (a8.length : Int))) (
 some [.i 4, .i 0, .i 0, .i 0, .i 0, .l ([]), .l ([]), .s (⟨#[]⟩ : ByteArray), .i 0, .s (⟨#[]⟩ : ByteArray), .s (⟨#[]⟩ : ByteArray), .l []]) (
 cond (decide (1000000000 ≤ a2)) (
 some [.i 4, .i 0, .i 0, .i 0, .i 0, .l ([]), .l ([]), .s (⟨#[]⟩ : ByteArray), .i 0, .s (⟨#[]⟩ : ByteArray), .s (⟨#[]⟩ : ByteArray), .l []]) (
 cond (decide (a8.length + ([[.i (IntKind.i64.wrap (a2 + 1)), .s a6, .i (IntKind.i64.wrap (a1 + a7))]] : Rw).length ≤ most)) (
 some [.i 0, .i a0, .i a1, .i (IntKind.i64.wrap (a2 + 1)), .i a3, .l a4, .l a5, .s (⟨#[]⟩ : ByteArray), .i (IntKind.i64.wrap (a2 + 1)), .s (⟨#[]⟩ : ByteArray), .s (⟨#[]⟩ : ByteArray), .l (a8 ++ ([[.i (IntKind.i64.wrap (a2 + 1)), .s a6, .i (IntKind.i64.wrap (a1 + a7))]] : Rw))]) (
 none))) := (zb _ _).trans (by kernel_rfl)
theorem kqbx : SigOk Try.prog (dqbx.sig (Lqbx none)) ∧ (dqbx.sig (Lqbx none)).ok = true := zg zf (by kernel_rfl) (by kernel_rfl) (by kernel_rfl)
def dqg : FD := { fn := 138, nb := 0, pre := ⟨[.ag [.i .i64 0, .i .i64 1, .i .i64 2, .i .i64 3, .fz 116 false 4, .fz 127 false 5, .ow 0], .ag [.i .i64 6, .s 7, .s 8, .i .i64 9, .s 10, .fz 9 false 11]], [.rw 129 false 12]⟩, post := ⟨[.ag [.i .i64 0, .i .i64 1, .i .i64 2, .i .i64 3, .i .i64 4, .fz 116 false 5, .fz 127 false 6, .ow 0, .s 7, .i .i64 8, .s 9, .s 10]], [.rw 129 false 11]⟩, sh := true, cuts := [⟨4, [2, 3, 4, 5, 6, 7], ⟨[.sc (.pt 0 0), .sc (.pt 1 0), .sc (.pt 2 0), .sc (.s 0), .sc (.s 1), .sc (.i .i64 2)], [.bx [.i .i64 3, .i .i64 4, .i .i64 5, .i .i64 6, .fz 116 false 7, .fz 127 false 8, .ow 3], .bx [.i .i64 9, .s 10, .s 11, .i .i64 12, .s 13, .fz 9 false 14], .bx [.i .i64 15, .i .i64 16, .i .i64 17, .i .i64 18, .i .i64 19, .ow 4, .ow 5, .ow 6, .s 20, .i .i64 21, .s 22, .s 23], .rw 129 false 24, .rw 116 true 25, .rw 127 true 26, .rw 129 true 27]⟩⟩, ⟨20, [2, 3, 4, 6, 10, 11, 12, 13], ⟨[.sc (.pt 0 0), .sc (.pt 1 0), .sc (.pt 2 0), .sc (.s 0), .sc (.ow 3), .sc (.b 1), .sc (.pt 4 0), .sc (.i .i64 2)], [.bx [.i .i64 3, .i .i64 4, .i .i64 5, .i .i64 6, .fz 116 false 7, .fz 127 false 8, .ow 5], .bx [.i .i64 9, .s 10, .s 11, .i .i64 12, .s 13, .fz 9 false 14], .bx [.i .i64 15, .i .i64 16, .i .i64 17, .i .i64 18, .i .i64 19, .ow 6, .ow 7, .ow 8, .s 20, .i .i64 21, .s 22, .s 23], .rw 116 false 24, .bx [.s 25, .i .i64 26, .s 27, .fz 9 true 28], .rw 129 false 29, .rw 116 true 30, .rw 127 true 31, .rw 129 true 32]⟩⟩] }
noncomputable def Lqg : Option Nat → Lv → Option Lv := Lim Try.prog [dqf.sig (Lqf none), dqp.sig (Lqp none), dqt.sig (Lqt none), dqb2.sig (Lqb2 none), dqbx.sig (Lqbx none)] dqg Try.f138
theorem eqg_i (a0 a1 a2 a3 : Int) (a4 a5 : Rw) (a6 : Int) (a7 a8 : ByteArray) (a9 : Int) (a10 : ByteArray) (a11 a12 : Rw) : Lqg none [.i a0, .i a1, .i a2, .i a3, .l a4, .l a5, .i a6, .s a7, .s a8, .i a9, .s a10, .l a11, .l a12] =
 (Lqt none [.s a10, .l a11, .i a0]).bind fun y1 =>
 (Lqp none [.s ((g y1 0).str), .i a0]).bind fun y2 =>
 Lqg (some 4) [.s ((g y1 0).str), .s ((g y2 0).str), .i 0, .i a0, .i a1, .i a2, .i a3, .l a4, .l a5, .i a6, .s a7, .s a8, .i a9, .s a10, .l a11, .i 0, .i 0, .i 0, .i 0, .i 0, .s (⟨#[]⟩ : ByteArray), .i 0, .s (⟨#[]⟩ : ByteArray), .s (⟨#[]⟩ : ByteArray), .l a12, .l [], .l [], .l []] := (zb _ _).trans (by kernel_rfl)
theorem eqg_4 (a0 a1 : ByteArray) (a2 a3 a4 a5 a6 : Int) (a7 a8 : Rw) (a9 : Int) (a10 a11 : ByteArray) (a12 : Int) (a13 : ByteArray) (a14 : Rw) (a15 a16 a17 a18 a19 : Int) (a20 : ByteArray) (a21 : Int) (a22 a23 : ByteArray) (a24 a25 a26 a27 : Rw) : Lqg (some 4) [.s a0, .s a1, .i a2, .i a3, .i a4, .i a5, .i a6, .l a7, .l a8, .i a9, .s a10, .s a11, .i a12, .s a13, .l a14, .i a15, .i a16, .i a17, .i a18, .i a19, .s a20, .i a21, .s a22, .s a23, .l a24, .l a25, .l a26, .l a27] =
 cond (decide (a2 < (a14.length : Int))) (
 cond (inb a2 a14.length) (
 (Lqf none [.i a3, .i a4, .i a5, .i a6, .l a7, .l a8, .l a24, .s ((rd a14 a2.toNat 0).str)]).bind fun y1 =>
 cond (decide ((g y1 0).int < 0)) (
 some [.i 2, .i 0, .i 0, .i 0, .i 0, .l ([]), .l ([]), .s (⟨#[]⟩ : ByteArray), .i 0, .s (⟨#[]⟩ : ByteArray), .s (⟨#[]⟩ : ByteArray), .l []]) (
 Lqg (some 4) [.s a0, .s a1, .i (IntKind.i64.wrap (a2 + 1)), .i a3, .i a4, .i a5, .i a6, .l a7, .l a8, .i a9, .s a10, .s a11, .i a12, .s a13, .l a14, .i a15, .i a16, .i a17, .i a18, .i a19, .s a20, .i a21, .s a22, .s a23, .l a24, .l a25, .l a26, .l a27])) (
 none)) (
 (Lqf none [.i a3, .i a4, .i a5, .i a6, .l a7, .l a8, .l a24, .s a1]).bind fun y2 =>
 cond (decide (0 ≤ (g y2 0).int)) (
 cond (inb ((g y2 0).int) a7.length) (
 (Lqt none [.s ((rd a7 (((g y2 0).int).toNat) 2).str), .l ((rd a7 (((g y2 0).int).toNat) 3).list), .i a3]).bind fun y3 =>
 cond (!Eng.seq ((g y3 0).str) a0) (
 some [.i 3, .i 0, .i 0, .i 0, .i 0, .l ([]), .l ([]), .s (⟨#[]⟩ : ByteArray), .i 0, .s ((g y3 0).str), .s a0, .l []]) (
 (Lqbx none [.i a3, .i a4, .i a5, .i a6, .l a7, .l a8, .s a1, .i a12, .l a24]).bind fun y4 =>
 cond ((g y4 0).int == 0) (
 some [.i ((g y4 0).int), .i ((g y4 1).int), .i ((g y4 2).int), .i ((g y4 3).int), .i ((g y4 4).int), .l ((g y4 5).list), .l ((g y4 6).list), .s a1, .i ((g y4 8).int), .s ((g y4 9).str), .s ((g y4 10).str), .l ((g y4 11).list)]) (
 some [.i ((g y4 0).int), .i ((g y4 1).int), .i ((g y4 2).int), .i ((g y4 3).int), .i ((g y4 4).int), .l ((g y4 5).list), .l ((g y4 6).list), .s ((g y4 7).str), .i ((g y4 8).int), .s ((g y4 9).str), .s ((g y4 10).str), .l ((g y4 11).list)]))) (
 none)) (
 cond (decide (600 ≤ (a7.length : Int))) (
 some [.i 4, .i 0, .i 0, .i 0, .i 0, .l ([]), .l ([]), .s (⟨#[]⟩ : ByteArray), .i 0, .s (⟨#[]⟩ : ByteArray), .s (⟨#[]⟩ : ByteArray), .l []]) (
 cond (decide (1000000000 ≤ a6)) (
 some [.i 4, .i 0, .i 0, .i 0, .i 0, .l ([]), .l ([]), .s (⟨#[]⟩ : ByteArray), .i 0, .s (⟨#[]⟩ : ByteArray), .s (⟨#[]⟩ : ByteArray), .l []]) (
 (Lqb2 none [.s a13, .l a14]).bind fun y5 =>
 Lqg (some 20) [.s a1, .b false, .i 0, .i a3, .i a4, .i a5, .i (IntKind.i64.wrap (a6 + 1)), .l a7, .l a8, .i a9, .s a10, .s a11, .i a12, .s a13, .l a14, .i a15, .i a16, .i a17, .i a18, .i a19, .s a20, .i a21, .s a22, .s a23, .l ([] : Rw), .s a1, .i (IntKind.i64.wrap (a6 + 1)), .s ((g y5 0).str), .l ((g y5 1).list), .l a24, .l a25, .l a26, .l a27])))) := (zb _ _).trans (by kernel_rfl)
theorem eqg_20 (a0 : ByteArray) (a1 : Bool) (a2 a3 a4 a5 a6 : Int) (a7 a8 : Rw) (a9 : Int) (a10 a11 : ByteArray) (a12 : Int) (a13 : ByteArray) (a14 : Rw) (a15 a16 a17 a18 a19 : Int) (a20 : ByteArray) (a21 : Int) (a22 a23 : ByteArray) (a24 : Rw) (a25 : ByteArray) (a26 : Int) (a27 : ByteArray) (a28 a29 a30 a31 a32 : Rw) : Lqg (some 20) [.s a0, .b a1, .i a2, .i a3, .i a4, .i a5, .i a6, .l a7, .l a8, .i a9, .s a10, .s a11, .i a12, .s a13, .l a14, .i a15, .i a16, .i a17, .i a18, .i a19, .s a20, .i a21, .s a22, .s a23, .l a24, .s a25, .i a26, .s a27, .l a28, .l a29, .l a30, .l a31, .l a32] =
 cond (decide (a2 < (a7.length : Int))) (
 cond (!a1) (
 cond (inb a2 a7.length) (
 cond (!(slt ((rd a7 a2.toNat 0).str) a0 || Eng.seq ((rd a7 a2.toNat 0).str) a0)) (
 cond (decide (a24.length + ([[.s a25, .i a26, .s a27, .l a28]] : Rw).length ≤ most)) (
 cond (inb a2 a7.length) (
 cond (decide ((a24 ++ ([[.s a25, .i a26, .s a27, .l a28]] : Rw)).length + ([[.s ((rd a7 a2.toNat 0).str), .i ((rd a7 a2.toNat 1).int), .s ((rd a7 a2.toNat 2).str), .l ((rd a7 a2.toNat 3).list)]] : Rw).length ≤ most)) (
 Lqg (some 20) [.s a0, .b true, .i (IntKind.i64.wrap (a2 + 1)), .i a3, .i a4, .i a5, .i a6, .l a7, .l a8, .i a9, .s a10, .s a11, .i a12, .s a13, .l a14, .i a15, .i a16, .i a17, .i a18, .i a19, .s a20, .i a21, .s a22, .s a23, .l ((a24 ++ ([[.s a25, .i a26, .s a27, .l a28]] : Rw)) ++ ([[.s ((rd a7 a2.toNat 0).str), .i ((rd a7 a2.toNat 1).int), .s ((rd a7 a2.toNat 2).str), .l ((rd a7 a2.toNat 3).list)]] : Rw)), .s a25, .i a26, .s a27, .l a28, .l a29, .l a30, .l a31, .l a32]) (
 none)) (
 none)) (
 none)) (
 cond (inb a2 a7.length) (
 cond (decide (a24.length + ([[.s ((rd a7 a2.toNat 0).str), .i ((rd a7 a2.toNat 1).int), .s ((rd a7 a2.toNat 2).str), .l ((rd a7 a2.toNat 3).list)]] : Rw).length ≤ most)) (
 Lqg (some 20) [.s a0, .b a1, .i (IntKind.i64.wrap (a2 + 1)), .i a3, .i a4, .i a5, .i a6, .l a7, .l a8, .i a9, .s a10, .s a11, .i a12, .s a13, .l a14, .i a15, .i a16, .i a17, .i a18, .i a19, .s a20, .i a21, .s a22, .s a23, .l (a24 ++ ([[.s ((rd a7 a2.toNat 0).str), .i ((rd a7 a2.toNat 1).int), .s ((rd a7 a2.toNat 2).str), .l ((rd a7 a2.toNat 3).list)]] : Rw)), .s a25, .i a26, .s a27, .l a28, .l a29, .l a30, .l a31, .l a32]) (
 none)) (
 none))) (
 none)) (
 cond (inb a2 a7.length) (
 cond (decide (a24.length + ([[.s ((rd a7 a2.toNat 0).str), .i ((rd a7 a2.toNat 1).int), .s ((rd a7 a2.toNat 2).str), .l ((rd a7 a2.toNat 3).list)]] : Rw).length ≤ most)) (
 Lqg (some 20) [.s a0, .b a1, .i (IntKind.i64.wrap (a2 + 1)), .i a3, .i a4, .i a5, .i a6, .l a7, .l a8, .i a9, .s a10, .s a11, .i a12, .s a13, .l a14, .i a15, .i a16, .i a17, .i a18, .i a19, .s a20, .i a21, .s a22, .s a23, .l (a24 ++ ([[.s ((rd a7 a2.toNat 0).str), .i ((rd a7 a2.toNat 1).int), .s ((rd a7 a2.toNat 2).str), .l ((rd a7 a2.toNat 3).list)]] : Rw)), .s a25, .i a26, .s a27, .l a28, .l a29, .l a30, .l a31, .l a32]) (
 none)) (
 none))) (
 cond (!a1) (
 cond (decide (a24.length + ([[.s a25, .i a26, .s a27, .l a28]] : Rw).length ≤ most)) (
 (Lqbx none [.i a3, .i a4, .i a5, .i a6, .l (a24 ++ ([[.s a25, .i a26, .s a27, .l a28]] : Rw)), .l a8, .s a0, .i a12, .l a29]).bind fun y1 =>
 cond ((g y1 0).int == 0) (
 some [.i ((g y1 0).int), .i ((g y1 1).int), .i ((g y1 2).int), .i ((g y1 3).int), .i ((g y1 4).int), .l ((g y1 5).list), .l ((g y1 6).list), .s a0, .i ((g y1 8).int), .s ((g y1 9).str), .s ((g y1 10).str), .l ((g y1 11).list)]) (
 some [.i ((g y1 0).int), .i ((g y1 1).int), .i ((g y1 2).int), .i ((g y1 3).int), .i ((g y1 4).int), .l ((g y1 5).list), .l ((g y1 6).list), .s ((g y1 7).str), .i ((g y1 8).int), .s ((g y1 9).str), .s ((g y1 10).str), .l ((g y1 11).list)])) (
 none)) (
 (Lqbx none [.i a3, .i a4, .i a5, .i a6, .l a24, .l a8, .s a0, .i a12, .l a29]).bind fun y2 =>
 cond ((g y2 0).int == 0) (
 some [.i ((g y2 0).int), .i ((g y2 1).int), .i ((g y2 2).int), .i ((g y2 3).int), .i ((g y2 4).int), .l ((g y2 5).list), .l ((g y2 6).list), .s a0, .i ((g y2 8).int), .s ((g y2 9).str), .s ((g y2 10).str), .l ((g y2 11).list)]) (
 some [.i ((g y2 0).int), .i ((g y2 1).int), .i ((g y2 2).int), .i ((g y2 3).int), .i ((g y2 4).int), .l ((g y2 5).list), .l ((g y2 6).list), .s ((g y2 7).str), .i ((g y2 8).int), .s ((g y2 9).str), .s ((g y2 10).str), .l ((g y2 11).list)]))) := (zb _ _).trans (by kernel_rfl)
theorem kqg : SigOk Try.prog (dqg.sig (Lqg none)) ∧ (dqg.sig (Lqg none)).ok = true := zg (zd kqf (by kernel_rfl) (zd kqp (by kernel_rfl) (zd kqt (by kernel_rfl) (zd kqb2 (by kernel_rfl) (zd kqbx (by kernel_rfl) zf))))) (by kernel_rfl) (by kernel_rfl) (by kernel_rfl)
def dqi : FD := { fn := 139, nb := 0, pre := ⟨[.ag [.i .i64 0, .i .i64 1, .i .i64 2, .i .i64 3, .fz 116 false 4, .fz 127 false 5, .ow 0], .ag [.i .i64 6, .s 7, .s 8, .i .i64 9, .s 10, .fz 9 false 11]], [.rw 129 false 12]⟩, post := ⟨[.ag [.i .i64 0, .i .i64 1, .i .i64 2, .i .i64 3, .i .i64 4, .fz 116 false 5, .ow 0, .ow 1, .s 6, .i .i64 7, .s 8, .s 9]], [.rw 127 true 10, .rw 129 false 11]⟩, sh := true, cuts := [⟨6, [2, 3, 4, 5, 6, 7], ⟨[.sc (.pt 0 0), .sc (.pt 1 0), .sc (.pt 2 0), .sc (.ow 3), .sc (.b 0), .sc (.i .i64 1)], [.bx [.i .i64 2, .i .i64 3, .i .i64 4, .i .i64 5, .fz 116 false 6, .fz 127 false 7, .ow 4], .bx [.i .i64 8, .s 9, .s 10, .i .i64 11, .s 12, .fz 9 false 13], .bx [.i .i64 14, .i .i64 15, .i .i64 16, .i .i64 17, .i .i64 18, .ow 5, .ow 6, .ow 7, .s 19, .i .i64 20, .s 21, .s 22], .rw 127 true 23, .rw 129 false 24, .rw 116 true 25, .rw 127 true 26, .rw 129 true 27]⟩⟩, ⟨11, [2, 3, 4, 5, 6, 7], ⟨[.sc (.pt 0 0), .sc (.pt 1 0), .sc (.pt 2 0), .sc (.ow 3), .sc (.b 0), .sc (.i .i64 1)], [.bx [.i .i64 2, .i .i64 3, .i .i64 4, .i .i64 5, .fz 116 false 6, .fz 127 false 7, .ow 4], .bx [.i .i64 8, .s 9, .s 10, .i .i64 11, .s 12, .fz 9 false 13], .bx [.i .i64 14, .i .i64 15, .i .i64 16, .i .i64 17, .i .i64 18, .ow 5, .ow 6, .ow 7, .s 19, .i .i64 20, .s 21, .s 22], .rw 127 true 23, .rw 129 false 24, .rw 116 true 25, .rw 127 true 26, .rw 129 true 27]⟩⟩] }
noncomputable def Lqi : Option Nat → Lv → Option Lv := Lim Try.prog [dqf.sig (Lqf none)] dqi Try.f139
theorem eqi_i (a0 a1 a2 a3 : Int) (a4 a5 : Rw) (a6 : Int) (a7 a8 : ByteArray) (a9 : Int) (a10 : ByteArray) (a11 a12 : Rw) : Lqi none [.i a0, .i a1, .i a2, .i a3, .l a4, .l a5, .i a6, .s a7, .s a8, .i a9, .s a10, .l a11, .l a12] =
 (Lqf none [.i a0, .i a1, .i a2, .i a3, .l a4, .l a5, .l a12, .s a7]).bind fun y1 =>
 cond (decide ((g y1 0).int < 0)) (
 some [.i 2, .i 0, .i 0, .i 0, .i 0, .l ([]), .s (⟨#[]⟩ : ByteArray), .i 0, .s (⟨#[]⟩ : ByteArray), .s (⟨#[]⟩ : ByteArray), .l [], .l []]) (
 Lqi (some 6) [.b false, .i 0, .i a0, .i a1, .i a2, .i a3, .l a4, .l a5, .i a6, .s a7, .s a8, .i a9, .s a10, .l a11, .i 0, .i 0, .i 0, .i 0, .i 0, .s (⟨#[]⟩ : ByteArray), .i 0, .s (⟨#[]⟩ : ByteArray), .s (⟨#[]⟩ : ByteArray), .l ([] : Rw), .l a12, .l [], .l [], .l []]) := (zb _ _).trans (by kernel_rfl)
theorem eqi_6 (a0 : Bool) (a1 a2 a3 a4 a5 : Int) (a6 a7 : Rw) (a8 : Int) (a9 a10 : ByteArray) (a11 : Int) (a12 : ByteArray) (a13 : Rw) (a14 a15 a16 a17 a18 : Int) (a19 : ByteArray) (a20 : Int) (a21 a22 : ByteArray) (a23 a24 a25 a26 a27 : Rw) : Lqi (some 6) [.b a0, .i a1, .i a2, .i a3, .i a4, .i a5, .l a6, .l a7, .i a8, .s a9, .s a10, .i a11, .s a12, .l a13, .i a14, .i a15, .i a16, .i a17, .i a18, .s a19, .i a20, .s a21, .s a22, .l a23, .l a24, .l a25, .l a26, .l a27] =
 cond (decide (a1 < (a7.length : Int))) (
 cond (!a0) (
 cond (inb a1 a7.length) (
 cond (!slt ((rd a7 a1.toNat 0).str) a10) (
 cond (decide (a23.length + ([[.s a10, .s a9]] : Rw).length ≤ most)) (
 Lqi (some 11) [.b true, .i a1, .i a2, .i a3, .i a4, .i a5, .l a6, .l a7, .i a8, .s a9, .s a10, .i a11, .s a12, .l a13, .i a14, .i a15, .i a16, .i a17, .i a18, .s a19, .i a20, .s a21, .s a22, .l (a23 ++ ([[.s a10, .s a9]] : Rw)), .l a24, .l a25, .l a26, .l a27]) (
 none)) (
 Lqi (some 11) [.b a0, .i a1, .i a2, .i a3, .i a4, .i a5, .l a6, .l a7, .i a8, .s a9, .s a10, .i a11, .s a12, .l a13, .i a14, .i a15, .i a16, .i a17, .i a18, .s a19, .i a20, .s a21, .s a22, .l a23, .l a24, .l a25, .l a26, .l a27])) (
 none)) (
 Lqi (some 11) [.b a0, .i a1, .i a2, .i a3, .i a4, .i a5, .l a6, .l a7, .i a8, .s a9, .s a10, .i a11, .s a12, .l a13, .i a14, .i a15, .i a16, .i a17, .i a18, .s a19, .i a20, .s a21, .s a22, .l a23, .l a24, .l a25, .l a26, .l a27])) (
 cond (!a0) (
 cond (decide (a23.length + ([[.s a10, .s a9]] : Rw).length ≤ most)) (
 cond (decide (100 < ((a23 ++ ([[.s a10, .s a9]] : Rw)).length : Int))) (
 some [.i 4, .i 0, .i 0, .i 0, .i 0, .l ([]), .s (⟨#[]⟩ : ByteArray), .i 0, .s (⟨#[]⟩ : ByteArray), .s (⟨#[]⟩ : ByteArray), .l [], .l []]) (
 some [.i 0, .i a2, .i a3, .i a4, .i a5, .l a6, .s (⟨#[]⟩ : ByteArray), .i 0, .s (⟨#[]⟩ : ByteArray), .s (⟨#[]⟩ : ByteArray), .l (a23 ++ ([[.s a10, .s a9]] : Rw)), .l a24])) (
 none)) (
 cond (decide (100 < (a23.length : Int))) (
 some [.i 4, .i 0, .i 0, .i 0, .i 0, .l ([]), .s (⟨#[]⟩ : ByteArray), .i 0, .s (⟨#[]⟩ : ByteArray), .s (⟨#[]⟩ : ByteArray), .l [], .l []]) (
 some [.i 0, .i a2, .i a3, .i a4, .i a5, .l a6, .s (⟨#[]⟩ : ByteArray), .i 0, .s (⟨#[]⟩ : ByteArray), .s (⟨#[]⟩ : ByteArray), .l a23, .l a24]))) := (zb _ _).trans (by kernel_rfl)
theorem eqi_11 (a0 : Bool) (a1 a2 a3 a4 a5 : Int) (a6 a7 : Rw) (a8 : Int) (a9 a10 : ByteArray) (a11 : Int) (a12 : ByteArray) (a13 : Rw) (a14 a15 a16 a17 a18 : Int) (a19 : ByteArray) (a20 : Int) (a21 a22 : ByteArray) (a23 a24 a25 a26 a27 : Rw) : Lqi (some 11) [.b a0, .i a1, .i a2, .i a3, .i a4, .i a5, .l a6, .l a7, .i a8, .s a9, .s a10, .i a11, .s a12, .l a13, .i a14, .i a15, .i a16, .i a17, .i a18, .s a19, .i a20, .s a21, .s a22, .l a23, .l a24, .l a25, .l a26, .l a27] =
 cond (inb a1 a7.length) (
 cond (!Eng.seq ((rd a7 a1.toNat 0).str) a10) (
 cond (inb a1 a7.length) (
 cond (decide (a23.length + ([[.s ((rd a7 a1.toNat 0).str), .s ((rd a7 a1.toNat 1).str)]] : Rw).length ≤ most)) (
 Lqi (some 6) [.b a0, .i (IntKind.i64.wrap (a1 + 1)), .i a2, .i a3, .i a4, .i a5, .l a6, .l a7, .i a8, .s a9, .s a10, .i a11, .s a12, .l a13, .i a14, .i a15, .i a16, .i a17, .i a18, .s a19, .i a20, .s a21, .s a22, .l (a23 ++ ([[.s ((rd a7 a1.toNat 0).str), .s ((rd a7 a1.toNat 1).str)]] : Rw)), .l a24, .l a25, .l a26, .l a27]) (
 none)) (
 none)) (
 Lqi (some 6) [.b a0, .i (IntKind.i64.wrap (a1 + 1)), .i a2, .i a3, .i a4, .i a5, .l a6, .l a7, .i a8, .s a9, .s a10, .i a11, .s a12, .l a13, .i a14, .i a15, .i a16, .i a17, .i a18, .s a19, .i a20, .s a21, .s a22, .l a23, .l a24, .l a25, .l a26, .l a27])) (
 none) := (zb _ _).trans (by kernel_rfl)
theorem kqi : SigOk Try.prog (dqi.sig (Lqi none)) ∧ (dqi.sig (Lqi none)).ok = true := zg (zd kqf (by kernel_rfl) zf) (by kernel_rfl) (by kernel_rfl) (by kernel_rfl)
def dq5 : FD := { fn := 140, nb := 0, pre := ⟨[.ag [.i .i64 0, .i .i64 1, .i .i64 2, .i .i64 3, .fz 116 false 4, .fz 127 false 5, .ow 0], .sc (.s 6)], [.rw 129 false 7]⟩, post := ⟨[.ag [.i .i64 0, .i .i64 1, .i .i64 2, .i .i64 3, .i .i64 4, .fz 116 false 5, .ow 0, .ow 1, .s 6, .i .i64 7, .s 8, .s 9]], [.rw 127 true 10, .rw 129 false 11]⟩, sh := true, cuts := [⟨3, [1, 2, 4, 5, 6], ⟨[.sc (.s 0), .sc (.pt 0 0), .sc (.pt 1 0), .sc (.ow 2), .sc (.i .i64 1)], [.bx [.i .i64 2, .i .i64 3, .i .i64 4, .i .i64 5, .fz 116 false 6, .fz 127 false 7, .ow 3], .bx [.i .i64 8, .i .i64 9, .i .i64 10, .i .i64 11, .i .i64 12, .ow 4, .ow 5, .ow 6, .s 13, .i .i64 14, .s 15, .s 16], .rw 127 true 17, .rw 129 false 18, .rw 116 true 19, .rw 127 true 20, .rw 129 true 21]⟩⟩] }
noncomputable def Lq5 : Option Nat → Lv → Option Lv := Lim Try.prog [] dq5 Try.f140
theorem eq5_i (a0 a1 a2 a3 : Int) (a4 a5 : Rw) (a6 : ByteArray) (a7 : Rw) : Lq5 none [.i a0, .i a1, .i a2, .i a3, .l a4, .l a5, .s a6, .l a7] =
 Lq5 (some 3) [.s a6, .i 0, .i a0, .i a1, .i a2, .i a3, .l a4, .l a5, .i 0, .i 0, .i 0, .i 0, .i 0, .s (⟨#[]⟩ : ByteArray), .i 0, .s (⟨#[]⟩ : ByteArray), .s (⟨#[]⟩ : ByteArray), .l ([] : Rw), .l a7, .l [], .l [], .l []] := (zb _ _).trans (by kernel_rfl)
theorem eq5_3 (a0 : ByteArray) (a1 a2 a3 a4 a5 : Int) (a6 a7 : Rw) (a8 a9 a10 a11 a12 : Int) (a13 : ByteArray) (a14 : Int) (a15 a16 : ByteArray) (a17 a18 a19 a20 a21 : Rw) : Lq5 (some 3) [.s a0, .i a1, .i a2, .i a3, .i a4, .i a5, .l a6, .l a7, .i a8, .i a9, .i a10, .i a11, .i a12, .s a13, .i a14, .s a15, .s a16, .l a17, .l a18, .l a19, .l a20, .l a21] =
 cond (decide (a1 < (a7.length : Int))) (
 cond (inb a1 a7.length) (
 cond (!Eng.seq ((rd a7 a1.toNat 0).str) a0) (
 cond (inb a1 a7.length) (
 cond (decide (a17.length + ([[.s ((rd a7 a1.toNat 0).str), .s ((rd a7 a1.toNat 1).str)]] : Rw).length ≤ most)) (
 Lq5 (some 3) [.s a0, .i (IntKind.i64.wrap (a1 + 1)), .i a2, .i a3, .i a4, .i a5, .l a6, .l a7, .i a8, .i a9, .i a10, .i a11, .i a12, .s a13, .i a14, .s a15, .s a16, .l (a17 ++ ([[.s ((rd a7 a1.toNat 0).str), .s ((rd a7 a1.toNat 1).str)]] : Rw)), .l a18, .l a19, .l a20, .l a21]) (
 none)) (
 none)) (
 Lq5 (some 3) [.s a0, .i (IntKind.i64.wrap (a1 + 1)), .i a2, .i a3, .i a4, .i a5, .l a6, .l a7, .i a8, .i a9, .i a10, .i a11, .i a12, .s a13, .i a14, .s a15, .s a16, .l a17, .l a18, .l a19, .l a20, .l a21])) (
 none)) (
 cond ((a17.length : Int) == (a7.length : Int)) (
 some [.i 5, .i 0, .i 0, .i 0, .i 0, .l ([]), .s (⟨#[]⟩ : ByteArray), .i 0, .s (⟨#[]⟩ : ByteArray), .s (⟨#[]⟩ : ByteArray), .l [], .l []]) (
 some [.i 0, .i a2, .i a3, .i a4, .i a5, .l a6, .s (⟨#[]⟩ : ByteArray), .i 0, .s (⟨#[]⟩ : ByteArray), .s (⟨#[]⟩ : ByteArray), .l a17, .l a18])) := (zb _ _).trans (by kernel_rfl)
theorem kq5 : SigOk Try.prog (dq5.sig (Lq5 none)) ∧ (dq5.sig (Lq5 none)).ok = true := zg zf (by kernel_rfl) (by kernel_rfl) (by kernel_rfl)
def dq6 : FD := { fn := 142, nb := 0, pre := ⟨[.ag [.i .i64 0, .i .i64 1, .i .i64 2, .i .i64 3, .fz 116 false 4, .fz 127 false 5, .ow 0], .sc (.i .i64 6)], [.rw 129 false 7]⟩, post := ⟨[.ag [.i .i64 0, .i .i64 1, .i .i64 2, .i .i64 3, .i .i64 4, .fz 116 false 5, .fz 127 false 6, .ow 0, .s 7, .i .i64 8, .s 9, .s 10]], [.rw 129 true 11]⟩, sh := true, cuts := [⟨3, [1, 2, 4, 5, 6], ⟨[.sc (.i .i64 0), .sc (.pt 0 0), .sc (.pt 1 0), .sc (.ow 2), .sc (.i .i64 1)], [.bx [.i .i64 2, .i .i64 3, .i .i64 4, .i .i64 5, .fz 116 false 6, .fz 127 false 7, .ow 3], .bx [.i .i64 8, .i .i64 9, .i .i64 10, .i .i64 11, .i .i64 12, .ow 4, .ow 5, .ow 6, .s 13, .i .i64 14, .s 15, .s 16], .rw 129 true 17, .rw 129 false 18, .rw 116 true 19, .rw 127 true 20, .rw 129 true 21]⟩⟩] }
noncomputable def Lq6 : Option Nat → Lv → Option Lv := Lim Try.prog [] dq6 Try.f142
theorem eq6_i (a0 a1 a2 a3 : Int) (a4 a5 : Rw) (a6 : Int) (a7 : Rw) : Lq6 none [.i a0, .i a1, .i a2, .i a3, .l a4, .l a5, .i a6, .l a7] =
 Lq6 (some 3) [.i a6, .i 0, .i a0, .i a1, .i a2, .i a3, .l a4, .l a5, .i 0, .i 0, .i 0, .i 0, .i 0, .s (⟨#[]⟩ : ByteArray), .i 0, .s (⟨#[]⟩ : ByteArray), .s (⟨#[]⟩ : ByteArray), .l ([] : Rw), .l a7, .l [], .l [], .l []] := (zb _ _).trans (by kernel_rfl)
theorem eq6_3 (a0 a1 a2 a3 a4 a5 : Int) (a6 a7 : Rw) (a8 a9 a10 a11 a12 : Int) (a13 : ByteArray) (a14 : Int) (a15 a16 : ByteArray) (a17 a18 a19 a20 a21 : Rw) : Lq6 (some 3) [.i a0, .i a1, .i a2, .i a3, .i a4, .i a5, .l a6, .l a7, .i a8, .i a9, .i a10, .i a11, .i a12, .s a13, .i a14, .s a15, .s a16, .l a17, .l a18, .l a19, .l a20, .l a21] =
 cond (decide (a1 < (a18.length : Int))) (
 cond (inb a1 a18.length) (
 cond ((rd a18 a1.toNat 0).int != a0) (
 cond (inb a1 a18.length) (
 cond (decide (a17.length + ([[.i ((rd a18 a1.toNat 0).int), .s ((rd a18 a1.toNat 1).str), .i ((rd a18 a1.toNat 2).int)]] : Rw).length ≤ most)) (
 Lq6 (some 3) [.i a0, .i (IntKind.i64.wrap (a1 + 1)), .i a2, .i a3, .i a4, .i a5, .l a6, .l a7, .i a8, .i a9, .i a10, .i a11, .i a12, .s a13, .i a14, .s a15, .s a16, .l (a17 ++ ([[.i ((rd a18 a1.toNat 0).int), .s ((rd a18 a1.toNat 1).str), .i ((rd a18 a1.toNat 2).int)]] : Rw)), .l a18, .l a19, .l a20, .l a21]) (
 none)) (
 none)) (
 Lq6 (some 3) [.i a0, .i (IntKind.i64.wrap (a1 + 1)), .i a2, .i a3, .i a4, .i a5, .l a6, .l a7, .i a8, .i a9, .i a10, .i a11, .i a12, .s a13, .i a14, .s a15, .s a16, .l a17, .l a18, .l a19, .l a20, .l a21])) (
 none)) (
 cond ((a17.length : Int) == (a18.length : Int)) (
 some [.i 5, .i 0, .i 0, .i 0, .i 0, .l ([]), .l ([]), .s (⟨#[]⟩ : ByteArray), .i 0, .s (⟨#[]⟩ : ByteArray), .s (⟨#[]⟩ : ByteArray), .l []]) (
 some [.i 0, .i a2, .i a3, .i a4, .i a5, .l a6, .l a7, .s (⟨#[]⟩ : ByteArray), .i 0, .s (⟨#[]⟩ : ByteArray), .s (⟨#[]⟩ : ByteArray), .l a17])) := (zb _ _).trans (by kernel_rfl)
theorem kq6 : SigOk Try.prog (dq6.sig (Lq6 none)) ∧ (dq6.sig (Lq6 none)).ok = true := zg zf (by kernel_rfl) (by kernel_rfl) (by kernel_rfl)
def dq7 : FD := { fn := 143, nb := 0, pre := ⟨[.ag [.i .i64 0, .i .i64 1, .i .i64 2, .i .i64 3, .fz 116 false 4, .fz 127 false 5, .ow 0], .sc (.i .i64 6)], [.rw 129 false 7]⟩, post := ⟨[.ag [.i .i64 0, .i .i64 1, .i .i64 2, .i .i64 3, .i .i64 4, .fz 116 false 5, .fz 127 false 6, .ow 0, .s 7, .i .i64 8, .s 9, .s 10]], [.rw 129 true 11]⟩, sh := true, cuts := [⟨6, [2, 4, 5, 6], ⟨[.sc (.pt 0 0), .sc (.pt 1 0), .sc (.ow 2), .sc (.i .i64 0)], [.bx [.i .i64 1, .i .i64 2, .i .i64 3, .i .i64 4, .fz 116 false 5, .fz 127 false 6, .ow 3], .bx [.i .i64 7, .i .i64 8, .i .i64 9, .i .i64 10, .i .i64 11, .ow 4, .ow 5, .ow 6, .s 12, .i .i64 13, .s 14, .s 15], .rw 129 true 16, .rw 129 false 17, .rw 116 true 18, .rw 127 true 19, .rw 129 true 20]⟩⟩] }
noncomputable def Lq7 : Option Nat → Lv → Option Lv := Lim Try.prog [] dq7 Try.f143
theorem eq7_i (a0 a1 a2 a3 : Int) (a4 a5 : Rw) (a6 : Int) (a7 : Rw) : Lq7 none [.i a0, .i a1, .i a2, .i a3, .l a4, .l a5, .i a6, .l a7] =
 cond (decide (1000000000 < (IntKind.i64.wrap (a1 + a6)))) (
 some [.i 4, .i 0, .i 0, .i 0, .i 0, .l ([]), .l ([]), .s (⟨#[]⟩ : ByteArray), .i 0, .s (⟨#[]⟩ : ByteArray), .s (⟨#[]⟩ : ByteArray), .l []]) (
 Lq7 (some 6) [.i 0, .i a0, .i (IntKind.i64.wrap (a1 + a6)), .i a2, .i a3, .l a4, .l a5, .i 0, .i 0, .i 0, .i 0, .i 0, .s (⟨#[]⟩ : ByteArray), .i 0, .s (⟨#[]⟩ : ByteArray), .s (⟨#[]⟩ : ByteArray), .l ([] : Rw), .l a7, .l [], .l [], .l []]) := (zb _ _).trans (by kernel_rfl)
theorem eq7_6 (a0 a1 a2 a3 a4 : Int) (a5 a6 : Rw) (a7 a8 a9 a10 a11 : Int) (a12 : ByteArray) (a13 : Int) (a14 a15 : ByteArray) (a16 a17 a18 a19 a20 : Rw) : Lq7 (some 6) [.i a0, .i a1, .i a2, .i a3, .i a4, .l a5, .l a6, .i a7, .i a8, .i a9, .i a10, .i a11, .s a12, .i a13, .s a14, .s a15, .l a16, .l a17, .l a18, .l a19, .l a20] =
 cond (decide (a0 < (a17.length : Int))) (
 cond (inb a0 a17.length) (
 cond (decide (a2 < (rd a17 a0.toNat 2).int)) (
 cond (inb a0 a17.length) (
 cond (decide (a16.length + ([[.i ((rd a17 a0.toNat 0).int), .s ((rd a17 a0.toNat 1).str), .i ((rd a17 a0.toNat 2).int)]] : Rw).length ≤ most)) (
 Lq7 (some 6) [.i (IntKind.i64.wrap (a0 + 1)), .i a1, .i a2, .i a3, .i a4, .l a5, .l a6, .i a7, .i a8, .i a9, .i a10, .i a11, .s a12, .i a13, .s a14, .s a15, .l (a16 ++ ([[.i ((rd a17 a0.toNat 0).int), .s ((rd a17 a0.toNat 1).str), .i ((rd a17 a0.toNat 2).int)]] : Rw)), .l a17, .l a18, .l a19, .l a20]) (
 none)) (
 none)) (
 Lq7 (some 6) [.i (IntKind.i64.wrap (a0 + 1)), .i a1, .i a2, .i a3, .i a4, .l a5, .l a6, .i a7, .i a8, .i a9, .i a10, .i a11, .s a12, .i a13, .s a14, .s a15, .l a16, .l a17, .l a18, .l a19, .l a20])) (
 none)) (
 some [.i 0, .i a1, .i a2, .i a3, .i a4, .l a5, .l a6, .s (⟨#[]⟩ : ByteArray), .i 0, .s (⟨#[]⟩ : ByteArray), .s (⟨#[]⟩ : ByteArray), .l a16]) := (zb _ _).trans (by kernel_rfl)
theorem kq7 : SigOk Try.prog (dq7.sig (Lq7 none)) ∧ (dq7.sig (Lq7 none)).ok = true := zg zf (by kernel_rfl) (by kernel_rfl) (by kernel_rfl)
def dqbn : FD := { fn := 81, nb := 0, pre := ⟨[.sc (.fz 9 false 0), .sc (.s 1)], []⟩, post := ⟨[.sc (.b 0)], []⟩, sh := false, cuts := [⟨2, [0, 1, 5], ⟨[.sc (.fz 9 false 0), .sc (.s 1), .sc (.i .i64 2)], []⟩⟩] }
noncomputable def Lqbn : Option Nat → Lv → Option Lv := Lim Try.prog [] dqbn Try.f81
theorem eqbn_i (a0 : Rw) (a1 : ByteArray) : Lqbn none [.l a0, .s a1] =
 Lqbn (some 2) [.l a0, .s a1, .i 0] := (zb _ _).trans (by kernel_rfl)
theorem eqbn_2 (a0 : Rw) (a1 : ByteArray) (a2 : Int) : Lqbn (some 2) [.l a0, .s a1, .i a2] =
 cond (decide (a2 < (a0.length : Int))) (
 cond (inb a2 a0.length) (
 cond (Eng.seq ((rd a0 a2.toNat 0).str) a1) (
 some [.b true]) (
 Lqbn (some 2) [.l a0, .s a1, .i (IntKind.i64.wrap (a2 + 1))])) (
 none)) (
 some [.b false]) := (zb _ _).trans (by kernel_rfl)
theorem kqbn : SigOk Try.prog (dqbn.sig (Lqbn none)) ∧ (dqbn.sig (Lqbn none)).ok = true := zg zf (by kernel_rfl) (by kernel_rfl) (by kernel_rfl)
def dqk : FD := { fn := 170, nb := 0, pre := ⟨[.ag [.i .i64 0, .i .i64 1, .i .i64 2, .i .i64 3, .fz 116 false 4, .fz 127 false 5, .fz 129 false 6], .sc (.s 7)], []⟩, post := ⟨[.sc (.b 0)], []⟩, sh := false, cuts := [⟨2, [1, 2, 5], ⟨[.sc (.s 0), .sc (.pt 0 0), .sc (.i .i64 1)], [.bx [.i .i64 2, .i .i64 3, .i .i64 4, .i .i64 5, .fz 116 false 6, .fz 127 false 7, .fz 129 false 8]]⟩⟩, ⟨7, [1, 2, 6], ⟨[.sc (.s 0), .sc (.pt 0 0), .sc (.i .i64 1)], [.bx [.i .i64 2, .i .i64 3, .i .i64 4, .i .i64 5, .fz 116 false 6, .fz 127 false 7, .fz 129 false 8]]⟩⟩] }
noncomputable def Lqk : Option Nat → Lv → Option Lv := Lim Try.prog [] dqk Try.f170
theorem eqk_i (a0 a1 a2 a3 : Int) (a4 a5 a6 : Rw) (a7 : ByteArray) : Lqk none [.i a0, .i a1, .i a2, .i a3, .l a4, .l a5, .l a6, .s a7] =
 Lqk (some 2) [.s a7, .i 0, .i a0, .i a1, .i a2, .i a3, .l a4, .l a5, .l a6] := (zb _ _).trans (by kernel_rfl)
theorem eqk_2 (a0 : ByteArray) (a1 a2 a3 a4 a5 : Int) (a6 a7 a8 : Rw) : Lqk (some 2) [.s a0, .i a1, .i a2, .i a3, .i a4, .i a5, .l a6, .l a7, .l a8] =
 cond (decide (a1 < (a7.length : Int))) (
 cond (inb a1 a7.length) (
 cond (Eng.seq ((rd a7 a1.toNat 1).str) a0) (
 some [.b true]) (
 Lqk (some 2) [.s a0, .i (IntKind.i64.wrap (a1 + 1)), .i a2, .i a3, .i a4, .i a5, .l a6, .l a7, .l a8])) (
 none)) (
 Lqk (some 7) [.s a0, .i 0, .i a2, .i a3, .i a4, .i a5, .l a6, .l a7, .l a8]) := (zb _ _).trans (by kernel_rfl)
theorem eqk_7 (a0 : ByteArray) (a1 a2 a3 a4 a5 : Int) (a6 a7 a8 : Rw) : Lqk (some 7) [.s a0, .i a1, .i a2, .i a3, .i a4, .i a5, .l a6, .l a7, .l a8] =
 cond (decide (a1 < (a8.length : Int))) (
 cond (inb a1 a8.length) (
 cond (Eng.seq ((rd a8 a1.toNat 1).str) a0) (
 some [.b true]) (
 Lqk (some 7) [.s a0, .i (IntKind.i64.wrap (a1 + 1)), .i a2, .i a3, .i a4, .i a5, .l a6, .l a7, .l a8])) (
 none)) (
 some [.b false]) := (zb _ _).trans (by kernel_rfl)
theorem kqk : SigOk Try.prog (dqk.sig (Lqk none)) ∧ (dqk.sig (Lqk none)).ok = true := zg zf (by kernel_rfl) (by kernel_rfl) (by kernel_rfl)
def dqj : FD := { fn := 144, nb := 0, pre := ⟨[.ag [.i .i64 0, .i .i64 1, .i .i64 2, .i .i64 3, .fz 116 false 4, .fz 127 false 5, .ow 0], .sc (.s 6)], [.rw 129 false 7]⟩, post := ⟨[.ag [.i .i64 0, .i .i64 1, .i .i64 2, .i .i64 3, .i .i64 4, .ow 0, .fz 127 false 5, .ow 1, .s 6, .i .i64 7, .s 8, .s 9]], [.rw 116 false 10, .rw 129 false 11]⟩, sh := true, cuts := [⟨7, [1, 2, 4, 5, 6], ⟨[.sc (.s 0), .sc (.pt 0 0), .sc (.pt 1 0), .sc (.ow 2), .sc (.i .i64 1)], [.bx [.i .i64 2, .i .i64 3, .i .i64 4, .i .i64 5, .fz 116 false 6, .fz 127 false 7, .ow 3], .bx [.i .i64 8, .i .i64 9, .i .i64 10, .i .i64 11, .i .i64 12, .ow 4, .ow 5, .ow 6, .s 13, .i .i64 14, .s 15, .s 16], .rw 116 false 17, .rw 129 false 18, .rw 116 true 19, .rw 127 true 20, .rw 129 true 21]⟩⟩] }
noncomputable def Lqj : Option Nat → Lv → Option Lv := Lim Try.prog [dqf.sig (Lqf none), dqbn.sig (Lqbn none), dqk.sig (Lqk none)] dqj Try.f144
theorem eqj_i (a0 a1 a2 a3 : Int) (a4 a5 : Rw) (a6 : ByteArray) (a7 : Rw) : Lqj none [.i a0, .i a1, .i a2, .i a3, .l a4, .l a5, .s a6, .l a7] =
 (Lqf none [.i a0, .i a1, .i a2, .i a3, .l a4, .l a5, .l a7, .s a6]).bind fun y1 =>
 cond (decide ((g y1 0).int < 0)) (
 some [.i 2, .i 0, .i 0, .i 0, .i 0, .l ([]), .s (⟨#[]⟩ : ByteArray), .i 0, .s (⟨#[]⟩ : ByteArray), .s (⟨#[]⟩ : ByteArray), .l [], .l []]) (
 (Lqk none [.i a0, .i a1, .i a2, .i a3, .l a4, .l a5, .l a7, .s a6]).bind fun y2 =>
 cond ((g y2 0).bool) (
 some [.i 6, .i 0, .i 0, .i 0, .i 0, .l ([]), .s (⟨#[]⟩ : ByteArray), .i 0, .s (⟨#[]⟩ : ByteArray), .s (⟨#[]⟩ : ByteArray), .l [], .l []]) (
 Lqj (some 7) [.s a6, .i 0, .i a0, .i a1, .i a2, .i a3, .l a4, .l a5, .i 0, .i 0, .i 0, .i 0, .i 0, .s (⟨#[]⟩ : ByteArray), .i 0, .s (⟨#[]⟩ : ByteArray), .s (⟨#[]⟩ : ByteArray), .l ([] : Rw), .l a7, .l [], .l [], .l []])) := (zb _ _).trans (by kernel_rfl)
theorem eqj_7 (a0 : ByteArray) (a1 a2 a3 a4 a5 : Int) (a6 a7 : Rw) (a8 a9 a10 a11 a12 : Int) (a13 : ByteArray) (a14 : Int) (a15 a16 : ByteArray) (a17 a18 a19 a20 a21 : Rw) : Lqj (some 7) [.s a0, .i a1, .i a2, .i a3, .i a4, .i a5, .l a6, .l a7, .i a8, .i a9, .i a10, .i a11, .i a12, .s a13, .i a14, .s a15, .s a16, .l a17, .l a18, .l a19, .l a20, .l a21] =
 cond (decide (a1 < (a6.length : Int))) (
 cond (inb a1 a6.length) (
 (Lqbn none [.l ((rd a6 a1.toNat 3).list), .s a0]).bind fun y1 =>
 cond ((g y1 0).bool) (
 some [.i 6, .i 0, .i 0, .i 0, .i 0, .l ([]), .s (⟨#[]⟩ : ByteArray), .i 0, .s (⟨#[]⟩ : ByteArray), .s (⟨#[]⟩ : ByteArray), .l [], .l []]) (
 cond (inb a1 a6.length) (
 cond (!Eng.seq ((rd a6 a1.toNat 0).str) a0) (
 cond (inb a1 a6.length) (
 cond (decide (a17.length + ([[.s ((rd a6 a1.toNat 0).str), .i ((rd a6 a1.toNat 1).int), .s ((rd a6 a1.toNat 2).str), .l ((rd a6 a1.toNat 3).list)]] : Rw).length ≤ most)) (
 Lqj (some 7) [.s a0, .i (IntKind.i64.wrap (a1 + 1)), .i a2, .i a3, .i a4, .i a5, .l a6, .l a7, .i a8, .i a9, .i a10, .i a11, .i a12, .s a13, .i a14, .s a15, .s a16, .l (a17 ++ ([[.s ((rd a6 a1.toNat 0).str), .i ((rd a6 a1.toNat 1).int), .s ((rd a6 a1.toNat 2).str), .l ((rd a6 a1.toNat 3).list)]] : Rw)), .l a18, .l a19, .l a20, .l a21]) (
 none)) (
 none)) (
 Lqj (some 7) [.s a0, .i (IntKind.i64.wrap (a1 + 1)), .i a2, .i a3, .i a4, .i a5, .l a6, .l a7, .i a8, .i a9, .i a10, .i a11, .i a12, .s a13, .i a14, .s a15, .s a16, .l a17, .l a18, .l a19, .l a20, .l a21])) (
 none))) (
 none)) (
 some [.i 0, .i a2, .i a3, .i a4, .i a5, .l a7, .s (⟨#[]⟩ : ByteArray), .i 0, .s (⟨#[]⟩ : ByteArray), .s (⟨#[]⟩ : ByteArray), .l a17, .l a18]) := (zb _ _).trans (by kernel_rfl)
theorem kqj : SigOk Try.prog (dqj.sig (Lqj none)) ∧ (dqj.sig (Lqj none)).ok = true := zg (zd kqf (by kernel_rfl) (zd kqbn (by kernel_rfl) (zd kqk (by kernel_rfl) zf))) (by kernel_rfl) (by kernel_rfl) (by kernel_rfl)
def dqcm : FD := { fn := 88, nb := 0, pre := ⟨[.ag [.i .i64 0, .i .i64 1, .i .i64 2, .i .i64 3, .fz 116 false 4, .fz 127 false 5, .ow 0], .ag [.i .i64 6, .s 7, .s 8, .i .i64 9, .s 10, .fz 9 false 11]], [.rw 129 false 12]⟩, post := ⟨[.ag [.i .i64 0, .i .i64 1, .i .i64 2, .i .i64 3, .i .i64 4, .fz 116 false 5, .fz 127 false 6, .ow 0, .s 7, .i .i64 8, .s 9, .s 10]], [.rw 129 false 11]⟩, sh := true, cuts := [] }
noncomputable def Lqcm : Option Nat → Lv → Option Lv := Lim Try.prog [dqf.sig (Lqf none), dqu.sig (Lqu none), dqbx.sig (Lqbx none), dqg.sig (Lqg none), dqi.sig (Lqi none), dq5.sig (Lq5 none), dq6.sig (Lq6 none), dq7.sig (Lq7 none), dqj.sig (Lqj none)] dqcm Try.f88
theorem eqcm_i (a0 a1 a2 a3 : Int) (a4 a5 : Rw) (a6 : Int) (a7 a8 : ByteArray) (a9 : Int) (a10 : ByteArray) (a11 a12 : Rw) : Lqcm none [.i a0, .i a1, .i a2, .i a3, .l a4, .l a5, .i a6, .s a7, .s a8, .i a9, .s a10, .l a11, .l a12] =
 cond (a6 == 1) (
 (Lqg none [.i a0, .i a1, .i a2, .i a3, .l a4, .l a5, .i a6, .s a7, .s a8, .i a9, .s a10, .l a11, .l a12]).bind fun y1 =>
 some [.i ((g y1 0).int), .i ((g y1 1).int), .i ((g y1 2).int), .i ((g y1 3).int), .i ((g y1 4).int), .l ((g y1 5).list), .l ((g y1 6).list), .s ((g y1 7).str), .i ((g y1 8).int), .s ((g y1 9).str), .s ((g y1 10).str), .l ((g y1 11).list)]) (
 cond (a6 == 2) (
 (Lqi none [.i a0, .i a1, .i a2, .i a3, .l a4, .l a5, .i a6, .s a7, .s a8, .i a9, .s a10, .l a11, .l a12]).bind fun y2 =>
 some [.i ((g y2 0).int), .i ((g y2 1).int), .i ((g y2 2).int), .i ((g y2 3).int), .i ((g y2 4).int), .l ((g y2 5).list), .l ((g y2 10).list), .s ((g y2 6).str), .i ((g y2 7).int), .s ((g y2 8).str), .s ((g y2 9).str), .l ((g y2 11).list)]) (
 cond (a6 == 3) (
 (Lq5 none [.i a0, .i a1, .i a2, .i a3, .l a4, .l a5, .s a8, .l a12]).bind fun y3 =>
 some [.i ((g y3 0).int), .i ((g y3 1).int), .i ((g y3 2).int), .i ((g y3 3).int), .i ((g y3 4).int), .l ((g y3 5).list), .l ((g y3 10).list), .s ((g y3 6).str), .i ((g y3 7).int), .s ((g y3 8).str), .s ((g y3 9).str), .l ((g y3 11).list)]) (
 cond (a6 == 4) (
 (Lqf none [.i a0, .i a1, .i a2, .i a3, .l a4, .l a5, .l a12, .s a7]).bind fun y4 =>
 cond (decide ((g y4 0).int < 0)) (
 some [.i 2, .i 0, .i 0, .i 0, .i 0, .l ([]), .l ([]), .s (⟨#[]⟩ : ByteArray), .i 0, .s (⟨#[]⟩ : ByteArray), .s (⟨#[]⟩ : ByteArray), .l []]) (
 (Lqu none [.i a0, .i a1, .i a2, .i a3, .l a4, .l a5, .l a12]).bind fun y5 =>
 (Lqbx none [.i ((g y5 0).int), .i ((g y5 1).int), .i ((g y5 2).int), .i ((g y5 3).int), .l ((g y5 4).list), .l ((g y5 5).list), .s a7, .i a9, .l ((g y5 6).list)]).bind fun y6 =>
 some [.i ((g y6 0).int), .i ((g y6 1).int), .i ((g y6 2).int), .i ((g y6 3).int), .i ((g y6 4).int), .l ((g y6 5).list), .l ((g y6 6).list), .s ((g y6 7).str), .i ((g y6 8).int), .s ((g y6 9).str), .s ((g y6 10).str), .l ((g y6 11).list)])) (
 cond (a6 == 5) (
 (Lq6 none [.i a0, .i a1, .i a2, .i a3, .l a4, .l a5, .i a9, .l a12]).bind fun y7 =>
 some [.i ((g y7 0).int), .i ((g y7 1).int), .i ((g y7 2).int), .i ((g y7 3).int), .i ((g y7 4).int), .l ((g y7 5).list), .l ((g y7 6).list), .s ((g y7 7).str), .i ((g y7 8).int), .s ((g y7 9).str), .s ((g y7 10).str), .l ((g y7 11).list)]) (
 cond (a6 == 6) (
 (Lq7 none [.i a0, .i a1, .i a2, .i a3, .l a4, .l a5, .i a9, .l a12]).bind fun y8 =>
 some [.i ((g y8 0).int), .i ((g y8 1).int), .i ((g y8 2).int), .i ((g y8 3).int), .i ((g y8 4).int), .l ((g y8 5).list), .l ((g y8 6).list), .s ((g y8 7).str), .i ((g y8 8).int), .s ((g y8 9).str), .s ((g y8 10).str), .l ((g y8 11).list)]) (
 (Lqj none [.i a0, .i a1, .i a2, .i a3, .l a4, .l a5, .s a7, .l a12]).bind fun y9 =>
 some [.i ((g y9 0).int), .i ((g y9 1).int), .i ((g y9 2).int), .i ((g y9 3).int), .i ((g y9 4).int), .l ((g y9 10).list), .l ((g y9 5).list), .s ((g y9 6).str), .i ((g y9 7).int), .s ((g y9 8).str), .s ((g y9 9).str), .l ((g y9 11).list)])))))) := (zb _ _).trans (by kernel_rfl)
theorem kqcm : SigOk Try.prog (dqcm.sig (Lqcm none)) ∧ (dqcm.sig (Lqcm none)).ok = true := zg (zd kqf (by kernel_rfl) (zd kqu (by kernel_rfl) (zd kqbx (by kernel_rfl) (zd kqg (by kernel_rfl) (zd kqi (by kernel_rfl) (zd kq5 (by kernel_rfl) (zd kq6 (by kernel_rfl) (zd kq7 (by kernel_rfl) (zd kqj (by kernel_rfl) zf))))))))) (by kernel_rfl) (by kernel_rfl) (by kernel_rfl)
def dqcn : FD := { fn := 56, nb := 0, pre := ⟨[.ag [.i .i64 0, .i .i64 1, .i .i64 2, .i .i64 3, .fz 116 false 4, .fz 127 false 5, .fz 129 false 6], .ag [.i .i64 7, .s 8, .s 9, .i .i64 10, .s 11, .fz 9 false 12]], []⟩, post := ⟨[.ag [.i .i64 0, .i .i64 1, .i .i64 2, .i .i64 3, .i .i64 4, .ow 0, .ow 1, .ow 2, .s 5, .i .i64 6, .s 7, .s 8]], [.rw 116 true 9, .rw 127 true 10, .rw 129 true 11]⟩, sh := false, cuts := [] }
noncomputable def Lqcn : Option Nat → Lv → Option Lv := Lim Try.prog [dqh.sig (Lqh none), dqq.sig (Lqq none), dqu.sig (Lqu none), dqcm.sig (Lqcm none)] dqcn Try.f56
theorem eqcn_i (a0 a1 a2 a3 : Int) (a4 a5 a6 : Rw) (a7 : Int) (a8 a9 : ByteArray) (a10 : Int) (a11 : ByteArray) (a12 : Rw) : Lqcn none [.i a0, .i a1, .i a2, .i a3, .l a4, .l a5, .l a6, .i a7, .s a8, .s a9, .i a10, .s a11, .l a12] =
 (Lqh none [.i a0, .i a1, .i a2, .i a3, .l a4, .l a5, .l a6]).bind fun y1 =>
 cond (!(g y1 0).bool) (
 some [.i 1, .i 0, .i 0, .i 0, .i 0, .s (⟨#[]⟩ : ByteArray), .i 0, .s (⟨#[]⟩ : ByteArray), .s (⟨#[]⟩ : ByteArray), .l [], .l [], .l []]) (
 (Lqq none [.i a7, .s a8, .s a9, .i a10, .s a11, .l a12, .i a0]).bind fun y2 =>
 cond (!(g y2 0).bool) (
 some [.i 1, .i 0, .i 0, .i 0, .i 0, .s (⟨#[]⟩ : ByteArray), .i 0, .s (⟨#[]⟩ : ByteArray), .s (⟨#[]⟩ : ByteArray), .l [], .l [], .l []]) (
 (Lqu none [.i a0, .i a1, .i a2, .i a3, .l a4, .l a5, .l a6]).bind fun y3 =>
 (Lqcm none [.i ((g y3 0).int), .i ((g y3 1).int), .i ((g y3 2).int), .i ((g y3 3).int), .l ((g y3 4).list), .l ((g y3 5).list), .i a7, .s a8, .s a9, .i a10, .s a11, .l a12, .l ((g y3 6).list)]).bind fun y4 =>
 (Lqu none [.i ((g y4 1).int), .i ((g y4 2).int), .i ((g y4 3).int), .i ((g y4 4).int), .l ((g y4 5).list), .l ((g y4 6).list), .l ((g y4 11).list)]).bind fun y5 =>
 cond ((g y4 0).int != 0) (
 some [.i ((g y4 0).int), .i 0, .i 0, .i 0, .i 0, .s ((g y4 7).str), .i ((g y4 8).int), .s ((g y4 9).str), .s ((g y4 10).str), .l [], .l [], .l []]) (
 some [.i ((g y4 0).int), .i ((g y5 0).int), .i ((g y5 1).int), .i ((g y5 2).int), .i ((g y5 3).int), .s ((g y4 7).str), .i ((g y4 8).int), .s ((g y4 9).str), .s ((g y4 10).str), .l ((g y5 4).list), .l ((g y5 5).list), .l ((g y5 6).list)]))) := (zb _ _).trans (by kernel_rfl)
theorem kqcn : SigOk Try.prog (dqcn.sig (Lqcn none)) ∧ (dqcn.sig (Lqcn none)).ok = true := zg (zd kqh (by kernel_rfl) (zd kqq (by kernel_rfl) (zd kqu (by kernel_rfl) (zd kqcm (by kernel_rfl) zf)))) (by kernel_rfl) (by kernel_rfl) (by kernel_rfl)
def dqbo : FD := { fn := 31, nb := 0, pre := ⟨[.sc (.fz 9 false 0)], []⟩, post := ⟨[.sc (.ow 0)], [.rw 9 true 0]⟩, sh := false, cuts := [⟨3, [0, 3, 4], ⟨[.sc (.fz 9 false 0), .sc (.ow 0), .sc (.i .i64 1)], [.rw 9 true 2]⟩⟩] }
noncomputable def Lqbo : Option Nat → Lv → Option Lv := Lim Try.prog [] dqbo Try.f31
theorem eqbo_i (a0 : Rw) : Lqbo none [.l a0] =
 cond (decide (0 ≤ (a0.length : Int))) (
 cond ((a0.length : Int) == (a0.length : Int)) (
 cond (decide ((a0.length : Int) ≤ (most : Int))) (
 Lqbo (some 3) [.l a0, .i 0, .l (List.replicate (a0.length : Int).toNat ([.s (⟨#[]⟩ : ByteArray)] : List C))]) (
 none)) (
 none)) (
 none) := (zb _ _).trans (by kernel_rfl)
theorem eqbo_3 (a0 : Rw) (a1 : Int) (a2 : Rw) : Lqbo (some 3) [.l a0, .i a1, .l a2] =
 cond (decide (a1 < (a0.length : Int))) (
 cond (inb a1 a0.length) (
 cond (inb a1 a2.length) (
 Lqbo (some 3) [.l a0, .i (IntKind.i64.wrap (a1 + 1)), .l (wrs a2 a1.toNat 0 ([.s ((rd a0 a1.toNat 0).str)] : List C))]) (
 none)) (
 none)) (
 some [.l a2]) := (zb _ _).trans (by kernel_rfl)
theorem kqbo : SigOk Try.prog (dqbo.sig (Lqbo none)) ∧ (dqbo.sig (Lqbo none)).ok = true := zg zf (by kernel_rfl) (by kernel_rfl) (by kernel_rfl)
def dqcx : FD := { fn := 112, nb := 0, pre := ⟨[.ag [.s 0, .fz 9 false 1]], []⟩, post := ⟨[.ag [.s 0, .ow 0]], [.rw 9 true 1]⟩, sh := false, cuts := [] }
noncomputable def Lqcx : Option Nat → Lv → Option Lv := Lim Try.prog [dqbo.sig (Lqbo none)] dqcx Try.f112
theorem eqcx_i (a0 : ByteArray) (a1 : Rw) : Lqcx none [.s a0, .l a1] =
 (Lqbo none [.l a1]).bind fun y1 =>
 some [.s a0, .l ((g y1 0).list)] := (zb _ _).trans (by kernel_rfl)
theorem kqcx : SigOk Try.prog (dqcx.sig (Lqcx none)) ∧ (dqcx.sig (Lqcx none)).ok = true := zg (zd kqbo (by kernel_rfl) zf) (by kernel_rfl) (by kernel_rfl) (by kernel_rfl)
def dqb5 : FD := { fn := 57, nb := 0, pre := ⟨[.ag [.i .i64 0, .s 1, .s 2, .i .i64 3, .s 4, .fz 9 false 5]], []⟩, post := ⟨[.ag [.i .i64 0, .s 1, .s 2, .i .i64 3, .s 4, .ow 0]], [.rw 9 true 5]⟩, sh := false, cuts := [] }
noncomputable def Lqb5 : Option Nat → Lv → Option Lv := Lim Try.prog [dqcx.sig (Lqcx none)] dqb5 Try.f57
theorem eqb5_i (a0 : Int) (a1 a2 : ByteArray) (a3 : Int) (a4 : ByteArray) (a5 : Rw) : Lqb5 none [.i a0, .s a1, .s a2, .i a3, .s a4, .l a5] =
 (Lqcx none [.s a4, .l a5]).bind fun y1 =>
 some [.i a0, .s a1, .s a2, .i a3, .s ((g y1 0).str), .l ((g y1 1).list)] := (zb _ _).trans (by kernel_rfl)
theorem kqb5 : SigOk Try.prog (dqb5.sig (Lqb5 none)) ∧ (dqb5.sig (Lqb5 none)).ok = true := zg (zd kqcx (by kernel_rfl) zf) (by kernel_rfl) (by kernel_rfl) (by kernel_rfl)
end KV
end
section
set_option maxRecDepth 100000
namespace KV
open Go Go.Eng Go.Proofs
def dq3 : FD := { fn := 90, nb := 0, pre := ⟨[.sc (.i .i64 0)], []⟩, post := ⟨[.sc (.b 0)], []⟩, sh := false, cuts := [] }
noncomputable def Lq3 : Option Nat → Lv → Option Lv := Lim Try.prog [] dq3 Try.f90
theorem eq3_i (a0 : Int) : Lq3 none [.i a0] =
 cond (decide (1 ≤ a0)) (
 some [.b (decide (a0 ≤ 8))]) (
 some [.b false]) := (zb _ _).trans (by kernel_rfl)
theorem kq3 : SigOk Try.prog (dq3.sig (Lq3 none)) ∧ (dq3.sig (Lq3 none)).ok = true := zg zf (by kernel_rfl) (by kernel_rfl) (by kernel_rfl)
def dqcy : FD := { fn := 151, nb := 0, pre := ⟨[.sc (.i .i64 0), .sc (.pt 0 0), .sc (.pt 2 0)], [.rb [.pt 1 0], .rb [.i .i64 1, .i .i64 2, .i .i64 3, .i .i64 4, .fz 116 false 5, .fz 127 false 6, .fz 129 false 7], .rb [.s 8]]⟩, post := ⟨[.sc (.b 0)], []⟩, sh := false, cuts := [] }
noncomputable def Lqcy : Option Nat → Lv → Option Lv := Lim Try.prog [] dqcy Try.f151
theorem eqcy_i (a0 a1 a2 a3 a4 : Int) (a5 a6 a7 : Rw) (a8 : ByteArray) : Lqcy none [.i a0, .i a1, .i a2, .i a3, .i a4, .l a5, .l a6, .l a7, .s a8] =
 cond (inb a0 a5.length) (
 some [.b (!slt ((rd a5 a0.toNat 0).str) a8)]) (
 none) := (zb _ _).trans (by kernel_rfl)
theorem kqcy : SigOk Try.prog (dqcy.sig (Lqcy none)) ∧ (dqcy.sig (Lqcy none)).ok = true := zg zf (by kernel_rfl) (by kernel_rfl) (by kernel_rfl)
def dqbp : FD := { fn := 150, nb := 0, pre := ⟨[.sc (.i .i64 0), .sc (.fn 151 [(0, 0), (2, 0)])], [.rb [.pt 1 0], .rb [.i .i64 1, .i .i64 2, .i .i64 3, .i .i64 4, .fz 116 false 5, .fz 127 false 6, .fz 129 false 7], .rb [.s 8]]⟩, post := ⟨[.sc (.i .i64 0)], []⟩, sh := false, cuts := [⟨2, [1, 5, 6], ⟨[.sc (.fn 151 [(0, 0), (1, 0)]), .sc (.i .i64 0), .sc (.i .i64 1)], [.rb [.pt 2 0], .rb [.s 2], .rb [.i .i64 3, .i .i64 4, .i .i64 5, .i .i64 6, .fz 116 false 7, .fz 127 false 8, .fz 129 false 9]]⟩⟩] }
noncomputable def Lqbp : Option Nat → Lv → Option Lv := Lim Try.prog [dqcy.sig (Lqcy none)] dqbp Try.f150
theorem eqbp_i (a0 a1 a2 a3 a4 : Int) (a5 a6 a7 : Rw) (a8 : ByteArray) : Lqbp none [.i a0, .i a1, .i a2, .i a3, .i a4, .l a5, .l a6, .l a7, .s a8] =
 Lqbp (some 2) [.i 0, .i a0, .s a8, .i a1, .i a2, .i a3, .i a4, .l a5, .l a6, .l a7] := (zb _ _).trans (by kernel_rfl)
theorem eqbp_2 (a0 a1 : Int) (a2 : ByteArray) (a3 a4 a5 a6 : Int) (a7 a8 a9 : Rw) : Lqbp (some 2) [.i a0, .i a1, .s a2, .i a3, .i a4, .i a5, .i a6, .l a7, .l a8, .l a9] =
 cond (decide (a0 < a1)) (
 (Lqcy none [.i (IntKind.i64.wrap ((IntKind.u64.wrap (IntKind.i64.wrap (a0 + a1))).fdiv (2 ^ 1))), .i a3, .i a4, .i a5, .i a6, .l a7, .l a8, .l a9, .s a2]).bind fun y1 =>
 cond (!(g y1 0).bool) (
 Lqbp (some 2) [.i (IntKind.i64.wrap ((IntKind.i64.wrap ((IntKind.u64.wrap (IntKind.i64.wrap (a0 + a1))).fdiv (2 ^ 1))) + 1)), .i a1, .s a2, .i a3, .i a4, .i a5, .i a6, .l a7, .l a8, .l a9]) (
 Lqbp (some 2) [.i a0, .i (IntKind.i64.wrap ((IntKind.u64.wrap (IntKind.i64.wrap (a0 + a1))).fdiv (2 ^ 1))), .s a2, .i a3, .i a4, .i a5, .i a6, .l a7, .l a8, .l a9])) (
 some [.i a0]) := (zb _ _).trans (by kernel_rfl)
theorem kqbp : SigOk Try.prog (dqbp.sig (Lqbp none)) ∧ (dqbp.sig (Lqbp none)).ok = true := zg (zd kqcy (by kernel_rfl) zf) (by kernel_rfl) (by kernel_rfl) (by kernel_rfl)
def dqbq : FD := { fn := 94, nb := 0, pre := ⟨[.sc (.pt 0 0), .sc (.s 0)], [.rb [.i .i64 1, .i .i64 2, .i .i64 3, .i .i64 4, .fz 116 false 5, .fz 127 false 6, .fz 129 false 7]]⟩, post := ⟨[.tu [(false, [.i .i64 0]), (false, [.b 1])]], []⟩, sh := false, cuts := [] }
noncomputable def Lqbq : Option Nat → Lv → Option Lv := Lim Try.prog [dqbp.sig (Lqbp none)] dqbq Try.f94
theorem eqbq_i (a0 : ByteArray) (a1 a2 a3 a4 : Int) (a5 a6 a7 : Rw) : Lqbq none [.s a0, .i a1, .i a2, .i a3, .i a4, .l a5, .l a6, .l a7] =
 (Lqbp none [.i (a5.length : Int), .i a1, .i a2, .i a3, .i a4, .l a5, .l a6, .l a7, .s a0]).bind fun y1 =>
 cond (decide ((g y1 0).int < (a5.length : Int))) (
 cond (inb ((g y1 0).int) a5.length) (
 some [.i ((g y1 0).int), .b (Eng.seq ((rd a5 (((g y1 0).int).toNat) 0).str) a0)]) (
 none)) (
 some [.i ((g y1 0).int), .b false]) := (zb _ _).trans (by kernel_rfl)
theorem kqbq : SigOk Try.prog (dqbq.sig (Lqbq none)) ∧ (dqbq.sig (Lqbq none)).ok = true := zg (zd kqbp (by kernel_rfl) zf) (by kernel_rfl) (by kernel_rfl) (by kernel_rfl)
def dqb7 : FD := { fn := 124, nb := 0, pre := ⟨[.sc (.i .i64 0)], []⟩, post := ⟨[.sc (.b 0)], []⟩, sh := false, cuts := [] }
noncomputable def Lqb7 : Option Nat → Lv → Option Lv := Lim Try.prog [] dqb7 Try.f124
theorem eqb7_i (a0 : Int) : Lqb7 none [.i a0] =
 cond (decide (0 ≤ a0)) (
 some [.b (decide (a0 ≤ 1000000000))]) (
 some [.b false]) := (zb _ _).trans (by kernel_rfl)
theorem kqb7 : SigOk Try.prog (dqb7.sig (Lqb7 none)) ∧ (dqb7.sig (Lqb7 none)).ok = true := zg zf (by kernel_rfl) (by kernel_rfl) (by kernel_rfl)
def dqr : FD := { fn := 125, nb := 0, pre := ⟨[.ag [.s 0, .fz 9 false 1], .sc (.i .i64 2)], []⟩, post := ⟨[.sc (.b 0)], []⟩, sh := false, cuts := [⟨4, [1, 2, 18, 19, 20], ⟨[.sc (.i .i64 0), .sc (.pt 0 0), .sc (.fz 9 false 1), .sc (.i .i64 2), .sc (.i .i64 3)], [.bx [.s 4, .fz 9 false 5]]⟩⟩] }
noncomputable def Lqr : Option Nat → Lv → Option Lv := Lim Try.prog [dq3.sig (Lq3 none)] dqr Try.f125
theorem eqr_i (a0 : ByteArray) (a1 : Rw) (a2 : Int) : Lqr none [.s a0, .l a1, .i a2] =
 cond (decide (2000 < (a0.size : Int))) (
 some [.b false]) (
 cond (decide (30 < (a1.length : Int))) (
 some [.b false]) (
 Lqr (some 4) [.i a2, .l a1, .i (a1.length : Int), .i 0, .s a0, .l a1])) := (zb _ _).trans (by kernel_rfl)
theorem eqr_4 (a0 : Int) (a1 : Rw) (a2 a3 : Int) (a4 : ByteArray) (a5 : Rw) : Lqr (some 4) [.i a0, .l a1, .i a2, .i a3, .s a4, .l a5] =
 cond (decide (a3 < a2)) (
 cond (inb a3 a1.length) (
 cond ((((rd a1 a3.toNat 0).str).size : Int) != a0) (
 some [.b false]) (
 cond (decide (0 < a3)) (
 cond (inb (IntKind.i64.wrap (a3 - 1)) a5.length) (
 cond (!slt ((rd a5 ((IntKind.i64.wrap (a3 - 1)).toNat) 0).str) ((rd a1 a3.toNat 0).str)) (
 some [.b false]) (
 Lqr (some 4) [.i a0, .l a1, .i a2, .i (IntKind.i64.wrap (a3 + 1)), .s a4, .l a5])) (
 none)) (
 Lqr (some 4) [.i a0, .l a1, .i a2, .i (IntKind.i64.wrap (a3 + 1)), .s a4, .l a5]))) (
 none)) (
 (Lq3 none [.i a0]).bind fun y1 =>
 some [.b ((g y1 0).bool)]) := (zb _ _).trans (by kernel_rfl)
theorem kqr : SigOk Try.prog (dqr.sig (Lqr none)) ∧ (dqr.sig (Lqr none)).ok = true := zg (zd kq3 (by kernel_rfl) zf) (by kernel_rfl) (by kernel_rfl) (by kernel_rfl)
def dql : FD := { fn := 126, nb := 0, pre := ⟨[.sc (.s 0), .sc (.i .i64 1)], []⟩, post := ⟨[.sc (.s 0)], []⟩, sh := false, cuts := [⟨5, [0, 1, 5, 13, 14], ⟨[.sc (.s 0), .sc (.i .i64 1), .sc (.i .u64 2), .sc (.i .i64 3), .sc (.i .i64 4)], []⟩⟩, ⟨12, [5, 7, 8], ⟨[.sc (.i .u64 0), .sc (.ow 0), .sc (.i .i64 1)], [.rw 5 true 2]⟩⟩] }
noncomputable def Lql : Option Nat → Lv → Option Lv := Lim Try.prog [dq3.sig (Lq3 none)] dql Try.f126
theorem eql_i (a0 : ByteArray) (a1 : Int) : Lql none [.s a0, .i a1] =
 (Lq3 none [.i a1]).bind fun y1 =>
 cond (!(g y1 0).bool) (
 some [.s (⟨#[]⟩ : ByteArray)]) (
 Lql (some 5) [.s a0, .i a1, .i 14695981039346656037, .i (a0.size : Int), .i 0]) := (zb _ _).trans (by kernel_rfl)
theorem eql_5 (a0 : ByteArray) (a1 a2 a3 a4 : Int) : Lql (some 5) [.s a0, .i a1, .i a2, .i a3, .i a4] =
 cond (decide (a4 < a3)) (
 cond (inb a4 a0.size) (
 Lql (some 5) [.s a0, .i a1, .i (IntKind.u64.wrap ((IntKind.u64.wrap (BitVec.ofInt (IntKind.u64).bits a2 ^^^ BitVec.ofInt (IntKind.u64).bits (IntKind.u64.wrap (byteAt a0 a4.toNat))).toNat) * 1099511628211)), .i a3, .i (IntKind.i64.wrap (a4 + 1))]) (
 none)) (
 cond (decide (0 ≤ a1)) (
 cond (a1 == a1) (
 cond (decide (a1 ≤ (most : Int))) (
 Lql (some 12) [.i a2, .i (IntKind.i64.wrap (a1 - 1)), .l (List.replicate a1.toNat ([.i 0] : List C))]) (
 none)) (
 none)) (
 none)) := (zb _ _).trans (by kernel_rfl)
theorem eql_12 (a0 a1 : Int) (a2 : Rw) : Lql (some 12) [.i a0, .i a1, .l a2] =
 cond (decide (0 ≤ a1)) (
 cond (inb a1 a2.length) (
 Lql (some 12) [.i (a0.fdiv (2 ^ 8)), .i (IntKind.i64.wrap (a1 - 1)), .l (wrs a2 a1.toNat 0 ([.i (IntKind.u8.wrap a0)] : List C))]) (
 none)) (
 some [.s (bytesOf a2)]) := (zb _ _).trans (by kernel_rfl)
theorem kql : SigOk Try.prog (dql.sig (Lql none)) ∧ (dql.sig (Lql none)).ok = true := zg (zd kq3 (by kernel_rfl) zf) (by kernel_rfl) (by kernel_rfl) (by kernel_rfl)
def dqs : FD := { fn := 127, nb := 0, pre := ⟨[.ag [.s 0, .fz 9 false 1]], []⟩, post := ⟨[.sc (.s 0)], []⟩, sh := false, cuts := [⟨3, [1, 3, 13, 14, 15], ⟨[.sc (.pt 0 0), .sc (.s 0), .sc (.fz 9 false 1), .sc (.i .i64 2), .sc (.i .i64 3)], [.bx [.s 4, .fz 9 false 5]]⟩⟩] }
noncomputable def Lqs : Option Nat → Lv → Option Lv := Lim Try.prog [] dqs Try.f127
theorem eqs_i (a0 : ByteArray) (a1 : Rw) : Lqs none [.s a0, .l a1] =
 Lqs (some 3) [.s (bytesOf ([[.i (IntKind.u8.wrap (a1.length : Int))]] : Rw)), .l a1, .i (a1.length : Int), .i 0, .s a0, .l a1] := (zb _ _).trans (by kernel_rfl)
theorem eqs_3 (a0 : ByteArray) (a1 : Rw) (a2 a3 : Int) (a4 : ByteArray) (a5 : Rw) : Lqs (some 3) [.s a0, .l a1, .i a2, .i a3, .s a4, .l a5] =
 cond (decide (a3 < a2)) (
 cond (inb a3 a1.length) (
 cond (decide (a0.size + ((rd a1 a3.toNat 0).str).size ≤ most)) (
 Lqs (some 3) [.s (a0 ++ ((rd a1 a3.toNat 0).str)), .l a1, .i a2, .i (IntKind.i64.wrap (a3 + 1)), .s a4, .l a5]) (
 none)) (
 none)) (
 cond (decide (a0.size + a4.size ≤ most)) (
 some [.s (a0 ++ a4)]) (
 none)) := (zb _ _).trans (by kernel_rfl)
theorem kqs : SigOk Try.prog (dqs.sig (Lqs none)) ∧ (dqs.sig (Lqs none)).ok = true := zg zf (by kernel_rfl) (by kernel_rfl) (by kernel_rfl)
def dqy : FD := { fn := 128, nb := 0, pre := ⟨[.sc (.s 0)], []⟩, post := ⟨[.sc (.b 0)], []⟩, sh := false, cuts := [⟨2, [0, 5, 6], ⟨[.sc (.s 0), .sc (.i .i64 1), .sc (.i .i64 2)], []⟩⟩] }
noncomputable def Lqy : Option Nat → Lv → Option Lv := Lim Try.prog [] dqy Try.f128
theorem eqy_i (a0 : ByteArray) : Lqy none [.s a0] =
 Lqy (some 2) [.s a0, .i (a0.size : Int), .i 0] := (zb _ _).trans (by kernel_rfl)
theorem eqy_2 (a0 : ByteArray) (a1 a2 : Int) : Lqy (some 2) [.s a0, .i a1, .i a2] =
 cond (decide (a2 < a1)) (
 cond (inb a2 a0.size) (
 cond (decide ((byteAt a0 a2.toNat) < 33)) (
 some [.b false]) (
 cond (inb a2 a0.size) (
 cond (decide (126 < (byteAt a0 a2.toNat))) (
 some [.b false]) (
 Lqy (some 2) [.s a0, .i a1, .i (IntKind.i64.wrap (a2 + 1))])) (
 none))) (
 none)) (
 cond (decide (1 ≤ (a0.size : Int))) (
 some [.b (decide ((a0.size : Int) ≤ 40))]) (
 some [.b false])) := (zb _ _).trans (by kernel_rfl)
theorem kqy : SigOk Try.prog (dqy.sig (Lqy none)) ∧ (dqy.sig (Lqy none)).ok = true := zg zf (by kernel_rfl) (by kernel_rfl) (by kernel_rfl)
def dqb : FD := { fn := 71, nb := 0, pre := ⟨[.ag [.i .i64 0, .i .i64 1, .i .i64 2, .i .i64 3, .fz 116 false 4, .fz 127 false 5, .fz 129 false 6]], []⟩, post := ⟨[.sc (.b 0)], []⟩, sh := false, cuts := [⟨5, [1, 3, 62, 63, 64], ⟨[.sc (.pt 0 0), .sc (.mp 1), .sc (.fz 116 false 0), .sc (.i .i64 1), .sc (.i .i64 2)], [.bx [.i .i64 3, .i .i64 4, .i .i64 5, .i .i64 6, .fz 116 false 7, .fz 127 false 8, .fz 129 false 9], .mp 3 4 10]⟩⟩, ⟨12, [1, 125, 126, 127], ⟨[.sc (.pt 0 0), .sc (.fz 116 false 0), .sc (.i .i64 1), .sc (.i .i64 2)], [.bx [.i .i64 3, .i .i64 4, .i .i64 5, .i .i64 6, .fz 116 false 7, .fz 127 false 8, .fz 129 false 9]]⟩⟩, ⟨15, [1, 7, 125, 126, 127, 133, 134, 135], ⟨[.sc (.pt 0 0), .sc (.pt 1 0), .sc (.fz 116 false 0), .sc (.i .i64 1), .sc (.i .i64 2), .sc (.fz 9 false 3), .sc (.i .i64 4), .sc (.i .i64 5)], [.bx [.i .i64 6, .i .i64 7, .i .i64 8, .i .i64 9, .fz 116 false 10, .fz 127 false 11, .fz 129 false 12], .bx [.s 13, .i .i64 14, .s 15, .fz 9 false 16]]⟩⟩, ⟨23, [1, 160, 161, 162], ⟨[.sc (.pt 0 0), .sc (.fz 127 false 0), .sc (.i .i64 1), .sc (.i .i64 2)], [.bx [.i .i64 3, .i .i64 4, .i .i64 5, .i .i64 6, .fz 116 false 7, .fz 127 false 8, .fz 129 false 9]]⟩⟩, ⟨30, [1, 199, 200, 201], ⟨[.sc (.pt 0 0), .sc (.fz 129 false 0), .sc (.i .i64 1), .sc (.i .i64 2)], [.bx [.i .i64 3, .i .i64 4, .i .i64 5, .i .i64 6, .fz 116 false 7, .fz 127 false 8, .fz 129 false 9]]⟩⟩] }
noncomputable def Lqb : Option Nat → Lv → Option Lv := Lim Try.prog [dq3.sig (Lq3 none), dqbq.sig (Lqbq none), dqb7.sig (Lqb7 none), dqr.sig (Lqr none), dql.sig (Lql none), dqs.sig (Lqs none), dqy.sig (Lqy none)] dqb Try.f71
theorem eqb_i (a0 a1 a2 a3 : Int) (a4 a5 a6 : Rw) : Lqb none [.i a0, .i a1, .i a2, .i a3, .l a4, .l a5, .l a6] =
 (Lq3 none [.i a0]).bind fun y1 =>
 cond (!(g y1 0).bool) (
 some [.b false]) (
 (Lqb7 none [.i a1]).bind fun y2 =>
 cond (!(g y2 0).bool) (
 some [.b false]) (
 (Lqb7 none [.i a2]).bind fun y3 =>
 cond (!(g y3 0).bool) (
 some [.b false]) (
 (Lqb7 none [.i a3]).bind fun y4 =>
 cond (!(g y4 0).bool) (
 some [.b false]) (
 cond (decide (600 < (a4.length : Int))) (
 some [.b false]) (
 cond (decide (100 < (a5.length : Int))) (
 some [.b false]) (
 cond (decide (200 < (a6.length : Int))) (
 some [.b false]) (
 Lqb (some 5) [.l a4, .i (a4.length : Int), .i 0, .i a0, .i a1, .i a2, .i a3, .l a4, .l a5, .l a6, .m ([])]))))))) := (zb _ _).trans (by kernel_rfl)
theorem eqb_5 (a0 : Rw) (a1 a2 a3 a4 a5 a6 : Int) (a7 a8 a9 : Rw) (a10 : List (C × C)) : Lqb (some 5) [.l a0, .i a1, .i a2, .i a3, .i a4, .i a5, .i a6, .l a7, .l a8, .l a9, .m a10] =
 cond (decide (a2 < a1)) (
 cond (inb a2 a0.length) (
 cond (decide (0 < a2)) (
 cond (inb (IntKind.i64.wrap (a2 - 1)) a7.length) (
 cond (!slt ((rd a7 ((IntKind.i64.wrap (a2 - 1)).toNat) 0).str) ((rd a0 a2.toNat 0).str)) (
 some [.b false]) (
 (Lqr none [.s ((rd a0 a2.toNat 2).str), .l ((rd a0 a2.toNat 3).list), .i a3]).bind fun y1 =>
 cond (!(g y1 0).bool) (
 some [.b false]) (
 (Lqs none [.s ((rd a0 a2.toNat 2).str), .l ((rd a0 a2.toNat 3).list)]).bind fun y2 =>
 (Lql none [.s ((g y2 0).str), .i a3]).bind fun y3 =>
 cond (!Eng.seq ((rd a0 a2.toNat 0).str) ((g y3 0).str)) (
 some [.b false]) (
 cond (decide ((rd a0 a2.toNat 1).int < 1)) (
 some [.b false]) (
 cond (decide (a6 < (rd a0 a2.toNat 1).int)) (
 some [.b false]) (
 cond (((mget (.i .i64) (.i ((rd a0 a2.toNat 1).int)) a10).getD (.b false)).bool) (
 some [.b false]) (
 Lqb (some 5) [.l a0, .i a1, .i (IntKind.i64.wrap (a2 + 1)), .i a3, .i a4, .i a5, .i a6, .l a7, .l a8, .l a9, .m (mput (.i .i64) (.i ((rd a0 a2.toNat 1).int)) (.b true) a10)]))))))) (
 none)) (
 (Lqr none [.s ((rd a0 a2.toNat 2).str), .l ((rd a0 a2.toNat 3).list), .i a3]).bind fun y4 =>
 cond (!(g y4 0).bool) (
 some [.b false]) (
 (Lqs none [.s ((rd a0 a2.toNat 2).str), .l ((rd a0 a2.toNat 3).list)]).bind fun y5 =>
 (Lql none [.s ((g y5 0).str), .i a3]).bind fun y6 =>
 cond (!Eng.seq ((rd a0 a2.toNat 0).str) ((g y6 0).str)) (
 some [.b false]) (
 cond (decide ((rd a0 a2.toNat 1).int < 1)) (
 some [.b false]) (
 cond (decide (a6 < (rd a0 a2.toNat 1).int)) (
 some [.b false]) (
 cond (((mget (.i .i64) (.i ((rd a0 a2.toNat 1).int)) a10).getD (.b false)).bool) (
 some [.b false]) (
 Lqb (some 5) [.l a0, .i a1, .i (IntKind.i64.wrap (a2 + 1)), .i a3, .i a4, .i a5, .i a6, .l a7, .l a8, .l a9, .m (mput (.i .i64) (.i ((rd a0 a2.toNat 1).int)) (.b true) a10)]))))))) (
 none)) (
 Lqb (some 12) [.l a7, .i (a7.length : Int), .i 0, .i a3, .i a4, .i a5, .i a6, .l a7, .l a8, .l a9]) := (zb _ _).trans (by kernel_rfl)
theorem eqb_12 (a0 : Rw) (a1 a2 a3 a4 a5 a6 : Int) (a7 a8 a9 : Rw) : Lqb (some 12) [.l a0, .i a1, .i a2, .i a3, .i a4, .i a5, .i a6, .l a7, .l a8, .l a9] =
 cond (decide (a2 < a1)) (
 cond (inb a2 a0.length) (
 Lqb (some 15) [.l a0, .i a1, .i a2, .l ((rd a0 a2.toNat 3).list), .i (((rd a0 a2.toNat 3).list).length : Int), .i 0, .i a3, .i a4, .i a5, .i a6, .l a7, .l a8, .l a9, .s ((rd a0 a2.toNat 0).str), .i ((rd a0 a2.toNat 1).int), .s ((rd a0 a2.toNat 2).str), .l ((rd a0 a2.toNat 3).list)]) (
 none)) (
 Lqb (some 23) [.l a8, .i (a8.length : Int), .i 0, .i a3, .i a4, .i a5, .i a6, .l a7, .l a8, .l a9]) := (zb _ _).trans (by kernel_rfl)
theorem eqb_15 (a0 : Rw) (a1 a2 : Int) (a3 : Rw) (a4 a5 a6 a7 a8 a9 : Int) (a10 a11 a12 : Rw) (a13 : ByteArray) (a14 : Int) (a15 : ByteArray) (a16 : Rw) : Lqb (some 15) [.l a0, .i a1, .i a2, .l a3, .i a4, .i a5, .i a6, .i a7, .i a8, .i a9, .l a10, .l a11, .l a12, .s a13, .i a14, .s a15, .l a16] =
 cond (decide (a5 < a4)) (
 cond (inb a5 a3.length) (
 (Lqbq none [.s ((rd a3 a5.toNat 0).str), .i a6, .i a7, .i a8, .i a9, .l a10, .l a11, .l a12]).bind fun y1 =>
 cond (!(g y1 1).bool) (
 some [.b false]) (
 cond (inb ((g y1 0).int) a10.length) (
 cond (decide (a14 ≤ (rd a10 (((g y1 0).int).toNat) 1).int)) (
 some [.b false]) (
 Lqb (some 15) [.l a0, .i a1, .i a2, .l a3, .i a4, .i (IntKind.i64.wrap (a5 + 1)), .i a6, .i a7, .i a8, .i a9, .l a10, .l a11, .l a12, .s a13, .i a14, .s a15, .l a16])) (
 none))) (
 none)) (
 Lqb (some 12) [.l a0, .i a1, .i (IntKind.i64.wrap (a2 + 1)), .i a6, .i a7, .i a8, .i a9, .l a10, .l a11, .l a12]) := (zb _ _).trans (by kernel_rfl)
theorem eqb_23 (a0 : Rw) (a1 a2 a3 a4 a5 a6 : Int) (a7 a8 a9 : Rw) : Lqb (some 23) [.l a0, .i a1, .i a2, .i a3, .i a4, .i a5, .i a6, .l a7, .l a8, .l a9] =
 cond (decide (a2 < a1)) (
 cond (inb a2 a0.length) (
 (Lqbq none [.s ((rd a0 a2.toNat 1).str), .i a3, .i a4, .i a5, .i a6, .l a7, .l a8, .l a9]).bind fun y1 =>
 cond (!(g y1 1).bool) (
 some [.b false]) (
 (Lqy none [.s ((rd a0 a2.toNat 0).str)]).bind fun y2 =>
 cond (!(g y2 0).bool) (
 some [.b false]) (
 cond (decide (0 < a2)) (
 cond (inb (IntKind.i64.wrap (a2 - 1)) a8.length) (
 cond (!slt ((rd a8 ((IntKind.i64.wrap (a2 - 1)).toNat) 0).str) ((rd a0 a2.toNat 0).str)) (
 some [.b false]) (
 Lqb (some 23) [.l a0, .i a1, .i (IntKind.i64.wrap (a2 + 1)), .i a3, .i a4, .i a5, .i a6, .l a7, .l a8, .l a9])) (
 none)) (
 Lqb (some 23) [.l a0, .i a1, .i (IntKind.i64.wrap (a2 + 1)), .i a3, .i a4, .i a5, .i a6, .l a7, .l a8, .l a9])))) (
 none)) (
 Lqb (some 30) [.l a9, .i (a9.length : Int), .i 0, .i a3, .i a4, .i a5, .i a6, .l a7, .l a8, .l a9]) := (zb _ _).trans (by kernel_rfl)
theorem eqb_30 (a0 : Rw) (a1 a2 a3 a4 a5 a6 : Int) (a7 a8 a9 : Rw) : Lqb (some 30) [.l a0, .i a1, .i a2, .i a3, .i a4, .i a5, .i a6, .l a7, .l a8, .l a9] =
 cond (decide (a2 < a1)) (
 cond (inb a2 a0.length) (
 (Lqbq none [.s ((rd a0 a2.toNat 1).str), .i a3, .i a4, .i a5, .i a6, .l a7, .l a8, .l a9]).bind fun y1 =>
 cond (!(g y1 1).bool) (
 some [.b false]) (
 cond (decide ((rd a0 a2.toNat 0).int < 1)) (
 some [.b false]) (
 cond (decide (a5 < (rd a0 a2.toNat 0).int)) (
 some [.b false]) (
 cond (decide (0 < a2)) (
 cond (inb (IntKind.i64.wrap (a2 - 1)) a9.length) (
 cond (decide ((rd a0 a2.toNat 0).int ≤ (rd a9 ((IntKind.i64.wrap (a2 - 1)).toNat) 0).int)) (
 some [.b false]) (
 cond (decide ((rd a0 a2.toNat 2).int ≤ a4)) (
 some [.b false]) (
 cond (decide ((IntKind.i64.wrap (a4 + 100000)) < (rd a0 a2.toNat 2).int)) (
 some [.b false]) (
 Lqb (some 30) [.l a0, .i a1, .i (IntKind.i64.wrap (a2 + 1)), .i a3, .i a4, .i a5, .i a6, .l a7, .l a8, .l a9])))) (
 none)) (
 cond (decide ((rd a0 a2.toNat 2).int ≤ a4)) (
 some [.b false]) (
 cond (decide ((IntKind.i64.wrap (a4 + 100000)) < (rd a0 a2.toNat 2).int)) (
 some [.b false]) (
 Lqb (some 30) [.l a0, .i a1, .i (IntKind.i64.wrap (a2 + 1)), .i a3, .i a4, .i a5, .i a6, .l a7, .l a8, .l a9]))))))) (
 none)) (
 some [.b true]) := (zb _ _).trans (by kernel_rfl)
theorem kqb : SigOk Try.prog (dqb.sig (Lqb none)) ∧ (dqb.sig (Lqb none)).ok = true := zg (zd kq3 (by kernel_rfl) (zd kqbq (by kernel_rfl) (zd kqb7 (by kernel_rfl) (zd kqr (by kernel_rfl) (zd kql (by kernel_rfl) (zd kqs (by kernel_rfl) (zd kqy (by kernel_rfl) zf))))))) (by kernel_rfl) (by kernel_rfl) (by kernel_rfl)
def dqm : FD := { fn := 157, nb := 0, pre := ⟨[.sc (.pt 0 0), .sc (.s 0)], [.rb [.i .i64 1, .i .i64 2, .i .i64 3, .i .i64 4, .fz 116 false 5, .fz 127 false 6, .fz 129 false 7]]⟩, post := ⟨[.sc (.b 0)], []⟩, sh := false, cuts := [⟨2, [0, 1, 12, 13, 14], ⟨[.sc (.pt 0 0), .sc (.s 0), .sc (.fz 127 false 1), .sc (.i .i64 2), .sc (.i .i64 3)], [.rb [.i .i64 4, .i .i64 5, .i .i64 6, .i .i64 7, .fz 116 false 8, .fz 127 false 9, .fz 129 false 10]]⟩⟩, ⟨8, [1, 26, 27, 28], ⟨[.sc (.s 0), .sc (.fz 129 false 1), .sc (.i .i64 2), .sc (.i .i64 3)], []⟩⟩] }
noncomputable def Lqm : Option Nat → Lv → Option Lv := Lim Try.prog [] dqm Try.f157
theorem eqm_i (a0 : ByteArray) (a1 a2 a3 a4 : Int) (a5 a6 a7 : Rw) : Lqm none [.s a0, .i a1, .i a2, .i a3, .i a4, .l a5, .l a6, .l a7] =
 Lqm (some 2) [.s a0, .l a6, .i (a6.length : Int), .i 0, .i a1, .i a2, .i a3, .i a4, .l a5, .l a6, .l a7] := (zb _ _).trans (by kernel_rfl)
theorem eqm_2 (a0 : ByteArray) (a1 : Rw) (a2 a3 a4 a5 a6 a7 : Int) (a8 a9 a10 : Rw) : Lqm (some 2) [.s a0, .l a1, .i a2, .i a3, .i a4, .i a5, .i a6, .i a7, .l a8, .l a9, .l a10] =
 cond (decide (a3 < a2)) (
 cond (inb a3 a1.length) (
 cond (Eng.seq ((rd a1 a3.toNat 1).str) a0) (
 some [.b true]) (
 Lqm (some 2) [.s a0, .l a1, .i a2, .i (IntKind.i64.wrap (a3 + 1)), .i a4, .i a5, .i a6, .i a7, .l a8, .l a9, .l a10])) (
 none)) (
 Lqm (some 8) [.s a0, .l a10, .i (a10.length : Int), .i 0]) := (zb _ _).trans (by kernel_rfl)
theorem eqm_8 (a0 : ByteArray) (a1 : Rw) (a2 a3 : Int) : Lqm (some 8) [.s a0, .l a1, .i a2, .i a3] =
 cond (decide (a3 < a2)) (
 cond (inb a3 a1.length) (
 cond (Eng.seq ((rd a1 a3.toNat 1).str) a0) (
 some [.b true]) (
 Lqm (some 8) [.s a0, .l a1, .i a2, .i (IntKind.i64.wrap (a3 + 1))])) (
 none)) (
 some [.b false]) := (zb _ _).trans (by kernel_rfl)
theorem kqm : SigOk Try.prog (dqm.sig (Lqm none)) ∧ (dqm.sig (Lqm none)).ok = true := zg zf (by kernel_rfl) (by kernel_rfl) (by kernel_rfl)
def dqn : FD := { fn := 158, nb := 0, pre := ⟨[.sc (.pt 0 0), .sc (.s 0)], [.rb [.i .i64 1, .i .i64 2, .i .i64 3, .i .i64 4, .fz 116 false 5, .fz 127 false 6, .fz 129 false 7]]⟩, post := ⟨[.sc (.b 0)], []⟩, sh := false, cuts := [⟨2, [1, 12, 13, 14], ⟨[.sc (.s 0), .sc (.fz 116 false 1), .sc (.i .i64 2), .sc (.i .i64 3)], []⟩⟩, ⟨5, [1, 12, 13, 14, 20, 21, 22], ⟨[.sc (.s 0), .sc (.fz 116 false 1), .sc (.i .i64 2), .sc (.i .i64 3), .sc (.fz 9 false 4), .sc (.i .i64 5), .sc (.i .i64 6)], []⟩⟩] }
noncomputable def Lqn : Option Nat → Lv → Option Lv := Lim Try.prog [] dqn Try.f158
theorem eqn_i (a0 : ByteArray) (a1 a2 a3 a4 : Int) (a5 a6 a7 : Rw) : Lqn none [.s a0, .i a1, .i a2, .i a3, .i a4, .l a5, .l a6, .l a7] =
 Lqn (some 2) [.s a0, .l a5, .i (a5.length : Int), .i 0] := (zb _ _).trans (by kernel_rfl)
theorem eqn_2 (a0 : ByteArray) (a1 : Rw) (a2 a3 : Int) : Lqn (some 2) [.s a0, .l a1, .i a2, .i a3] =
 cond (decide (a3 < a2)) (
 cond (inb a3 a1.length) (
 Lqn (some 5) [.s a0, .l a1, .i a2, .i a3, .l ((rd a1 a3.toNat 3).list), .i (((rd a1 a3.toNat 3).list).length : Int), .i 0]) (
 none)) (
 some [.b false]) := (zb _ _).trans (by kernel_rfl)
theorem eqn_5 (a0 : ByteArray) (a1 : Rw) (a2 a3 : Int) (a4 : Rw) (a5 a6 : Int) : Lqn (some 5) [.s a0, .l a1, .i a2, .i a3, .l a4, .i a5, .i a6] =
 cond (decide (a6 < a5)) (
 cond (inb a6 a4.length) (
 cond (Eng.seq ((rd a4 a6.toNat 0).str) a0) (
 some [.b true]) (
 Lqn (some 5) [.s a0, .l a1, .i a2, .i a3, .l a4, .i a5, .i (IntKind.i64.wrap (a6 + 1))])) (
 none)) (
 Lqn (some 2) [.s a0, .l a1, .i a2, .i (IntKind.i64.wrap (a3 + 1))]) := (zb _ _).trans (by kernel_rfl)
theorem kqn : SigOk Try.prog (dqn.sig (Lqn none)) ∧ (dqn.sig (Lqn none)).ok = true := zg zf (by kernel_rfl) (by kernel_rfl) (by kernel_rfl)
def dq4 : FD := { fn := 159, nb := 0, pre := ⟨[.sc (.i .i64 0)], []⟩, post := ⟨[.ag [.i .i64 0, .i .i64 1, .i .i64 2, .i .i64 3, .i .i64 4, .ow 0, .ow 1, .ow 2, .s 5, .i .i64 6, .s 7, .s 8]], [.dw 116 (some (3, 9)) 9, .rw 127 true 10, .rw 129 true 11]⟩, sh := false, cuts := [] }
noncomputable def Lq4 : Option Nat → Lv → Option Lv := Lim Try.prog [] dq4 Try.f159
theorem eq4_i (a0 : Int) : Lq4 none [.i a0] =
 some [.i a0, .i 0, .i 0, .i 0, .i 0, .s (⟨#[]⟩ : ByteArray), .i 0, .s (⟨#[]⟩ : ByteArray), .s (⟨#[]⟩ : ByteArray), .l [], .l [], .l []] := (zb _ _).trans (by kernel_rfl)
theorem kq4 : SigOk Try.prog (dq4.sig (Lq4 none)) ∧ (dq4.sig (Lq4 none)).ok = true := zg zf (by kernel_rfl) (by kernel_rfl) (by kernel_rfl)
def dqcc : FD := { fn := 160, nb := 3, pre := ⟨[.sc (.s 0), .sc (.pt 0 0), .sc (.pt 2 0)], [.bx [.pt 1 0], .bx [.i .i64 1, .i .i64 2, .i .i64 3, .i .i64 4, .ow 3, .ow 4, .ow 5], .bx [.i .i64 5, .s 6, .s 7, .i .i64 8, .s 9, .fz 9 false 10], .dw 116 (some (3, 9)) 11, .rw 127 false 12, .rw 129 false 13]⟩, post := ⟨[.ag [.i .i64 0, .i .i64 1, .i .i64 2, .i .i64 3, .i .i64 4, .ow 6, .ow 7, .ow 8, .s 5, .i .i64 6, .s 7, .s 8]], [.bx [.pt 1 0], .bx [.i .i64 9, .i .i64 10, .i .i64 11, .i .i64 12, .ow 3, .ow 4, .ow 5], .bx [.i .i64 13, .s 14, .s 15, .i .i64 16, .s 17, .fz 9 false 18], .dw 116 (some (3, 9)) 19, .rw 127 false 20, .rw 129 false 21, .dw 116 (some (3, 9)) 22, .rw 127 true 23, .rw 129 true 24]⟩, sh := true, cuts := [] }
noncomputable def Lqcc : Option Nat → Lv → Option Lv := Lim Try.prog [] dqcc Try.f160
theorem eqcc_i (a0 : ByteArray) (a1 a2 a3 a4 a5 : Int) (a6 a7 : ByteArray) (a8 : Int) (a9 : ByteArray) (a10 a11 a12 a13 : Rw) : Lqcc none [.s a0, .i a1, .i a2, .i a3, .i a4, .i a5, .s a6, .s a7, .i a8, .s a9, .l a10, .l a11, .l a12, .l a13] =
 cond (decide (a13.length + ([[.i (IntKind.i64.wrap (a3 + 1)), .s a0, .i (IntKind.i64.wrap (a2 + a8))]] : Rw).length ≤ most)) (
 some [.i 0, .i 0, .i 0, .i 0, .i 0, .s (⟨#[]⟩ : ByteArray), .i (IntKind.i64.wrap (a3 + 1)), .s (⟨#[]⟩ : ByteArray), .s (⟨#[]⟩ : ByteArray), .i a1, .i a2, .i (IntKind.i64.wrap (a3 + 1)), .i a4, .i a5, .s a6, .s a7, .i a8, .s a9, .l a10, .l a11, .l a12, .l (a13 ++ ([[.i (IntKind.i64.wrap (a3 + 1)), .s a0, .i (IntKind.i64.wrap (a2 + a8))]] : Rw)), .l [], .l [], .l []]) (
 none) := (zb _ _).trans (by kernel_rfl)
theorem kqcc : SigOk Try.prog (dqcc.sig (Lqcc none)) ∧ (dqcc.sig (Lqcc none)).ok = true := zg zf (by kernel_rfl) (by kernel_rfl) (by kernel_rfl)
end KV
end
section
set_option maxRecDepth 100000
namespace KV
open Go Go.Eng Go.Proofs
def dqcz : FD := { fn := 175, nb := 0, pre := ⟨[.sc (.i .i64 0), .sc (.pt 0 0), .sc (.pt 2 0)], [.rb [.pt 1 0], .rb [.i .i64 1, .i .i64 2, .i .i64 3, .i .i64 4, .fz 116 false 5, .fz 127 false 6, .fz 129 false 7], .rb [.s 8]]⟩, post := ⟨[.sc (.b 0)], []⟩, sh := false, cuts := [] }
noncomputable def Lqcz : Option Nat → Lv → Option Lv := Lim Try.prog [] dqcz Try.f175
theorem eqcz_i (a0 a1 a2 a3 a4 : Int) (a5 a6 a7 : Rw) (a8 : ByteArray) : Lqcz none [.i a0, .i a1, .i a2, .i a3, .i a4, .l a5, .l a6, .l a7, .s a8] =
 cond (inb a0 a6.length) (
 some [.b (!slt ((rd a6 a0.toNat 0).str) a8)]) (
 none) := (zb _ _).trans (by kernel_rfl)
theorem kqcz : SigOk Try.prog (dqcz.sig (Lqcz none)) ∧ (dqcz.sig (Lqcz none)).ok = true := zg zf (by kernel_rfl) (by kernel_rfl) (by kernel_rfl)
def dqbr : FD := { fn := 150, nb := 0, pre := ⟨[.sc (.i .i64 0), .sc (.fn 175 [(0, 0), (2, 0)])], [.rb [.pt 1 0], .rb [.i .i64 1, .i .i64 2, .i .i64 3, .i .i64 4, .fz 116 false 5, .fz 127 false 6, .fz 129 false 7], .rb [.s 8]]⟩, post := ⟨[.sc (.i .i64 0)], []⟩, sh := false, cuts := [⟨2, [1, 5, 6], ⟨[.sc (.fn 175 [(0, 0), (1, 0)]), .sc (.i .i64 0), .sc (.i .i64 1)], [.rb [.pt 2 0], .rb [.s 2], .rb [.i .i64 3, .i .i64 4, .i .i64 5, .i .i64 6, .fz 116 false 7, .fz 127 false 8, .fz 129 false 9]]⟩⟩] }
noncomputable def Lqbr : Option Nat → Lv → Option Lv := Lim Try.prog [dqcz.sig (Lqcz none)] dqbr Try.f150
theorem eqbr_i (a0 a1 a2 a3 a4 : Int) (a5 a6 a7 : Rw) (a8 : ByteArray) : Lqbr none [.i a0, .i a1, .i a2, .i a3, .i a4, .l a5, .l a6, .l a7, .s a8] =
 Lqbr (some 2) [.i 0, .i a0, .s a8, .i a1, .i a2, .i a3, .i a4, .l a5, .l a6, .l a7] := (zb _ _).trans (by kernel_rfl)
theorem eqbr_2 (a0 a1 : Int) (a2 : ByteArray) (a3 a4 a5 a6 : Int) (a7 a8 a9 : Rw) : Lqbr (some 2) [.i a0, .i a1, .s a2, .i a3, .i a4, .i a5, .i a6, .l a7, .l a8, .l a9] =
 cond (decide (a0 < a1)) (
 (Lqcz none [.i (IntKind.i64.wrap ((IntKind.u64.wrap (IntKind.i64.wrap (a0 + a1))).fdiv (2 ^ 1))), .i a3, .i a4, .i a5, .i a6, .l a7, .l a8, .l a9, .s a2]).bind fun y1 =>
 cond (!(g y1 0).bool) (
 Lqbr (some 2) [.i (IntKind.i64.wrap ((IntKind.i64.wrap ((IntKind.u64.wrap (IntKind.i64.wrap (a0 + a1))).fdiv (2 ^ 1))) + 1)), .i a1, .s a2, .i a3, .i a4, .i a5, .i a6, .l a7, .l a8, .l a9]) (
 Lqbr (some 2) [.i a0, .i (IntKind.i64.wrap ((IntKind.u64.wrap (IntKind.i64.wrap (a0 + a1))).fdiv (2 ^ 1))), .s a2, .i a3, .i a4, .i a5, .i a6, .l a7, .l a8, .l a9])) (
 some [.i a0]) := (zb _ _).trans (by kernel_rfl)
theorem kqbr : SigOk Try.prog (dqbr.sig (Lqbr none)) ∧ (dqbr.sig (Lqbr none)).ok = true := zg (zd kqcz (by kernel_rfl) zf) (by kernel_rfl) (by kernel_rfl) (by kernel_rfl)
def dqcd : FD := { fn := 161, nb := 0, pre := ⟨[.sc (.pt 0 0), .sc (.s 0)], [.rb [.i .i64 1, .i .i64 2, .i .i64 3, .i .i64 4, .fz 116 false 5, .fz 127 false 6, .fz 129 false 7]]⟩, post := ⟨[.tu [(false, [.i .i64 0]), (false, [.b 1])]], []⟩, sh := false, cuts := [] }
noncomputable def Lqcd : Option Nat → Lv → Option Lv := Lim Try.prog [dqbr.sig (Lqbr none)] dqcd Try.f161
theorem eqcd_i (a0 : ByteArray) (a1 a2 a3 a4 : Int) (a5 a6 a7 : Rw) : Lqcd none [.s a0, .i a1, .i a2, .i a3, .i a4, .l a5, .l a6, .l a7] =
 (Lqbr none [.i (a6.length : Int), .i a1, .i a2, .i a3, .i a4, .l a5, .l a6, .l a7, .s a0]).bind fun y1 =>
 cond (decide ((g y1 0).int < (a6.length : Int))) (
 cond (inb ((g y1 0).int) a6.length) (
 some [.i ((g y1 0).int), .b (Eng.seq ((rd a6 (((g y1 0).int).toNat) 0).str) a0)]) (
 none)) (
 some [.i ((g y1 0).int), .b false]) := (zb _ _).trans (by kernel_rfl)
theorem kqcd : SigOk Try.prog (dqcd.sig (Lqcd none)) ∧ (dqcd.sig (Lqcd none)).ok = true := zg (zd kqbr (by kernel_rfl) zf) (by kernel_rfl) (by kernel_rfl) (by kernel_rfl)
def dqc0 : FD := { fn := 176, nb := 0, pre := ⟨[.sc (.i .i64 0), .sc (.pt 0 0), .sc (.pt 2 0)], [.rb [.pt 1 0], .rb [.i .i64 1, .i .i64 2, .i .i64 3, .i .i64 4, .fz 116 false 5, .fz 127 false 6, .fz 129 false 7], .rb [.i .i64 8]]⟩, post := ⟨[.sc (.b 0)], []⟩, sh := false, cuts := [] }
noncomputable def Lqc0 : Option Nat → Lv → Option Lv := Lim Try.prog [] dqc0 Try.f176
theorem eqc0_i (a0 a1 a2 a3 a4 : Int) (a5 a6 a7 : Rw) (a8 : Int) : Lqc0 none [.i a0, .i a1, .i a2, .i a3, .i a4, .l a5, .l a6, .l a7, .i a8] =
 cond (inb a0 a7.length) (
 some [.b (decide (a8 ≤ (rd a7 a0.toNat 0).int))]) (
 none) := (zb _ _).trans (by kernel_rfl)
theorem kqc0 : SigOk Try.prog (dqc0.sig (Lqc0 none)) ∧ (dqc0.sig (Lqc0 none)).ok = true := zg zf (by kernel_rfl) (by kernel_rfl) (by kernel_rfl)
def dqbs : FD := { fn := 150, nb := 0, pre := ⟨[.sc (.i .i64 0), .sc (.fn 176 [(0, 0), (2, 0)])], [.rb [.pt 1 0], .rb [.i .i64 1, .i .i64 2, .i .i64 3, .i .i64 4, .fz 116 false 5, .fz 127 false 6, .fz 129 false 7], .rb [.i .i64 8]]⟩, post := ⟨[.sc (.i .i64 0)], []⟩, sh := false, cuts := [⟨2, [1, 5, 6], ⟨[.sc (.fn 176 [(0, 0), (1, 0)]), .sc (.i .i64 0), .sc (.i .i64 1)], [.rb [.pt 2 0], .rb [.i .i64 2], .rb [.i .i64 3, .i .i64 4, .i .i64 5, .i .i64 6, .fz 116 false 7, .fz 127 false 8, .fz 129 false 9]]⟩⟩] }
noncomputable def Lqbs : Option Nat → Lv → Option Lv := Lim Try.prog [dqc0.sig (Lqc0 none)] dqbs Try.f150
theorem eqbs_i (a0 a1 a2 a3 a4 : Int) (a5 a6 a7 : Rw) (a8 : Int) : Lqbs none [.i a0, .i a1, .i a2, .i a3, .i a4, .l a5, .l a6, .l a7, .i a8] =
 Lqbs (some 2) [.i 0, .i a0, .i a8, .i a1, .i a2, .i a3, .i a4, .l a5, .l a6, .l a7] := (zb _ _).trans (by kernel_rfl)
theorem eqbs_2 (a0 a1 a2 a3 a4 a5 a6 : Int) (a7 a8 a9 : Rw) : Lqbs (some 2) [.i a0, .i a1, .i a2, .i a3, .i a4, .i a5, .i a6, .l a7, .l a8, .l a9] =
 cond (decide (a0 < a1)) (
 (Lqc0 none [.i (IntKind.i64.wrap ((IntKind.u64.wrap (IntKind.i64.wrap (a0 + a1))).fdiv (2 ^ 1))), .i a3, .i a4, .i a5, .i a6, .l a7, .l a8, .l a9, .i a2]).bind fun y1 =>
 cond (!(g y1 0).bool) (
 Lqbs (some 2) [.i (IntKind.i64.wrap ((IntKind.i64.wrap ((IntKind.u64.wrap (IntKind.i64.wrap (a0 + a1))).fdiv (2 ^ 1))) + 1)), .i a1, .i a2, .i a3, .i a4, .i a5, .i a6, .l a7, .l a8, .l a9]) (
 Lqbs (some 2) [.i a0, .i (IntKind.i64.wrap ((IntKind.u64.wrap (IntKind.i64.wrap (a0 + a1))).fdiv (2 ^ 1))), .i a2, .i a3, .i a4, .i a5, .i a6, .l a7, .l a8, .l a9])) (
 some [.i a0]) := (zb _ _).trans (by kernel_rfl)
theorem kqbs : SigOk Try.prog (dqbs.sig (Lqbs none)) ∧ (dqbs.sig (Lqbs none)).ok = true := zg (zd kqc0 (by kernel_rfl) zf) (by kernel_rfl) (by kernel_rfl) (by kernel_rfl)
def dqco : FD := { fn := 162, nb := 0, pre := ⟨[.sc (.pt 0 0), .sc (.i .i64 0)], [.rb [.i .i64 1, .i .i64 2, .i .i64 3, .i .i64 4, .fz 116 false 5, .fz 127 false 6, .fz 129 false 7]]⟩, post := ⟨[.tu [(false, [.i .i64 0]), (false, [.b 1])]], []⟩, sh := false, cuts := [] }
noncomputable def Lqco : Option Nat → Lv → Option Lv := Lim Try.prog [dqbs.sig (Lqbs none)] dqco Try.f162
theorem eqco_i (a0 a1 a2 a3 a4 : Int) (a5 a6 a7 : Rw) : Lqco none [.i a0, .i a1, .i a2, .i a3, .i a4, .l a5, .l a6, .l a7] =
 (Lqbs none [.i (a7.length : Int), .i a1, .i a2, .i a3, .i a4, .l a5, .l a6, .l a7, .i a0]).bind fun y1 =>
 cond (decide ((g y1 0).int < (a7.length : Int))) (
 cond (inb ((g y1 0).int) a7.length) (
 some [.i ((g y1 0).int), .b ((rd a7 (((g y1 0).int).toNat) 0).int == a0)]) (
 none)) (
 some [.i ((g y1 0).int), .b false]) := (zb _ _).trans (by kernel_rfl)
theorem kqco : SigOk Try.prog (dqco.sig (Lqco none)) ∧ (dqco.sig (Lqco none)).ok = true := zg (zd kqbs (by kernel_rfl) zf) (by kernel_rfl) (by kernel_rfl) (by kernel_rfl)
def dqb3 : FD := { fn := 152, nb := 0, pre := ⟨[.sc (.fz 9 false 0)], []⟩, post := ⟨[.sc (.ow 0)], [.dw 9 none 0]⟩, sh := false, cuts := [] }
noncomputable def Lqb3 : Option Nat → Lv → Option Lv := Lim Try.prog [] dqb3 Try.f152
theorem eqb3_i (a0 : Rw) : Lqb3 none [.l a0] =
 cond (decide (a0.length ≤ most)) (
 some [.l a0]) (
 none) := (zb _ _).trans (by kernel_rfl)
theorem kqb3 : SigOk Try.prog (dqb3.sig (Lqb3 none)) ∧ (dqb3.sig (Lqb3 none)).ok = true := zg zf (by kernel_rfl) (by kernel_rfl) (by kernel_rfl)
def dqa : FD := { fn := 109, nb := 1, pre := ⟨[.sc (.pt 0 0), .ag [.i .i64 0, .s 1, .s 2, .i .i64 3, .s 4, .fz 9 false 5]], [.bx [.i .i64 6, .i .i64 7, .i .i64 8, .i .i64 9, .ow 1, .ow 2, .ow 3], .dw 116 (some (3, 9)) 10, .rw 127 false 11, .rw 129 false 12]⟩, post := ⟨[.ag [.i .i64 0, .i .i64 1, .i .i64 2, .i .i64 3, .i .i64 4, .ow 1, .ow 2, .ow 3, .s 5, .i .i64 6, .s 7, .s 8]], [.bx [.i .i64 9, .i .i64 10, .i .i64 11, .i .i64 12, .ow 4, .ow 5, .ow 6], .dw 116 (some (3, 9)) 13, .rw 127 true 14, .rw 129 true 15, .dw 116 (some (3, 9)) 16, .dw 127 none 17, .dw 129 none 18]⟩, sh := false, cuts := [⟨4, [2, 3, 4, 5, 6, 7], ⟨[.sc (.pt 1 0), .sc (.pt 2 0), .sc (.pt 3 0), .sc (.fn 159 []), .sc (.fn 160 [(1, 0), (2, 0)]), .sc (.b 0)], [.bx [.i .i64 1, .i .i64 2, .i .i64 3, .i .i64 4, .ow 4, .ow 5, .ow 6], .bx [.pt 0 0], .bx [.i .i64 5, .s 6, .s 7, .i .i64 8, .s 9, .fz 9 false 10], .bx [.i .i64 11, .i .i64 12, .i .i64 13, .i .i64 14, .i .i64 15, .ow 7, .ow 8, .ow 9, .s 16, .i .i64 17, .s 18, .s 19], .dw 116 (some (3, 9)) 20, .rw 127 false 21, .rw 129 false 22, .dw 116 (some (3, 9)) 23, .rw 127 true 24, .rw 129 true 25]⟩⟩, ⟨7, [2, 3, 4, 5, 6, 7, 55, 56, 57], ⟨[.sc (.pt 1 0), .sc (.pt 2 0), .sc (.pt 3 0), .sc (.fn 159 []), .sc (.fn 160 [(1, 0), (2, 0)]), .sc (.b 0), .sc (.fz 9 false 1), .sc (.i .i64 2), .sc (.i .i64 3)], [.bx [.i .i64 4, .i .i64 5, .i .i64 6, .i .i64 7, .ow 4, .ow 5, .ow 6], .bx [.pt 0 0], .bx [.i .i64 8, .s 9, .s 10, .i .i64 11, .s 12, .fz 9 false 13], .bx [.i .i64 14, .i .i64 15, .i .i64 16, .i .i64 17, .i .i64 18, .ow 7, .ow 8, .ow 9, .s 19, .i .i64 20, .s 21, .s 22], .dw 116 (some (3, 9)) 23, .rw 127 false 24, .rw 129 false 25, .dw 116 (some (3, 9)) 26, .rw 127 true 27, .rw 129 true 28]⟩⟩, ⟨21, [4, 5], ⟨[.sc (.pt 1 0), .sc (.fn 159 [])], [.bx [.i .i64 0, .i .i64 1, .i .i64 2, .i .i64 3, .ow 2, .ow 3, .ow 4], .bx [.i .i64 4, .i .i64 5, .i .i64 6, .i .i64 7, .i .i64 8, .ow 5, .ow 6, .ow 7, .s 9, .i .i64 10, .s 11, .s 12], .dw 116 (some (3, 9)) 13, .rw 127 false 14, .rw 129 false 15, .dw 116 (some (3, 9)) 16, .rw 127 true 17, .rw 129 true 18]⟩⟩, ⟨22, [2, 3, 4, 6, 13, 14, 15], ⟨[.sc (.pt 1 0), .sc (.pt 2 0), .sc (.pt 3 0), .sc (.fn 160 [(1, 0), (2, 0)]), .sc (.s 0), .sc (.i .i64 1), .sc (.b 2)], [.bx [.i .i64 3, .i .i64 4, .i .i64 5, .i .i64 6, .ow 4, .ow 5, .ow 6], .bx [.pt 0 0], .bx [.i .i64 7, .s 8, .s 9, .i .i64 10, .s 11, .fz 9 false 12], .bx [.i .i64 13, .i .i64 14, .i .i64 15, .i .i64 16, .i .i64 17, .ow 7, .ow 8, .ow 9, .s 18, .i .i64 19, .s 20, .s 21], .dw 116 (some (3, 9)) 22, .rw 127 false 23, .rw 129 false 24, .dw 116 (some (3, 9)) 25, .rw 127 true 26, .rw 129 true 27]⟩⟩, ⟨27, [4, 6, 13], ⟨[.sc (.pt 1 0), .sc (.fn 160 [(2, 0), (3, 0)]), .sc (.s 0)], [.bx [.i .i64 1, .i .i64 2, .i .i64 3, .i .i64 4, .ow 4, .ow 5, .ow 6], .bx [.i .i64 5, .i .i64 6, .i .i64 7, .i .i64 8, .i .i64 9, .ow 7, .ow 8, .ow 9, .s 10, .i .i64 11, .s 12, .s 13], .bx [.pt 0 0], .bx [.i .i64 14, .s 15, .s 16, .i .i64 17, .s 18, .fz 9 false 19], .dw 116 (some (3, 9)) 20, .rw 127 false 21, .rw 129 false 22, .dw 116 (some (3, 9)) 23, .rw 127 true 24, .rw 129 true 25]⟩⟩, ⟨65, [2, 4, 5, 30, 346, 347, 348], ⟨[.sc (.pt 1 0), .sc (.pt 2 0), .sc (.fn 159 []), .sc (.ow 3), .sc (.ow 4), .sc (.i .i64 0), .sc (.i .i64 1)], [.bx [.i .i64 2, .i .i64 3, .i .i64 4, .i .i64 5, .ow 5, .ow 6, .ow 4], .bx [.pt 0 0], .bx [.i .i64 6, .i .i64 7, .i .i64 8, .i .i64 9, .i .i64 10, .ow 7, .ow 8, .ow 9, .s 11, .i .i64 12, .s 13, .s 14], .rw 129 true 15, .rw 129 false 16, .dw 116 (some (3, 9)) 17, .rw 127 false 18, .dw 116 (some (3, 9)) 19, .rw 127 true 20, .rw 129 true 21]⟩⟩, ⟨76, [4, 5], ⟨[.sc (.pt 1 0), .sc (.fn 159 [])], [.bx [.i .i64 0, .i .i64 1, .i .i64 2, .i .i64 3, .ow 2, .ow 3, .ow 4], .bx [.i .i64 4, .i .i64 5, .i .i64 6, .i .i64 7, .i .i64 8, .ow 5, .ow 6, .ow 7, .s 9, .i .i64 10, .s 11, .s 12], .dw 116 (some (3, 9)) 13, .rw 127 false 14, .rw 129 false 15, .dw 116 (some (3, 9)) 16, .rw 127 true 17, .rw 129 true 18]⟩⟩, ⟨78, [4, 5], ⟨[.sc (.pt 1 0), .sc (.fn 159 [])], [.bx [.i .i64 0, .i .i64 1, .i .i64 2, .i .i64 3, .ow 2, .ow 3, .ow 4], .bx [.i .i64 4, .i .i64 5, .i .i64 6, .i .i64 7, .i .i64 8, .ow 5, .ow 6, .ow 7, .s 9, .i .i64 10, .s 11, .s 12], .dw 116 (some (3, 9)) 13, .rw 127 false 14, .rw 129 false 15, .dw 116 (some (3, 9)) 16, .rw 127 true 17, .rw 129 true 18]⟩⟩] }
noncomputable def Lqa : Option Nat → Lv → Option Lv := Lim Try.prog [dqbq.sig (Lqbq none), dql.sig (Lql none), dqs.sig (Lqs none), dqm.sig (Lqm none), dqn.sig (Lqn none), dq4.sig (Lq4 none), dqcc.sig (Lqcc none), dqcd.sig (Lqcd none), dqco.sig (Lqco none), dqb3.sig (Lqb3 none)] dqa Try.f109
theorem eqa_i (a0 : Int) (a1 a2 : ByteArray) (a3 : Int) (a4 : ByteArray) (a5 : Rw) (a6 a7 a8 a9 : Int) (a10 a11 a12 : Rw) : Lqa none [.i a0, .s a1, .s a2, .i a3, .s a4, .l a5, .i a6, .i a7, .i a8, .i a9, .l a10, .l a11, .l a12] =
 cond (decide ((a12.length : Int) < 200)) (
 Lqa (some 4) [.b (decide (a8 < 1000000000)), .i a6, .i a7, .i a8, .i a9, .i a0, .s a1, .s a2, .i a3, .s a4, .l a5, .i 0, .i 0, .i 0, .i 0, .i 0, .s (⟨#[]⟩ : ByteArray), .i 0, .s (⟨#[]⟩ : ByteArray), .s (⟨#[]⟩ : ByteArray), .l a10, .l a11, .l a12, .l [], .l [], .l []]) (
 Lqa (some 4) [.b false, .i a6, .i a7, .i a8, .i a9, .i a0, .s a1, .s a2, .i a3, .s a4, .l a5, .i 0, .i 0, .i 0, .i 0, .i 0, .s (⟨#[]⟩ : ByteArray), .i 0, .s (⟨#[]⟩ : ByteArray), .s (⟨#[]⟩ : ByteArray), .l a10, .l a11, .l a12, .l [], .l [], .l []]) := (zb _ _).trans (by kernel_rfl)
theorem eqa_4 (a0 : Bool) (a1 a2 a3 a4 a5 : Int) (a6 a7 : ByteArray) (a8 : Int) (a9 : ByteArray) (a10 : Rw) (a11 a12 a13 a14 a15 : Int) (a16 : ByteArray) (a17 : Int) (a18 a19 : ByteArray) (a20 a21 a22 a23 a24 a25 : Rw) : Lqa (some 4) [.b a0, .i a1, .i a2, .i a3, .i a4, .i a5, .s a6, .s a7, .i a8, .s a9, .l a10, .i a11, .i a12, .i a13, .i a14, .i a15, .s a16, .i a17, .s a18, .s a19, .l a20, .l a21, .l a22, .l a23, .l a24, .l a25] =
 cond (a5 == 1) (
 Lqa (some 7) [.b a0, .l a10, .i (a10.length : Int), .i 0, .i a1, .i a2, .i a3, .i a4, .i a5, .s a6, .s a7, .i a8, .s a9, .l a10, .i a11, .i a12, .i a13, .i a14, .i a15, .s a16, .i a17, .s a18, .s a19, .l a20, .l a21, .l a22, .l a23, .l a24, .l a25]) (
 cond (a5 == 2) (
 (Lqbq none [.s a6, .i a1, .i a2, .i a3, .i a4, .l a20, .l a21, .l a22]).bind fun y1 =>
 cond (!(g y1 1).bool) (
 (Lq4 none [.i 2]).bind fun y2 =>
 some [.i ((g y2 0).int), .i ((g y2 1).int), .i ((g y2 2).int), .i ((g y2 3).int), .i ((g y2 4).int), .s ((g y2 5).str), .i ((g y2 6).int), .s ((g y2 7).str), .s ((g y2 8).str), .i a1, .i a2, .i a3, .i a4, .l ((g y2 9).list), .l ((g y2 10).list), .l ((g y2 11).list), .l a20, .l a21, .l a22]) (
 (Lqcd none [.s a7, .i a1, .i a2, .i a3, .i a4, .l a20, .l a21, .l a22]).bind fun y3 =>
 cond ((g y3 1).bool) (
 cond (inb ((g y3 0).int) a21.length) (
 (Lq4 none [.i 0]).bind fun y4 =>
 some [.i ((g y4 0).int), .i ((g y4 1).int), .i ((g y4 2).int), .i ((g y4 3).int), .i ((g y4 4).int), .s ((g y4 5).str), .i ((g y4 6).int), .s ((g y4 7).str), .s ((g y4 8).str), .i a1, .i a2, .i a3, .i a4, .l ((g y4 9).list), .l ((g y4 10).list), .l ((g y4 11).list), .l a20, .l (wrs a21 (((g y3 0).int).toNat) 1 ([.s a6] : List C)), .l a22]) (
 none)) (
 cond ((a21.length : Int) == 100) (
 (Lq4 none [.i 4]).bind fun y5 =>
 some [.i ((g y5 0).int), .i ((g y5 1).int), .i ((g y5 2).int), .i ((g y5 3).int), .i ((g y5 4).int), .s ((g y5 5).str), .i ((g y5 6).int), .s ((g y5 7).str), .s ((g y5 8).str), .i a1, .i a2, .i a3, .i a4, .l ((g y5 9).list), .l ((g y5 10).list), .l ((g y5 11).list), .l a20, .l a21, .l a22]) (
 cond (decide (0 ≤ (g y3 0).int)) (
 cond (decide ((g y3 0).int ≤ (a21.length : Int))) (
 cond (decide ((Eng.sub a21 0 ((g y3 0).int).toNat).length ≤ most)) (
 cond (decide ((Eng.sub a21 0 ((g y3 0).int).toNat).length + ([[.s a7, .s a6]] : Rw).length ≤ most)) (
 cond (decide (0 ≤ (g y3 0).int)) (
 cond (decide ((g y3 0).int ≤ (a21.length : Int))) (
 cond (decide (((Eng.sub a21 0 ((g y3 0).int).toNat) ++ ([[.s a7, .s a6]] : Rw)).length + (Eng.sub a21 ((g y3 0).int).toNat a21.length).length ≤ most)) (
 Lqa (some 78) [.i a1, .i a2, .i a3, .i a4, .i a11, .i a12, .i a13, .i a14, .i a15, .s a16, .i a17, .s a18, .s a19, .l a20, .l (((Eng.sub a21 0 ((g y3 0).int).toNat) ++ ([[.s a7, .s a6]] : Rw)) ++ (Eng.sub a21 ((g y3 0).int).toNat a21.length)), .l a22, .l a23, .l a24, .l a25]) (
 none)) (
 none)) (
 none)) (
 none)) (
 none)) (
 none)) (
 none))))) (
 cond (a5 == 3) (
 (Lqcd none [.s a7, .i a1, .i a2, .i a3, .i a4, .l a20, .l a21, .l a22]).bind fun y6 =>
 cond (!(g y6 1).bool) (
 (Lq4 none [.i 5]).bind fun y7 =>
 some [.i ((g y7 0).int), .i ((g y7 1).int), .i ((g y7 2).int), .i ((g y7 3).int), .i ((g y7 4).int), .s ((g y7 5).str), .i ((g y7 6).int), .s ((g y7 7).str), .s ((g y7 8).str), .i a1, .i a2, .i a3, .i a4, .l ((g y7 9).list), .l ((g y7 10).list), .l ((g y7 11).list), .l a20, .l a21, .l a22]) (
 cond (decide (0 ≤ (g y6 0).int)) (
 cond (decide ((g y6 0).int ≤ (a21.length : Int))) (
 cond (decide (0 ≤ (IntKind.i64.wrap ((g y6 0).int + 1)))) (
 cond (decide ((IntKind.i64.wrap ((g y6 0).int + 1)) ≤ (a21.length : Int))) (
 cond (decide ((Eng.sub a21 0 (((g y6 0).int).toNat)).length + (Eng.sub a21 (IntKind.i64.wrap ((g y6 0).int + 1)).toNat a21.length).length ≤ most)) (
 Lqa (some 78) [.i a1, .i a2, .i a3, .i a4, .i a11, .i a12, .i a13, .i a14, .i a15, .s a16, .i a17, .s a18, .s a19, .l a20, .l ((Eng.sub a21 0 (((g y6 0).int).toNat)) ++ (Eng.sub a21 (IntKind.i64.wrap ((g y6 0).int + 1)).toNat a21.length)), .l a22, .l a23, .l a24, .l a25]) (
 none)) (
 none)) (
 none)) (
 none)) (
 none))) (
 cond (a5 == 4) (
 (Lqbq none [.s a6, .i a1, .i a2, .i a3, .i a4, .l a20, .l a21, .l a22]).bind fun y8 =>
 cond (!(g y8 1).bool) (
 (Lq4 none [.i 2]).bind fun y9 =>
 some [.i ((g y9 0).int), .i ((g y9 1).int), .i ((g y9 2).int), .i ((g y9 3).int), .i ((g y9 4).int), .s ((g y9 5).str), .i ((g y9 6).int), .s ((g y9 7).str), .s ((g y9 8).str), .i a1, .i a2, .i a3, .i a4, .l ((g y9 9).list), .l ((g y9 10).list), .l ((g y9 11).list), .l a20, .l a21, .l a22]) (
 cond (!a0) (
 (Lq4 none [.i 4]).bind fun y10 =>
 some [.i ((g y10 0).int), .i ((g y10 1).int), .i ((g y10 2).int), .i ((g y10 3).int), .i ((g y10 4).int), .s ((g y10 5).str), .i ((g y10 6).int), .s ((g y10 7).str), .s ((g y10 8).str), .i a1, .i a2, .i a3, .i a4, .l ((g y10 9).list), .l ((g y10 10).list), .l ((g y10 11).list), .l a20, .l a21, .l a22]) (
 (Lqcc none [.s a6, .i a1, .i a2, .i a3, .i a4, .i a5, .s a6, .s a7, .i a8, .s a9, .l a10, .l a20, .l a21, .l a22]).bind fun y11 =>
 some [.i ((g y11 0).int), .i ((g y11 1).int), .i ((g y11 2).int), .i ((g y11 3).int), .i ((g y11 4).int), .s ((g y11 5).str), .i ((g y11 6).int), .s ((g y11 7).str), .s ((g y11 8).str), .i ((g y11 9).int), .i ((g y11 10).int), .i ((g y11 11).int), .i ((g y11 12).int), .l ((g y11 22).list), .l ((g y11 23).list), .l ((g y11 24).list), .l ((g y11 19).list), .l ((g y11 20).list), .l ((g y11 21).list)]))) (
 cond (a5 == 5) (
 (Lqco none [.i a8, .i a1, .i a2, .i a3, .i a4, .l a20, .l a21, .l a22]).bind fun y12 =>
 cond (!(g y12 1).bool) (
 (Lq4 none [.i 5]).bind fun y13 =>
 some [.i ((g y13 0).int), .i ((g y13 1).int), .i ((g y13 2).int), .i ((g y13 3).int), .i ((g y13 4).int), .s ((g y13 5).str), .i ((g y13 6).int), .s ((g y13 7).str), .s ((g y13 8).str), .i a1, .i a2, .i a3, .i a4, .l ((g y13 9).list), .l ((g y13 10).list), .l ((g y13 11).list), .l a20, .l a21, .l a22]) (
 cond (decide (0 ≤ (g y12 0).int)) (
 cond (decide ((g y12 0).int ≤ (a22.length : Int))) (
 cond (decide (0 ≤ (IntKind.i64.wrap ((g y12 0).int + 1)))) (
 cond (decide ((IntKind.i64.wrap ((g y12 0).int + 1)) ≤ (a22.length : Int))) (
 cond (decide ((Eng.sub a22 0 (((g y12 0).int).toNat)).length + (Eng.sub a22 (IntKind.i64.wrap ((g y12 0).int + 1)).toNat a22.length).length ≤ most)) (
 Lqa (some 78) [.i a1, .i a2, .i a3, .i a4, .i a11, .i a12, .i a13, .i a14, .i a15, .s a16, .i a17, .s a18, .s a19, .l a20, .l a21, .l ((Eng.sub a22 0 (((g y12 0).int).toNat)) ++ (Eng.sub a22 (IntKind.i64.wrap ((g y12 0).int + 1)).toNat a22.length)), .l a23, .l a24, .l a25]) (
 none)) (
 none)) (
 none)) (
 none)) (
 none))) (
 cond (a5 == 6) (
 cond (decide (1000000000 < (IntKind.i64.wrap (a2 + a8)))) (
 (Lq4 none [.i 4]).bind fun y14 =>
 some [.i ((g y14 0).int), .i ((g y14 1).int), .i ((g y14 2).int), .i ((g y14 3).int), .i ((g y14 4).int), .s ((g y14 5).str), .i ((g y14 6).int), .s ((g y14 7).str), .s ((g y14 8).str), .i a1, .i a2, .i a3, .i a4, .l ((g y14 9).list), .l ((g y14 10).list), .l ((g y14 11).list), .l a20, .l a21, .l a22]) (
 Lqa (some 65) [.i (a22.length : Int), .i 0, .i a1, .i (IntKind.i64.wrap (a2 + a8)), .i a3, .i a4, .i a11, .i a12, .i a13, .i a14, .i a15, .s a16, .i a17, .s a18, .s a19, .l [], .l a22, .l a20, .l a21, .l a23, .l a24, .l a25])) (
 cond (a5 == 7) (
 (Lqbq none [.s a6, .i a1, .i a2, .i a3, .i a4, .l a20, .l a21, .l a22]).bind fun y15 =>
 cond (!(g y15 1).bool) (
 (Lq4 none [.i 2]).bind fun y16 =>
 some [.i ((g y16 0).int), .i ((g y16 1).int), .i ((g y16 2).int), .i ((g y16 3).int), .i ((g y16 4).int), .s ((g y16 5).str), .i ((g y16 6).int), .s ((g y16 7).str), .s ((g y16 8).str), .i a1, .i a2, .i a3, .i a4, .l ((g y16 9).list), .l ((g y16 10).list), .l ((g y16 11).list), .l a20, .l a21, .l a22]) (
 (Lqm none [.s a6, .i a1, .i a2, .i a3, .i a4, .l a20, .l a21, .l a22]).bind fun y17 =>
 cond ((g y17 0).bool) (
 Lqa (some 76) [.i a1, .i a2, .i a3, .i a4, .i a11, .i a12, .i a13, .i a14, .i a15, .s a16, .i a17, .s a18, .s a19, .l a20, .l a21, .l a22, .l a23, .l a24, .l a25]) (
 (Lqn none [.s a6, .i a1, .i a2, .i a3, .i a4, .l a20, .l a21, .l a22]).bind fun y18 =>
 cond ((g y18 0).bool) (
 Lqa (some 76) [.i a1, .i a2, .i a3, .i a4, .i a11, .i a12, .i a13, .i a14, .i a15, .s a16, .i a17, .s a18, .s a19, .l a20, .l a21, .l a22, .l a23, .l a24, .l a25]) (
 cond (decide (0 ≤ (g y15 0).int)) (
 cond (decide ((g y15 0).int ≤ (a20.length : Int))) (
 cond (decide (0 ≤ (IntKind.i64.wrap ((g y15 0).int + 1)))) (
 cond (decide ((IntKind.i64.wrap ((g y15 0).int + 1)) ≤ (a20.length : Int))) (
 cond (decide ((Eng.sub a20 0 (((g y15 0).int).toNat)).length + (Eng.sub a20 ((IntKind.i64.wrap ((g y15 0).int + 1)).toNat) a20.length).length ≤ most)) (
 cond (Nat.ble (((g y15 0).int).toNat) ((IntKind.i64.wrap ((g y15 0).int + 1)).toNat)) (
 Lqa (some 78) [.i a1, .i a2, .i a3, .i a4, .i a11, .i a12, .i a13, .i a14, .i a15, .s a16, .i a17, .s a18, .s a19, .l ((Eng.sub a20 0 (((g y15 0).int).toNat)) ++ (Eng.sub a20 ((IntKind.i64.wrap ((g y15 0).int + 1)).toNat) a20.length)), .l a21, .l a22, .l a23, .l a24, .l a25]) (
 none)) (
 none)) (
 none)) (
 none)) (
 none)) (
 none))))) (
 Lqa (some 78) [.i a1, .i a2, .i a3, .i a4, .i a11, .i a12, .i a13, .i a14, .i a15, .s a16, .i a17, .s a18, .s a19, .l a20, .l a21, .l a22, .l a23, .l a24, .l a25]))))))) := (zb _ _).trans (by kernel_rfl)
theorem eqa_7 (a0 : Bool) (a1 : Rw) (a2 a3 a4 a5 a6 a7 a8 : Int) (a9 a10 : ByteArray) (a11 : Int) (a12 : ByteArray) (a13 : Rw) (a14 a15 a16 a17 a18 : Int) (a19 : ByteArray) (a20 : Int) (a21 a22 : ByteArray) (a23 a24 a25 a26 a27 a28 : Rw) : Lqa (some 7) [.b a0, .l a1, .i a2, .i a3, .i a4, .i a5, .i a6, .i a7, .i a8, .s a9, .s a10, .i a11, .s a12, .l a13, .i a14, .i a15, .i a16, .i a17, .i a18, .s a19, .i a20, .s a21, .s a22, .l a23, .l a24, .l a25, .l a26, .l a27, .l a28] =
 cond (decide (a3 < a2)) (
 cond (inb a3 a1.length) (
 (Lqbq none [.s ((rd a1 a3.toNat 0).str), .i a4, .i a5, .i a6, .i a7, .l a23, .l a24, .l a25]).bind fun y1 =>
 cond (!(g y1 1).bool) (
 (Lq4 none [.i 2]).bind fun y2 =>
 some [.i ((g y2 0).int), .i ((g y2 1).int), .i ((g y2 2).int), .i ((g y2 3).int), .i ((g y2 4).int), .s ((g y2 5).str), .i ((g y2 6).int), .s ((g y2 7).str), .s ((g y2 8).str), .i a4, .i a5, .i a6, .i a7, .l ((g y2 9).list), .l ((g y2 10).list), .l ((g y2 11).list), .l a23, .l a24, .l a25]) (
 Lqa (some 7) [.b a0, .l a1, .i a2, .i (IntKind.i64.wrap (a3 + 1)), .i a4, .i a5, .i a6, .i a7, .i a8, .s a9, .s a10, .i a11, .s a12, .l a13, .i a14, .i a15, .i a16, .i a17, .i a18, .s a19, .i a20, .s a21, .s a22, .l a23, .l a24, .l a25, .l a26, .l a27, .l a28])) (
 none)) (
 (Lqs none [.s a12, .l a13]).bind fun y3 =>
 (Lql none [.s ((g y3 0).str), .i a4]).bind fun y4 =>
 (Lqbq none [.s ((g y4 0).str), .i a4, .i a5, .i a6, .i a7, .l a23, .l a24, .l a25]).bind fun y5 =>
 cond ((g y5 1).bool) (
 cond (inb ((g y5 0).int) a23.length) (
 (Lqs none [.s ((rd a23 (((g y5 0).int).toNat) 2).str), .l ((rd a23 (((g y5 0).int).toNat) 3).list)]).bind fun y6 =>
 cond (!Eng.seq ((g y6 0).str) ((g y3 0).str)) (
 some [.i 3, .i 0, .i 0, .i 0, .i 0, .s (⟨#[]⟩ : ByteArray), .i 0, .s ((g y6 0).str), .s ((g y3 0).str), .i a4, .i a5, .i a6, .i a7, .l [], .l [], .l [], .l a23, .l a24, .l a25]) (
 cond (!a0) (
 Lqa (some 21) [.i a4, .i a5, .i a6, .i a7, .i a14, .i a15, .i a16, .i a17, .i a18, .s a19, .i a20, .s a21, .s a22, .l a23, .l a24, .l a25, .l a26, .l a27, .l a28]) (
 cond (!(g y5 1).bool) (
 cond ((a23.length : Int) == 600) (
 Lqa (some 21) [.i a4, .i a5, .i a6, .i a7, .i a14, .i a15, .i a16, .i a17, .i a18, .s a19, .i a20, .s a21, .s a22, .l a23, .l a24, .l a25, .l a26, .l a27, .l a28]) (
 cond (a7 == 1000000000) (
 Lqa (some 21) [.i a4, .i a5, .i a6, .i a7, .i a14, .i a15, .i a16, .i a17, .i a18, .s a19, .i a20, .s a21, .s a22, .l a23, .l a24, .l a25, .l a26, .l a27, .l a28]) (
 Lqa (some 22) [.s ((g y4 0).str), .i ((g y5 0).int), .b ((g y5 1).bool), .i a4, .i a5, .i a6, .i a7, .i a8, .s a9, .s a10, .i a11, .s a12, .l a13, .i a14, .i a15, .i a16, .i a17, .i a18, .s a19, .i a20, .s a21, .s a22, .l a23, .l a24, .l a25, .l a26, .l a27, .l a28]))) (
 Lqa (some 22) [.s ((g y4 0).str), .i ((g y5 0).int), .b ((g y5 1).bool), .i a4, .i a5, .i a6, .i a7, .i a8, .s a9, .s a10, .i a11, .s a12, .l a13, .i a14, .i a15, .i a16, .i a17, .i a18, .s a19, .i a20, .s a21, .s a22, .l a23, .l a24, .l a25, .l a26, .l a27, .l a28])))) (
 none)) (
 cond (!a0) (
 Lqa (some 21) [.i a4, .i a5, .i a6, .i a7, .i a14, .i a15, .i a16, .i a17, .i a18, .s a19, .i a20, .s a21, .s a22, .l a23, .l a24, .l a25, .l a26, .l a27, .l a28]) (
 cond (!(g y5 1).bool) (
 cond ((a23.length : Int) == 600) (
 Lqa (some 21) [.i a4, .i a5, .i a6, .i a7, .i a14, .i a15, .i a16, .i a17, .i a18, .s a19, .i a20, .s a21, .s a22, .l a23, .l a24, .l a25, .l a26, .l a27, .l a28]) (
 cond (a7 == 1000000000) (
 Lqa (some 21) [.i a4, .i a5, .i a6, .i a7, .i a14, .i a15, .i a16, .i a17, .i a18, .s a19, .i a20, .s a21, .s a22, .l a23, .l a24, .l a25, .l a26, .l a27, .l a28]) (
 Lqa (some 22) [.s ((g y4 0).str), .i ((g y5 0).int), .b ((g y5 1).bool), .i a4, .i a5, .i a6, .i a7, .i a8, .s a9, .s a10, .i a11, .s a12, .l a13, .i a14, .i a15, .i a16, .i a17, .i a18, .s a19, .i a20, .s a21, .s a22, .l a23, .l a24, .l a25, .l a26, .l a27, .l a28]))) (
 Lqa (some 22) [.s ((g y4 0).str), .i ((g y5 0).int), .b ((g y5 1).bool), .i a4, .i a5, .i a6, .i a7, .i a8, .s a9, .s a10, .i a11, .s a12, .l a13, .i a14, .i a15, .i a16, .i a17, .i a18, .s a19, .i a20, .s a21, .s a22, .l a23, .l a24, .l a25, .l a26, .l a27, .l a28])))) := (zb _ _).trans (by kernel_rfl)
theorem eqa_21 (a0 a1 a2 a3 a4 a5 a6 a7 a8 : Int) (a9 : ByteArray) (a10 : Int) (a11 a12 : ByteArray) (a13 a14 a15 a16 a17 a18 : Rw) : Lqa (some 21) [.i a0, .i a1, .i a2, .i a3, .i a4, .i a5, .i a6, .i a7, .i a8, .s a9, .i a10, .s a11, .s a12, .l a13, .l a14, .l a15, .l a16, .l a17, .l a18] =
 (Lq4 none [.i 4]).bind fun y1 =>
 some [.i ((g y1 0).int), .i ((g y1 1).int), .i ((g y1 2).int), .i ((g y1 3).int), .i ((g y1 4).int), .s ((g y1 5).str), .i ((g y1 6).int), .s ((g y1 7).str), .s ((g y1 8).str), .i a0, .i a1, .i a2, .i a3, .l ((g y1 9).list), .l ((g y1 10).list), .l ((g y1 11).list), .l a13, .l a14, .l a15] := (zb _ _).trans (by kernel_rfl)
theorem eqa_22 (a0 : ByteArray) (a1 : Int) (a2 : Bool) (a3 a4 a5 a6 a7 : Int) (a8 a9 : ByteArray) (a10 : Int) (a11 : ByteArray) (a12 : Rw) (a13 a14 a15 a16 a17 : Int) (a18 : ByteArray) (a19 : Int) (a20 a21 : ByteArray) (a22 a23 a24 a25 a26 a27 : Rw) : Lqa (some 22) [.s a0, .i a1, .b a2, .i a3, .i a4, .i a5, .i a6, .i a7, .s a8, .s a9, .i a10, .s a11, .l a12, .i a13, .i a14, .i a15, .i a16, .i a17, .s a18, .i a19, .s a20, .s a21, .l a22, .l a23, .l a24, .l a25, .l a26, .l a27] =
 cond (!a2) (
 cond (decide (0 ≤ a1)) (
 cond (decide (a1 ≤ (a22.length : Int))) (
 cond (decide ((Eng.sub a22 0 a1.toNat).length ≤ most)) (
 (Lqb3 none [.l a12]).bind fun y1 =>
 cond (decide ((Eng.sub a22 0 a1.toNat).length + ([[.s a0, .i (IntKind.i64.wrap (a6 + 1)), .s a11, .l ((g y1 0).list)]] : Rw).length ≤ most)) (
 cond (decide (0 ≤ a1)) (
 cond (decide (a1 ≤ (a22.length : Int))) (
 cond (decide (((Eng.sub a22 0 a1.toNat) ++ ([[.s a0, .i (IntKind.i64.wrap (a6 + 1)), .s a11, .l ((g y1 0).list)]] : Rw)).length + (Eng.sub a22 a1.toNat a22.length).length ≤ most)) (
 cond (Nat.beq a1.toNat a1.toNat) (
 cond (Nat.beq a22.length a22.length) (
 Lqa (some 27) [.s a0, .i a3, .i a4, .i a5, .i (IntKind.i64.wrap (a6 + 1)), .i a13, .i a14, .i a15, .i a16, .i a17, .s a18, .i a19, .s a20, .s a21, .i a7, .s a8, .s a9, .i a10, .s a11, .l a12, .l (((Eng.sub a22 0 a1.toNat) ++ ([[.s a0, .i (IntKind.i64.wrap (a6 + 1)), .s a11, .l ((g y1 0).list)]] : Rw)) ++ (Eng.sub a22 a1.toNat a22.length)), .l a23, .l a24, .l a25, .l a26, .l a27]) (
 none)) (
 none)) (
 none)) (
 none)) (
 none)) (
 none)) (
 none)) (
 none)) (
 none)) (
 Lqa (some 27) [.s a0, .i a3, .i a4, .i a5, .i a6, .i a13, .i a14, .i a15, .i a16, .i a17, .s a18, .i a19, .s a20, .s a21, .i a7, .s a8, .s a9, .i a10, .s a11, .l a12, .l a22, .l a23, .l a24, .l a25, .l a26, .l a27]) := (zb _ _).trans (by kernel_rfl)
theorem eqa_27 (a0 : ByteArray) (a1 a2 a3 a4 a5 a6 a7 a8 a9 : Int) (a10 : ByteArray) (a11 : Int) (a12 a13 : ByteArray) (a14 : Int) (a15 a16 : ByteArray) (a17 : Int) (a18 : ByteArray) (a19 a20 a21 a22 a23 a24 a25 : Rw) : Lqa (some 27) [.s a0, .i a1, .i a2, .i a3, .i a4, .i a5, .i a6, .i a7, .i a8, .i a9, .s a10, .i a11, .s a12, .s a13, .i a14, .s a15, .s a16, .i a17, .s a18, .l a19, .l a20, .l a21, .l a22, .l a23, .l a24, .l a25] =
 (Lqcc none [.s a0, .i a1, .i a2, .i a3, .i a4, .i a14, .s a15, .s a16, .i a17, .s a18, .l a19, .l a20, .l a21, .l a22]).bind fun y1 =>
 some [.i ((g y1 0).int), .i ((g y1 1).int), .i ((g y1 2).int), .i ((g y1 3).int), .i ((g y1 4).int), .s a0, .i ((g y1 6).int), .s ((g y1 7).str), .s ((g y1 8).str), .i ((g y1 9).int), .i ((g y1 10).int), .i ((g y1 11).int), .i ((g y1 12).int), .l ((g y1 22).list), .l ((g y1 23).list), .l ((g y1 24).list), .l ((g y1 19).list), .l ((g y1 20).list), .l ((g y1 21).list)] := (zb _ _).trans (by kernel_rfl)
theorem eqa_65 (a0 a1 a2 a3 a4 a5 a6 a7 a8 a9 a10 : Int) (a11 : ByteArray) (a12 : Int) (a13 a14 : ByteArray) (a15 a16 a17 a18 a19 a20 a21 : Rw) : Lqa (some 65) [.i a0, .i a1, .i a2, .i a3, .i a4, .i a5, .i a6, .i a7, .i a8, .i a9, .i a10, .s a11, .i a12, .s a13, .s a14, .l a15, .l a16, .l a17, .l a18, .l a19, .l a20, .l a21] =
 cond (decide (a1 < a0)) (
 cond (inb a1 a16.length) (
 cond (decide (a3 < (rd a16 a1.toNat 2).int)) (
 cond (decide (a15.length + ([[.i ((rd a16 a1.toNat 0).int), .s ((rd a16 a1.toNat 1).str), .i ((rd a16 a1.toNat 2).int)]] : Rw).length ≤ most)) (
 Lqa (some 65) [.i a0, .i (IntKind.i64.wrap (a1 + 1)), .i a2, .i a3, .i a4, .i a5, .i a6, .i a7, .i a8, .i a9, .i a10, .s a11, .i a12, .s a13, .s a14, .l (a15 ++ ([[.i ((rd a16 a1.toNat 0).int), .s ((rd a16 a1.toNat 1).str), .i ((rd a16 a1.toNat 2).int)]] : Rw)), .l a16, .l a17, .l a18, .l a19, .l a20, .l a21]) (
 none)) (
 Lqa (some 65) [.i a0, .i (IntKind.i64.wrap (a1 + 1)), .i a2, .i a3, .i a4, .i a5, .i a6, .i a7, .i a8, .i a9, .i a10, .s a11, .i a12, .s a13, .s a14, .l a15, .l a16, .l a17, .l a18, .l a19, .l a20, .l a21])) (
 none)) (
 Lqa (some 78) [.i a2, .i a3, .i a4, .i a5, .i a6, .i a7, .i a8, .i a9, .i a10, .s a11, .i a12, .s a13, .s a14, .l a17, .l a18, .l a15, .l a19, .l a20, .l a21]) := (zb _ _).trans (by kernel_rfl)
theorem eqa_76 (a0 a1 a2 a3 a4 a5 a6 a7 a8 : Int) (a9 : ByteArray) (a10 : Int) (a11 a12 : ByteArray) (a13 a14 a15 a16 a17 a18 : Rw) : Lqa (some 76) [.i a0, .i a1, .i a2, .i a3, .i a4, .i a5, .i a6, .i a7, .i a8, .s a9, .i a10, .s a11, .s a12, .l a13, .l a14, .l a15, .l a16, .l a17, .l a18] =
 (Lq4 none [.i 6]).bind fun y1 =>
 some [.i ((g y1 0).int), .i ((g y1 1).int), .i ((g y1 2).int), .i ((g y1 3).int), .i ((g y1 4).int), .s ((g y1 5).str), .i ((g y1 6).int), .s ((g y1 7).str), .s ((g y1 8).str), .i a0, .i a1, .i a2, .i a3, .l ((g y1 9).list), .l ((g y1 10).list), .l ((g y1 11).list), .l a13, .l a14, .l a15] := (zb _ _).trans (by kernel_rfl)
theorem eqa_78 (a0 a1 a2 a3 a4 a5 a6 a7 a8 : Int) (a9 : ByteArray) (a10 : Int) (a11 a12 : ByteArray) (a13 a14 a15 a16 a17 a18 : Rw) : Lqa (some 78) [.i a0, .i a1, .i a2, .i a3, .i a4, .i a5, .i a6, .i a7, .i a8, .s a9, .i a10, .s a11, .s a12, .l a13, .l a14, .l a15, .l a16, .l a17, .l a18] =
 (Lq4 none [.i 0]).bind fun y1 =>
 some [.i ((g y1 0).int), .i ((g y1 1).int), .i ((g y1 2).int), .i ((g y1 3).int), .i ((g y1 4).int), .s ((g y1 5).str), .i ((g y1 6).int), .s ((g y1 7).str), .s ((g y1 8).str), .i a0, .i a1, .i a2, .i a3, .l ((g y1 9).list), .l ((g y1 10).list), .l ((g y1 11).list), .l a13, .l a14, .l a15] := (zb _ _).trans (by kernel_rfl)
theorem kqa : SigOk Try.prog (dqa.sig (Lqa none)) ∧ (dqa.sig (Lqa none)).ok = true := zg (zd kqbq (by kernel_rfl) (zd kql (by kernel_rfl) (zd kqs (by kernel_rfl) (zd kqm (by kernel_rfl) (zd kqn (by kernel_rfl) (zd kq4 (by kernel_rfl) (zd kqcc (by kernel_rfl) (zd kqcd (by kernel_rfl) (zd kqco (by kernel_rfl) (zd kqb3 (by kernel_rfl) zf)))))))))) (by kernel_rfl) (by kernel_rfl) (by kernel_rfl)
def dqb8 : FD := { fn := 166, nb := 0, pre := ⟨[.sc (.i .i64 0)], []⟩, post := ⟨[.sc (.b 0)], []⟩, sh := false, cuts := [] }
noncomputable def Lqb8 : Option Nat → Lv → Option Lv := Lim Try.prog [] dqb8 Try.f166
theorem eqb8_i (a0 : Int) : Lqb8 none [.i a0] =
 cond (a0 == 2) (
 some [.b true]) (
 cond (a0 == 4) (
 some [.b true]) (
 some [.b (a0 == 7)])) := (zb _ _).trans (by kernel_rfl)
theorem kqb8 : SigOk Try.prog (dqb8.sig (Lqb8 none)) ∧ (dqb8.sig (Lqb8 none)).ok = true := zg zf (by kernel_rfl) (by kernel_rfl) (by kernel_rfl)
def dqb9 : FD := { fn := 167, nb := 0, pre := ⟨[.sc (.i .i64 0)], []⟩, post := ⟨[.sc (.b 0)], []⟩, sh := false, cuts := [] }
noncomputable def Lqb9 : Option Nat → Lv → Option Lv := Lim Try.prog [] dqb9 Try.f167
theorem eqb9_i (a0 : Int) : Lqb9 none [.i a0] =
 cond (a0 == 2) (
 some [.b true]) (
 some [.b (a0 == 3)]) := (zb _ _).trans (by kernel_rfl)
theorem kqb9 : SigOk Try.prog (dqb9.sig (Lqb9 none)) ∧ (dqb9.sig (Lqb9 none)).ok = true := zg zf (by kernel_rfl) (by kernel_rfl) (by kernel_rfl)
def dqe : FD := { fn := 113, nb := 0, pre := ⟨[.ag [.i .i64 0, .s 1, .s 2, .i .i64 3, .s 4, .fz 9 false 5], .sc (.i .i64 6)], []⟩, post := ⟨[.sc (.b 0)], []⟩, sh := false, cuts := [⟨5, [1, 2], ⟨[.sc (.i .i64 0), .sc (.pt 0 0)], [.bx [.i .i64 1, .s 2, .s 3, .i .i64 4, .s 5, .fz 9 false 6]]⟩⟩, ⟨7, [1, 2], ⟨[.sc (.i .i64 0), .sc (.pt 0 0)], [.bx [.i .i64 1, .s 2, .s 3, .i .i64 4, .s 5, .fz 9 false 6]]⟩⟩, ⟨13, [1, 2, 5, 6, 62], ⟨[.sc (.i .i64 0), .sc (.pt 0 0), .sc (.i .i64 1), .sc (.i .i64 2), .sc (.i .i64 3)], [.bx [.i .i64 4, .s 5, .s 6, .i .i64 7, .s 8, .fz 9 false 9]]⟩⟩, ⟨15, [1, 2, 5, 6], ⟨[.sc (.i .i64 0), .sc (.pt 0 0), .sc (.i .i64 1), .sc (.i .i64 2)], [.bx [.i .i64 3, .s 4, .s 5, .i .i64 6, .s 7, .fz 9 false 8]]⟩⟩] }
noncomputable def Lqe : Option Nat → Lv → Option Lv := Lim Try.prog [dq3.sig (Lq3 none), dqr.sig (Lqr none), dqy.sig (Lqy none), dqb8.sig (Lqb8 none), dqb9.sig (Lqb9 none)] dqe Try.f113
theorem eqe_i (a0 : Int) (a1 a2 : ByteArray) (a3 : Int) (a4 : ByteArray) (a5 : Rw) (a6 : Int) : Lqe none [.i a0, .s a1, .s a2, .i a3, .s a4, .l a5, .i a6] =
 cond (decide (a0 < 1)) (
 some [.b false]) (
 cond (decide (7 < a0)) (
 some [.b false]) (
 (Lq3 none [.i a6]).bind fun y1 =>
 cond (!(g y1 0).bool) (
 some [.b false]) (
 (Lqb8 none [.i a0]).bind fun y2 =>
 cond ((g y2 0).bool) (
 cond ((a1.size : Int) != a6) (
 some [.b false]) (
 (Lqb8 none [.i a0]).bind fun y3 =>
 cond (!(g y3 0).bool) (
 cond (!Eng.seq a1 (⟨#[]⟩ : ByteArray)) (
 some [.b false]) (
 Lqe (some 5) [.i a6, .i a0, .s a1, .s a2, .i a3, .s a4, .l a5])) (
 Lqe (some 5) [.i a6, .i a0, .s a1, .s a2, .i a3, .s a4, .l a5]))) (
 (Lqb8 none [.i a0]).bind fun y4 =>
 cond (!(g y4 0).bool) (
 cond (!Eng.seq a1 (⟨#[]⟩ : ByteArray)) (
 some [.b false]) (
 Lqe (some 5) [.i a6, .i a0, .s a1, .s a2, .i a3, .s a4, .l a5])) (
 Lqe (some 5) [.i a6, .i a0, .s a1, .s a2, .i a3, .s a4, .l a5]))))) := (zb _ _).trans (by kernel_rfl)
theorem eqe_5 (a0 a1 : Int) (a2 a3 : ByteArray) (a4 : Int) (a5 : ByteArray) (a6 : Rw) : Lqe (some 5) [.i a0, .i a1, .s a2, .s a3, .i a4, .s a5, .l a6] =
 (Lqb9 none [.i a1]).bind fun y1 =>
 cond ((g y1 0).bool) (
 (Lqy none [.s a3]).bind fun y2 =>
 cond (!(g y2 0).bool) (
 some [.b false]) (
 (Lqb9 none [.i a1]).bind fun y3 =>
 cond (!(g y3 0).bool) (
 cond (!Eng.seq a3 (⟨#[]⟩ : ByteArray)) (
 some [.b false]) (
 Lqe (some 7) [.i a0, .i a1, .s a2, .s a3, .i a4, .s a5, .l a6])) (
 Lqe (some 7) [.i a0, .i a1, .s a2, .s a3, .i a4, .s a5, .l a6]))) (
 (Lqb9 none [.i a1]).bind fun y4 =>
 cond (!(g y4 0).bool) (
 cond (!Eng.seq a3 (⟨#[]⟩ : ByteArray)) (
 some [.b false]) (
 Lqe (some 7) [.i a0, .i a1, .s a2, .s a3, .i a4, .s a5, .l a6])) (
 Lqe (some 7) [.i a0, .i a1, .s a2, .s a3, .i a4, .s a5, .l a6])) := (zb _ _).trans (by kernel_rfl)
theorem eqe_7 (a0 a1 : Int) (a2 a3 : ByteArray) (a4 : Int) (a5 : ByteArray) (a6 : Rw) : Lqe (some 7) [.i a0, .i a1, .s a2, .s a3, .i a4, .s a5, .l a6] =
 cond (a1 == 1) (
 cond (a1 == 1) (
 Lqe (some 15) [.i a0, .i 1, .i 100000, .i a1, .s a2, .s a3, .i a4, .s a5, .l a6]) (
 Lqe (some 13) [.i a0, .i 0, .i 0, .i a1, .i a1, .s a2, .s a3, .i a4, .s a5, .l a6])) (
 cond (a1 == 4) (
 cond (a1 == 4) (
 Lqe (some 15) [.i a0, .i 1, .i 100000, .i a1, .s a2, .s a3, .i a4, .s a5, .l a6]) (
 Lqe (some 13) [.i a0, .i 0, .i 0, .i a1, .i a1, .s a2, .s a3, .i a4, .s a5, .l a6])) (
 cond (a1 == 6) (
 Lqe (some 15) [.i a0, .i 1, .i 100000, .i a1, .s a2, .s a3, .i a4, .s a5, .l a6]) (
 Lqe (some 13) [.i a0, .i 0, .i 0, .i a1, .i a1, .s a2, .s a3, .i a4, .s a5, .l a6]))) := (zb _ _).trans (by kernel_rfl)
theorem eqe_13 (a0 a1 a2 a3 a4 : Int) (a5 a6 : ByteArray) (a7 : Int) (a8 : ByteArray) (a9 : Rw) : Lqe (some 13) [.i a0, .i a1, .i a2, .i a3, .i a4, .s a5, .s a6, .i a7, .s a8, .l a9] =
 cond (a3 == 5) (
 Lqe (some 15) [.i a0, .i 1, .i 1000000000, .i a4, .s a5, .s a6, .i a7, .s a8, .l a9]) (
 Lqe (some 15) [.i a0, .i a1, .i a2, .i a4, .s a5, .s a6, .i a7, .s a8, .l a9]) := (zb _ _).trans (by kernel_rfl)
theorem eqe_15 (a0 a1 a2 a3 : Int) (a4 a5 : ByteArray) (a6 : Int) (a7 : ByteArray) (a8 : Rw) : Lqe (some 15) [.i a0, .i a1, .i a2, .i a3, .s a4, .s a5, .i a6, .s a7, .l a8] =
 cond (decide (a6 < a1)) (
 some [.b false]) (
 cond (decide (a2 < a6)) (
 some [.b false]) (
 cond (a3 == 1) (
 (Lqr none [.s a7, .l a8, .i a0]).bind fun y1 =>
 some [.b ((g y1 0).bool)]) (
 cond (Eng.seq a7 (⟨#[]⟩ : ByteArray)) (
 some [.b ((a8.length : Int) == 0)]) (
 some [.b false])))) := (zb _ _).trans (by kernel_rfl)
theorem kqe : SigOk Try.prog (dqe.sig (Lqe none)) ∧ (dqe.sig (Lqe none)).ok = true := zg (zd kq3 (by kernel_rfl) (zd kqr (by kernel_rfl) (zd kqy (by kernel_rfl) (zd kqb8 (by kernel_rfl) (zd kqb9 (by kernel_rfl) zf))))) (by kernel_rfl) (by kernel_rfl) (by kernel_rfl)
def dqbt : FD := { fn := 108, nb := 0, pre := ⟨[.ag [.i .i64 0, .i .i64 1, .i .i64 2, .i .i64 3, .fz 116 false 4, .fz 127 false 5, .fz 129 false 6]], []⟩, post := ⟨[.ag [.i .i64 0, .i .i64 1, .i .i64 2, .i .i64 3, .ow 0, .ow 1, .ow 2]], [.dw 116 (some (3, 9)) 4, .rw 127 true 5, .rw 129 true 6]⟩, sh := false, cuts := [⟨4, [1, 2, 9, 10, 11], ⟨[.sc (.pt 0 0), .sc (.pt 1 0), .sc (.fz 116 false 0), .sc (.i .i64 1), .sc (.i .i64 2)], [.bx [.i .i64 3, .i .i64 4, .i .i64 5, .i .i64 6, .ow 2, .fz 127 false 7, .fz 129 false 8], .bx [.i .i64 9, .i .i64 10, .i .i64 11, .i .i64 12, .ow 3, .ow 4, .ow 5], .dw 116 (some (3, 9)) 13, .dw 116 (some (3, 9)) 14, .rw 127 true 15, .rw 129 true 16]⟩⟩] }
noncomputable def Lqbt : Option Nat → Lv → Option Lv := Lim Try.prog [dqb3.sig (Lqb3 none)] dqbt Try.f108
theorem eqbt_i (a0 a1 a2 a3 : Int) (a4 a5 a6 : Rw) : Lqbt none [.i a0, .i a1, .i a2, .i a3, .l a4, .l a5, .l a6] =
 Lqbt (some 4) [.l a4, .i (a4.length : Int), .i 0, .i a0, .i a1, .i a2, .i a3, .l a5, .l a6, .i 0, .i 0, .i 0, .i 0, .l [], .l [], .l [], .l []] := (zb _ _).trans (by kernel_rfl)
theorem eqbt_4 (a0 : Rw) (a1 a2 a3 a4 a5 a6 : Int) (a7 a8 : Rw) (a9 a10 a11 a12 : Int) (a13 a14 a15 a16 : Rw) : Lqbt (some 4) [.l a0, .i a1, .i a2, .i a3, .i a4, .i a5, .i a6, .l a7, .l a8, .i a9, .i a10, .i a11, .i a12, .l a13, .l a14, .l a15, .l a16] =
 cond (decide (a2 < a1)) (
 cond (inb a2 a0.length) (
 (Lqb3 none [.l ((rd a0 a2.toNat 3).list)]).bind fun y1 =>
 cond (decide (a13.length + ([[.s ((rd a0 a2.toNat 0).str), .i ((rd a0 a2.toNat 1).int), .s ((rd a0 a2.toNat 2).str), .l ((g y1 0).list)]] : Rw).length ≤ most)) (
 Lqbt (some 4) [.l a0, .i a1, .i (IntKind.i64.wrap (a2 + 1)), .i a3, .i a4, .i a5, .i a6, .l a7, .l a8, .i a9, .i a10, .i a11, .i a12, .l (a13 ++ ([[.s ((rd a0 a2.toNat 0).str), .i ((rd a0 a2.toNat 1).int), .s ((rd a0 a2.toNat 2).str), .l ((g y1 0).list)]] : Rw)), .l a14, .l a15, .l a16]) (
 none)) (
 none)) (
 cond (decide (a7.length ≤ most)) (
 cond (decide (a8.length ≤ most)) (
 some [.i a3, .i a4, .i a5, .i a6, .l a13, .l a7, .l a8]) (
 none)) (
 none)) := (zb _ _).trans (by kernel_rfl)
theorem kqbt : SigOk Try.prog (dqbt.sig (Lqbt none)) ∧ (dqbt.sig (Lqbt none)).ok = true := zg (zd kqb3 (by kernel_rfl) zf) (by kernel_rfl) (by kernel_rfl) (by kernel_rfl)
def dqce : FD := { fn := 58, nb := 0, pre := ⟨[.ag [.i .i64 0, .i .i64 1, .i .i64 2, .i .i64 3, .fz 116 false 4, .fz 127 false 5, .fz 129 false 6], .ag [.i .i64 7, .s 8, .s 9, .i .i64 10, .s 11, .fz 9 false 12]], []⟩, post := ⟨[.ag [.i .i64 0, .i .i64 1, .i .i64 2, .i .i64 3, .i .i64 4, .ow 0, .ow 1, .ow 2, .s 5, .i .i64 6, .s 7, .s 8]], [.dw 116 (some (3, 9)) 9, .dw 127 none 10, .dw 129 none 11]⟩, sh := false, cuts := [] }
noncomputable def Lqce : Option Nat → Lv → Option Lv := Lim Try.prog [dqb.sig (Lqb none), dqa.sig (Lqa none), dqe.sig (Lqe none), dqbt.sig (Lqbt none)] dqce Try.f58
theorem eqce_i (a0 a1 a2 a3 : Int) (a4 a5 a6 : Rw) (a7 : Int) (a8 a9 : ByteArray) (a10 : Int) (a11 : ByteArray) (a12 : Rw) : Lqce none [.i a0, .i a1, .i a2, .i a3, .l a4, .l a5, .l a6, .i a7, .s a8, .s a9, .i a10, .s a11, .l a12] =
 (Lqb none [.i a0, .i a1, .i a2, .i a3, .l a4, .l a5, .l a6]).bind fun y1 =>
 cond (!(g y1 0).bool) (
 some [.i 1, .i 0, .i 0, .i 0, .i 0, .s (⟨#[]⟩ : ByteArray), .i 0, .s (⟨#[]⟩ : ByteArray), .s (⟨#[]⟩ : ByteArray), .l [], .l [], .l []]) (
 (Lqe none [.i a7, .s a8, .s a9, .i a10, .s a11, .l a12, .i a0]).bind fun y2 =>
 cond (!(g y2 0).bool) (
 some [.i 1, .i 0, .i 0, .i 0, .i 0, .s (⟨#[]⟩ : ByteArray), .i 0, .s (⟨#[]⟩ : ByteArray), .s (⟨#[]⟩ : ByteArray), .l [], .l [], .l []]) (
 (Lqbt none [.i a0, .i a1, .i a2, .i a3, .l a4, .l a5, .l a6]).bind fun y3 =>
 (Lqa none [.i a7, .s a8, .s a9, .i a10, .s a11, .l a12, .i ((g y3 0).int), .i ((g y3 1).int), .i ((g y3 2).int), .i ((g y3 3).int), .l ((g y3 4).list), .l ((g y3 5).list), .l ((g y3 6).list)]).bind fun y4 =>
 cond ((g y4 0).int == 0) (
 some [.i ((g y4 0).int), .i ((g y4 9).int), .i ((g y4 10).int), .i ((g y4 11).int), .i ((g y4 12).int), .s ((g y4 5).str), .i ((g y4 6).int), .s ((g y4 7).str), .s ((g y4 8).str), .l ((g y4 16).list), .l ((g y4 17).list), .l ((g y4 18).list)]) (
 some [.i ((g y4 0).int), .i ((g y4 1).int), .i ((g y4 2).int), .i ((g y4 3).int), .i ((g y4 4).int), .s ((g y4 5).str), .i ((g y4 6).int), .s ((g y4 7).str), .s ((g y4 8).str), .l ((g y4 13).list), .l ((g y4 14).list), .l ((g y4 15).list)]))) := (zb _ _).trans (by kernel_rfl)
theorem kqce : SigOk Try.prog (dqce.sig (Lqce none)) ∧ (dqce.sig (Lqce none)).ok = true := zg (zd kqb (by kernel_rfl) (zd kqa (by kernel_rfl) (zd kqe (by kernel_rfl) (zd kqbt (by kernel_rfl) zf)))) (by kernel_rfl) (by kernel_rfl) (by kernel_rfl)
def dqcp : FD := { fn := 59, nb := 0, pre := ⟨[.ag [.i .i64 0, .s 1, .s 2, .i .i64 3, .s 4, .fz 9 false 5], .ag [.i .i64 6, .s 7, .s 8, .i .i64 9, .s 10, .fz 9 false 11]], []⟩, post := ⟨[.sc (.b 0)], []⟩, sh := false, cuts := [] }
noncomputable def Lqcp : Option Nat → Lv → Option Lv := Lim Try.prog [dqb0.sig (Lqb0 none)] dqcp Try.f59
theorem eqcp_i (a0 : Int) (a1 a2 : ByteArray) (a3 : Int) (a4 : ByteArray) (a5 : Rw) (a6 : Int) (a7 a8 : ByteArray) (a9 : Int) (a10 : ByteArray) (a11 : Rw) : Lqcp none [.i a0, .s a1, .s a2, .i a3, .s a4, .l a5, .i a6, .s a7, .s a8, .i a9, .s a10, .l a11] =
 cond (a0 != a6) (
 some [.b false]) (
 cond (!Eng.seq a1 a7) (
 some [.b false]) (
 cond (!Eng.seq a2 a8) (
 some [.b false]) (
 cond (a3 != a9) (
 some [.b false]) (
 (Lqb0 none [.s a4, .l a5, .s a10, .l a11]).bind fun y1 =>
 cond (!(g y1 0).bool) (
 some [.b false]) (
 some [.b true]))))) := (zb _ _).trans (by kernel_rfl)
theorem kqcp : SigOk Try.prog (dqcp.sig (Lqcp none)) ∧ (dqcp.sig (Lqcp none)).ok = true := zg (zd kqb0 (by kernel_rfl) zf) (by kernel_rfl) (by kernel_rfl) (by kernel_rfl)
end KV
end
section
set_option maxRecDepth 100000
namespace KV
open Go Go.Eng Go.Proofs
def dqc1 : FD := { fn := 115, nb := 1, pre := ⟨[.ag [.s 0, .ow 0], .sc (.i .i64 1)], [.rw 9 false 2]⟩, post := ⟨[.sc (.i .i64 0)], [.rw 9 false 1]⟩, sh := true, cuts := [] }
noncomputable def Lqc1 : Option Nat → Lv → Option Lv := Lim Try.prog [dqw.sig (Lqw none)] dqc1 Try.f115
theorem eqc1_i (a0 : ByteArray) (a1 : Int) (a2 : Rw) : Lqc1 none [.s a0, .i a1, .l a2] =
 (Lqw none [.i a1, .l a2]).bind fun y1 =>
 some [.i ((g y1 0).int), .l ((g y1 1).list)] := (zb _ _).trans (by kernel_rfl)
theorem kqc1 : SigOk Try.prog (dqc1.sig (Lqc1 none)) ∧ (dqc1.sig (Lqc1 none)).ok = true := zg (zd kqw (by kernel_rfl) zf) (by kernel_rfl) (by kernel_rfl) (by kernel_rfl)
def dqcq : FD := { fn := 60, nb := 1, pre := ⟨[.ag [.i .i64 0, .s 1, .s 2, .i .i64 3, .s 4, .ow 0], .sc (.i .i64 5)], [.rw 9 false 6]⟩, post := ⟨[.sc (.i .i64 0)], [.rw 9 false 1]⟩, sh := true, cuts := [] }
noncomputable def Lqcq : Option Nat → Lv → Option Lv := Lim Try.prog [dqc1.sig (Lqc1 none)] dqcq Try.f60
theorem eqcq_i (a0 : Int) (a1 a2 : ByteArray) (a3 : Int) (a4 : ByteArray) (a5 : Int) (a6 : Rw) : Lqcq none [.i a0, .s a1, .s a2, .i a3, .s a4, .i a5, .l a6] =
 (Lqc1 none [.s a4, .i a5, .l a6]).bind fun y1 =>
 some [.i ((g y1 0).int), .l ((g y1 1).list)] := (zb _ _).trans (by kernel_rfl)
theorem kqcq : SigOk Try.prog (dqcq.sig (Lqcq none)) ∧ (dqcq.sig (Lqcq none)).ok = true := zg (zd kqc1 (by kernel_rfl) zf) (by kernel_rfl) (by kernel_rfl) (by kernel_rfl)
def dqc2 : FD := { fn := 10, nb := 0, pre := ⟨[.ag [.i .i64 0, .i .i64 1, .i .i64 2, .i .i64 3, .fz 150 false 4, .fz 152 false 5, .fz 154 false 6], .ag [.i .i64 7, .s 8, .s 9, .i .i64 10, .s 11, .fz 9 false 12]], []⟩, post := ⟨[.sc (.b 0)], []⟩, sh := false, cuts := [] }
noncomputable def Lqc2 : Option Nat → Lv → Option Lv := Lim Try.prog [dqch.sig (Lqch none), dqb4.sig (Lqb4 none), dqbw.sig (Lqbw none), dqby.sig (Lqby none), dqb6.sig (Lqb6 none), dqcj.sig (Lqcj none), dqcb.sig (Lqcb none), dqbu.sig (Lqbu none), dqcn.sig (Lqcn none), dqb5.sig (Lqb5 none), dqce.sig (Lqce none), dqcp.sig (Lqcp none), dqcq.sig (Lqcq none)] dqc2 Try.f10
theorem eqc2_i (a0 a1 a2 a3 : Int) (a4 a5 a6 : Rw) (a7 : Int) (a8 a9 : ByteArray) (a10 : Int) (a11 : ByteArray) (a12 : Rw) : Lqc2 none [.i a0, .i a1, .i a2, .i a3, .l a4, .l a5, .l a6, .i a7, .s a8, .s a9, .i a10, .s a11, .l a12] =
 (Lqch none [.i a0, .i a1, .i a2, .i a3, .l a4, .l a5, .l a6, .i 1048576]).bind fun y1 =>
 cond (decide ((g y1 0).int < 0)) (
 some [.b true]) (
 (Lqbu none [.i a7, .s a8, .s a9, .i a10, .s a11, .l a12, .i ((g y1 0).int)]).bind fun y2 =>
 cond (decide ((g y2 0).int < 0)) (
 some [.b true]) (
 (Lqb4 none [.i a0, .i a1, .i a2, .i a3, .l a4, .l a5, .l a6]).bind fun y3 =>
 (Lqb5 none [.i a7, .s a8, .s a9, .i a10, .s a11, .l a12]).bind fun y4 =>
 (Lqcn none [.i ((g y3 0).int), .i ((g y3 1).int), .i ((g y3 2).int), .i ((g y3 3).int), .l ((g y3 4).list), .l ((g y3 5).list), .l ((g y3 6).list), .i ((g y4 0).int), .s ((g y4 1).str), .s ((g y4 2).str), .i ((g y4 3).int), .s ((g y4 4).str), .l ((g y4 5).list)]).bind fun y5 =>
 (Lqb4 none [.i a0, .i a1, .i a2, .i a3, .l a4, .l a5, .l a6]).bind fun y6 =>
 (Lqb5 none [.i a7, .s a8, .s a9, .i a10, .s a11, .l a12]).bind fun y7 =>
 (Lqce none [.i ((g y6 0).int), .i ((g y6 1).int), .i ((g y6 2).int), .i ((g y6 3).int), .l ((g y6 4).list), .l ((g y6 5).list), .l ((g y6 6).list), .i ((g y7 0).int), .s ((g y7 1).str), .s ((g y7 2).str), .i ((g y7 3).int), .s ((g y7 4).str), .l ((g y7 5).list)]).bind fun y8 =>
 (Lqb6 none [.i ((g y8 0).int), .i ((g y8 1).int), .i ((g y8 2).int), .i ((g y8 3).int), .i ((g y8 4).int), .l ((g y8 9).list), .l ((g y8 10).list), .l ((g y8 11).list), .s ((g y8 5).str), .i ((g y8 6).int), .s ((g y8 7).str), .s ((g y8 8).str), .i ((g y5 0).int), .i ((g y5 1).int), .i ((g y5 2).int), .i ((g y5 3).int), .i ((g y5 4).int), .l ((g y5 9).list), .l ((g y5 10).list), .l ((g y5 11).list), .s ((g y5 5).str), .i ((g y5 6).int), .s ((g y5 7).str), .s ((g y5 8).str)]).bind fun y9 =>
 cond (!(g y9 0).bool) (
 some [.b false]) (
 (Lqb4 none [.i a0, .i a1, .i a2, .i a3, .l a4, .l a5, .l a6]).bind fun y10 =>
 (Lqbw none [.i ((g y6 0).int), .i ((g y6 1).int), .i ((g y6 2).int), .i ((g y6 3).int), .l ((g y6 4).list), .l ((g y6 5).list), .l ((g y6 6).list), .i ((g y10 0).int), .i ((g y10 1).int), .i ((g y10 2).int), .i ((g y10 3).int), .l ((g y10 4).list), .l ((g y10 5).list), .l ((g y10 6).list)]).bind fun y11 =>
 cond (!(g y11 0).bool) (
 some [.b false]) (
 (Lqb5 none [.i a7, .s a8, .s a9, .i a10, .s a11, .l a12]).bind fun y12 =>
 (Lqcp none [.i ((g y7 0).int), .s ((g y7 1).str), .s ((g y7 2).str), .i ((g y7 3).int), .s ((g y7 4).str), .l ((g y7 5).list), .i ((g y12 0).int), .s ((g y12 1).str), .s ((g y12 2).str), .i ((g y12 3).int), .s ((g y12 4).str), .l ((g y12 5).list)]).bind fun y13 =>
 cond (!(g y13 0).bool) (
 some [.b false]) (
 (Lqby none [.i ((g y6 0).int), .i ((g y6 1).int), .i ((g y6 2).int), .i ((g y6 3).int), .i 1, .l ((g y6 4).list), .l ((g y6 5).list), .l ((g y6 6).list)]).bind fun y14 =>
 (Lqcq none [.i ((g y7 0).int), .s ((g y7 1).str), .s ((g y7 2).str), .i ((g y7 3).int), .s ((g y7 4).str), .i ((g y14 0).int), .l ((g y7 5).list)]).bind fun y15 =>
 cond (decide ((g y15 0).int < 0)) (
 some [.b false]) (
 (Lqb6 none [.i ((g y8 0).int), .i ((g y8 1).int), .i ((g y8 2).int), .i ((g y8 3).int), .i ((g y8 4).int), .l ((g y8 9).list), .l ((g y8 10).list), .l ((g y8 11).list), .s ((g y8 5).str), .i ((g y8 6).int), .s ((g y8 7).str), .s ((g y8 8).str), .i ((g y5 0).int), .i ((g y5 1).int), .i ((g y5 2).int), .i ((g y5 3).int), .i ((g y5 4).int), .l ((g y5 9).list), .l ((g y5 10).list), .l ((g y5 11).list), .s ((g y5 5).str), .i ((g y5 6).int), .s ((g y5 7).str), .s ((g y5 8).str)]).bind fun y16 =>
 cond (!(g y16 0).bool) (
 some [.b false]) (
 (Lqcj none [.i ((g y8 0).int), .i ((g y8 1).int), .i ((g y8 2).int), .i ((g y8 3).int), .i ((g y8 4).int), .s ((g y8 5).str), .i ((g y8 6).int), .s ((g y8 7).str), .s ((g y8 8).str), .i 1, .l ((g y8 9).list), .l ((g y8 10).list), .l ((g y8 11).list)]).bind fun y17 =>
 (Lqcb none [.i ((g y8 0).int), .i ((g y8 1).int), .i ((g y8 2).int), .i ((g y8 3).int), .i ((g y8 4).int), .l ((g y17 1).list), .l ((g y17 2).list), .l ((g y17 3).list), .s ((g y8 5).str), .i ((g y8 6).int), .s ((g y8 7).str), .s ((g y8 8).str), .i 1]).bind fun y18 =>
 cond (decide ((g y18 0).int < 0)) (
 some [.b false]) (
 cond ((g y18 0).int != (g y17 0).int) (
 some [.b false]) (
 (Lqb4 none [.i a0, .i a1, .i a2, .i a3, .l a4, .l a5, .l a6]).bind fun y19 =>
 (Lqb5 none [.i a7, .s a8, .s a9, .i a10, .s a11, .l a12]).bind fun y20 =>
 (Lqce none [.i ((g y19 0).int), .i ((g y19 1).int), .i ((g y19 2).int), .i ((g y19 3).int), .l ((g y19 4).list), .l ((g y19 5).list), .l ((g y19 6).list), .i ((g y20 0).int), .s ((g y20 1).str), .s ((g y20 2).str), .i ((g y20 3).int), .s ((g y20 4).str), .l ((g y20 5).list)]).bind fun y21 =>
 (Lqb6 none [.i ((g y21 0).int), .i ((g y21 1).int), .i ((g y21 2).int), .i ((g y21 3).int), .i ((g y21 4).int), .l ((g y21 9).list), .l ((g y21 10).list), .l ((g y21 11).list), .s ((g y21 5).str), .i ((g y21 6).int), .s ((g y21 7).str), .s ((g y21 8).str), .i ((g y5 0).int), .i ((g y5 1).int), .i ((g y5 2).int), .i ((g y5 3).int), .i ((g y5 4).int), .l ((g y5 9).list), .l ((g y5 10).list), .l ((g y5 11).list), .s ((g y5 5).str), .i ((g y5 6).int), .s ((g y5 7).str), .s ((g y5 8).str)]).bind fun y22 =>
 cond (!(g y22 0).bool) (
 some [.b false]) (
 (Lqcb none [.i ((g y8 0).int), .i ((g y8 1).int), .i ((g y8 2).int), .i ((g y8 3).int), .i ((g y8 4).int), .l ((g y17 1).list), .l ((g y17 2).list), .l ((g y17 3).list), .s ((g y8 5).str), .i ((g y8 6).int), .s ((g y8 7).str), .s ((g y8 8).str), .i 1]).bind fun y23 =>
 cond (decide ((g y23 0).int < 0)) (
 some [.b false]) (
 cond ((g y23 0).int != (g y17 0).int) (
 some [.b false]) (
 some [.b true])))))))))))) := (zb _ _).trans (by kernel_rfl)
theorem kqc2 : SigOk Try.prog (dqc2.sig (Lqc2 none)) ∧ (dqc2.sig (Lqc2 none)).ok = true := zg (zd kqch (by kernel_rfl) (zd kqb4 (by kernel_rfl) (zd kqbw (by kernel_rfl) (zd kqby (by kernel_rfl) (zd kqb6 (by kernel_rfl) (zd kqcj (by kernel_rfl) (zd kqcb (by kernel_rfl) (zd kqbu (by kernel_rfl) (zd kqcn (by kernel_rfl) (zd kqb5 (by kernel_rfl) (zd kqce (by kernel_rfl) (zd kqcp (by kernel_rfl) (zd kqcq (by kernel_rfl) zf))))))))))))) (by kernel_rfl) (by kernel_rfl) (by kernel_rfl)
end KV
end
