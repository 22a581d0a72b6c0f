/- Walks of Go functions, printed by a program of ours. -/
import Derived.Test.YtogabpledkjioaaProg
import Derived.Test.YtogabpledkjioaaM1
import Derived.Test.YtogabpledkjioaaM2
import Derived.Test.YtogabpledkjioaaM3
set_option linter.unusedSimpArgs false
set_option linter.unusedVariables false
set_option linter.unusedSectionVars false
section
set_option maxRecDepth 100000
namespace KV
open Go Go.Eng Go.Proofs
def dqy : FD := { fn := 29, nb := 0, pre := ⟨[.sc (.fz 9 false 0), .sc (.i .i64 1)], []⟩, post := ⟨[.sc (.i .i64 0)], []⟩, sh := false, cuts := [⟨5, [0, 1, 5], ⟨[.sc (.fz 9 false 0), .sc (.i .i64 1), .sc (.i .i64 2)], []⟩⟩] }
noncomputable def Lqy : Option Nat → Lv → Option Lv := Lim Try.prog [] dqy Try.f29
theorem eqy_i (a0 : Rw) (a1 : Int) : Lqy none [.l a0, .i a1] =
 cond (decide ((IntKind.i64.wrap (a1 - (a0.length : Int))) < 0)) (
 some [.i (-1)]) (
 Lqy (some 5) [.l a0, .i (IntKind.i64.wrap (a1 - (a0.length : Int))), .i 0]) := (zb _ _).trans (by kernel_rfl)
theorem eqy_5 (a0 : Rw) (a1 a2 : Int) : Lqy (some 5) [.l a0, .i a1, .i a2] =
 cond (decide (a2 < (a0.length : Int))) (
 cond (inb a2 a0.length) (
 cond (decide ((IntKind.i64.wrap (a1 - (((rd a0 a2.toNat 0).str).size : Int))) < 0)) (
 some [.i (-1)]) (
 Lqy (some 5) [.l a0, .i (IntKind.i64.wrap (a1 - (((rd a0 a2.toNat 0).str).size : Int))), .i (IntKind.i64.wrap (a2 + 1))])) (
 none)) (
 some [.i a1]) := (zb _ _).trans (by kernel_rfl)
theorem kqy : SigOk Try.prog (dqy.sig (Lqy none)) ∧ (dqy.sig (Lqy none)).ok = true := zf zg (by kernel_rfl) (by kernel_rfl) (by kernel_rfl)
def dqb7 : FD := { fn := 41, nb := 0, pre := ⟨[.ag [.fz 9 false 0, .fz 9 false 1], .sc (.i .i64 2)], []⟩, post := ⟨[.sc (.i .i64 0)], []⟩, sh := false, cuts := [] }
noncomputable def Lqb7 : Option Nat → Lv → Option Lv := Lim Try.prog [dqy.sig (Lqy none)] dqb7 Try.f41
theorem eqb7_i (a0 a1 : Rw) (a2 : Int) : Lqb7 none [.l a0, .l a1, .i a2] =
 (Lqy none [.l a0, .i a2]).bind fun y1 =>
 cond (decide ((g y1 0).int < 0)) (
 some [.i (-1)]) (
 (Lqy none [.l a1, .i ((g y1 0).int)]).bind fun y2 =>
 cond (decide ((g y2 0).int < 0)) (
 some [.i (-1)]) (
 some [.i ((g y2 0).int)])) := (zb _ _).trans (by kernel_rfl)
theorem kqb7 : SigOk Try.prog (dqb7.sig (Lqb7 none)) ∧ (dqb7.sig (Lqb7 none)).ok = true := zf (zd kqy (by kernel_rfl) zg) (by kernel_rfl) (by kernel_rfl) (by kernel_rfl)
def dqf : FD := { fn := 86, nb := 0, pre := ⟨[.sc (.i .i64 0)], []⟩, post := ⟨[.sc (.b 0)], []⟩, sh := false, cuts := [] }
noncomputable def Lqf : Option Nat → Lv → Option Lv := Lim Try.prog [] dqf Try.f86
theorem eqf_i (a0 : Int) : Lqf none [.i a0] =
 cond (decide (1 ≤ a0)) (
 some [.b (decide (a0 ≤ 8))]) (
 some [.b false]) := (zb _ _).trans (by kernel_rfl)
theorem kqf : SigOk Try.prog (dqf.sig (Lqf none)) ∧ (dqf.sig (Lqf none)).ok = true := zf zg (by kernel_rfl) (by kernel_rfl) (by kernel_rfl)
def dqb8 : FD := { fn := 97, nb := 0, pre := ⟨[.sc (.i .i64 0), .sc (.i .i64 1), .sc (.i .i64 2)], []⟩, post := ⟨[.sc (.b 0)], []⟩, sh := false, cuts := [] }
noncomputable def Lqb8 : Option Nat → Lv → Option Lv := Lim Try.prog [] dqb8 Try.f97
theorem eqb8_i (a0 a1 a2 : Int) : Lqb8 none [.i a0, .i a1, .i a2] =
 cond (decide (a1 ≤ a0)) (
 some [.b (decide (a0 ≤ a2))]) (
 some [.b false]) := (zb _ _).trans (by kernel_rfl)
theorem kqb8 : SigOk Try.prog (dqb8.sig (Lqb8 none)) ∧ (dqb8.sig (Lqb8 none)).ok = true := zf zg (by kernel_rfl) (by kernel_rfl) (by kernel_rfl)
def dqo : FD := { fn := 165, nb := 0, pre := ⟨[.ag [.s 0, .fz 9 false 1], .sc (.i .i64 2)], []⟩, post := ⟨[.sc (.b 0)], []⟩, sh := false, cuts := [⟨4, [1, 2, 5], ⟨[.sc (.i .i64 0), .sc (.pt 0 0), .sc (.i .i64 1)], [.bx [.s 2, .fz 9 false 3]]⟩⟩] }
noncomputable def Lqo : Option Nat → Lv → Option Lv := Lim Try.prog [dqf.sig (Lqf none)] dqo Try.f165
theorem eqo_i (a0 : ByteArray) (a1 : Rw) (a2 : Int) : Lqo none [.s a0, .l a1, .i a2] =
 (Lqf none [.i a2]).bind fun y1 =>
 cond (!(g y1 0).bool) (
 some [.b false]) (
 cond (decide (2000 < (a0.size : Int))) (
 some [.b false]) (
 cond (decide (30 < (a1.length : Int))) (
 some [.b false]) (
 Lqo (some 4) [.i a2, .i 0, .s a0, .l a1]))) := (zb _ _).trans (by kernel_rfl)
theorem eqo_4 (a0 a1 : Int) (a2 : ByteArray) (a3 : Rw) : Lqo (some 4) [.i a0, .i a1, .s a2, .l a3] =
 cond (decide (a1 < (a3.length : Int))) (
 cond (inb a1 a3.length) (
 cond ((((rd a3 a1.toNat 0).str).size : Int) != a0) (
 some [.b false]) (
 cond (decide (0 < a1)) (
 cond (inb (IntKind.i64.wrap (a1 - 1)) a3.length) (
 cond (inb a1 a3.length) (
 cond (!slt ((rd a3 ((IntKind.i64.wrap (a1 - 1)).toNat) 0).str) ((rd a3 a1.toNat 0).str)) (
 some [.b false]) (
 Lqo (some 4) [.i a0, .i (IntKind.i64.wrap (a1 + 1)), .s a2, .l a3])) (
 none)) (
 none)) (
 Lqo (some 4) [.i a0, .i (IntKind.i64.wrap (a1 + 1)), .s a2, .l a3]))) (
 none)) (
 some [.b true]) := (zb _ _).trans (by kernel_rfl)
theorem kqo : SigOk Try.prog (dqo.sig (Lqo none)) ∧ (dqo.sig (Lqo none)).ok = true := zf (zd kqf (by kernel_rfl) zg) (by kernel_rfl) (by kernel_rfl) (by kernel_rfl)
def dq5 : FD := { fn := 120, nb := 0, pre := ⟨[.sc (.s 0)], []⟩, post := ⟨[.sc (.b 0)], []⟩, sh := false, cuts := [⟨2, [0, 3], ⟨[.sc (.s 0), .sc (.i .i64 1)], []⟩⟩] }
noncomputable def Lq5 : Option Nat → Lv → Option Lv := Lim Try.prog [] dq5 Try.f120
theorem eq5_i (a0 : ByteArray) : Lq5 none [.s a0] =
 Lq5 (some 2) [.s a0, .i 0] := (zb _ _).trans (by kernel_rfl)
theorem eq5_2 (a0 : ByteArray) (a1 : Int) : Lq5 (some 2) [.s a0, .i a1] =
 cond (decide (a1 < (a0.size : Int))) (
 cond (inb a1 a0.size) (
 cond (decide ((byteAt a0 a1.toNat) < 33)) (
 some [.b false]) (
 cond (inb a1 a0.size) (
 cond (decide (126 < (byteAt a0 a1.toNat))) (
 some [.b false]) (
 Lq5 (some 2) [.s a0, .i (IntKind.i64.wrap (a1 + 1))])) (
 none))) (
 none)) (
 cond (decide (1 ≤ (a0.size : Int))) (
 some [.b (decide ((a0.size : Int) ≤ 40))]) (
 some [.b false])) := (zb _ _).trans (by kernel_rfl)
theorem kq5 : SigOk Try.prog (dq5.sig (Lq5 none)) ∧ (dq5.sig (Lq5 none)).ok = true := zf zg (by kernel_rfl) (by kernel_rfl) (by kernel_rfl)
def dqb9 : FD := { fn := 163, nb := 0, pre := ⟨[.sc (.i .i64 0)], []⟩, post := ⟨[.tu [(false, [.b 0]), (false, [.b 1]), (false, [.i .i64 2]), (false, [.b 3])]], []⟩, sh := false, cuts := [] }
noncomputable def Lqb9 : Option Nat → Lv → Option Lv := Lim Try.prog [] dqb9 Try.f163
theorem eqb9_i (a0 : Int) : Lqb9 none [.i a0] =
 cond (a0 == 1) (
 some [.b false, .b false, .i 1, .b true]) (
 cond (a0 == 2) (
 some [.b true, .b true, .i 0, .b false]) (
 cond (a0 == 3) (
 some [.b false, .b true, .i 0, .b false]) (
 cond (a0 == 4) (
 some [.b true, .b false, .i 1, .b false]) (
 cond (a0 == 5) (
 some [.b false, .b false, .i 2, .b false]) (
 cond (a0 == 6) (
 some [.b false, .b false, .i 1, .b false]) (
 cond (a0 == 7) (
 some [.b true, .b false, .i 0, .b false]) (
 some [.b false, .b false, .i 0, .b false]))))))) := (zb _ _).trans (by kernel_rfl)
theorem kqb9 : SigOk Try.prog (dqb9.sig (Lqb9 none)) ∧ (dqb9.sig (Lqb9 none)).ok = true := zf zg (by kernel_rfl) (by kernel_rfl) (by kernel_rfl)
def dqbs : FD := { fn := 164, nb := 0, pre := ⟨[.sc (.i .i64 0), .sc (.i .i64 1)], []⟩, post := ⟨[.sc (.b 0)], []⟩, sh := false, cuts := [] }
noncomputable def Lqbs : Option Nat → Lv → Option Lv := Lim Try.prog [] dqbs Try.f164
theorem eqbs_i (a0 a1 : Int) : Lqbs none [.i a0, .i a1] =
 cond (a1 == 1) (
 cond (decide (1 ≤ a0)) (
 some [.b (decide (a0 ≤ 100000))]) (
 some [.b false])) (
 cond (a1 == 2) (
 cond (decide (1 ≤ a0)) (
 some [.b (decide (a0 ≤ 1000000000))]) (
 some [.b false])) (
 some [.b (a0 == 0)])) := (zb _ _).trans (by kernel_rfl)
theorem kqbs : SigOk Try.prog (dqbs.sig (Lqbs none)) ∧ (dqbs.sig (Lqbs none)).ok = true := zf zg (by kernel_rfl) (by kernel_rfl) (by kernel_rfl)
def dqj : FD := { fn := 111, nb := 0, pre := ⟨[.ag [.i .i64 0, .s 1, .s 2, .i .i64 3, .s 4, .fz 9 false 5], .sc (.i .i64 6)], []⟩, post := ⟨[.sc (.b 0)], []⟩, sh := false, cuts := [⟨6, [1, 2, 6, 8], ⟨[.sc (.i .i64 0), .sc (.pt 0 0), .sc (.b 1), .sc (.b 2)], [.bx [.i .i64 3, .s 4, .s 5, .i .i64 6, .s 7, .fz 9 false 8]]⟩⟩, ⟨8, [1, 2, 8], ⟨[.sc (.i .i64 0), .sc (.pt 0 0), .sc (.b 1)], [.bx [.i .i64 2, .s 3, .s 4, .i .i64 5, .s 6, .fz 9 false 7]]⟩⟩] }
noncomputable def Lqj : Option Nat → Lv → Option Lv := Lim Try.prog [dqf.sig (Lqf none), dqo.sig (Lqo none), dq5.sig (Lq5 none), dqb9.sig (Lqb9 none), dqbs.sig (Lqbs none)] dqj Try.f111
theorem eqj_i (a0 : Int) (a1 a2 : ByteArray) (a3 : Int) (a4 : ByteArray) (a5 : Rw) (a6 : Int) : Lqj none [.i a0, .s a1, .s a2, .i a3, .s a4, .l a5, .i a6] =
 (Lqf none [.i a6]).bind fun y1 =>
 cond (!(g y1 0).bool) (
 some [.b false]) (
 cond (decide (a0 < 1)) (
 some [.b false]) (
 cond (decide (7 < a0)) (
 some [.b false]) (
 (Lqb9 none [.i a0]).bind fun y2 =>
 cond ((g y2 0).bool) (
 cond ((a1.size : Int) != a6) (
 some [.b false]) (
 cond (!(g y2 0).bool) (
 cond (!Eng.seq a1 (⟨#[]⟩ : ByteArray)) (
 some [.b false]) (
 (Lqbs none [.i a3, .i ((g y2 2).int)]).bind fun y3 =>
 cond (!(g y3 0).bool) (
 some [.b false]) (
 Lqj (some 6) [.i a6, .b ((g y2 1).bool), .b ((g y2 3).bool), .i a0, .s a1, .s a2, .i a3, .s a4, .l a5]))) (
 (Lqbs none [.i a3, .i ((g y2 2).int)]).bind fun y4 =>
 cond (!(g y4 0).bool) (
 some [.b false]) (
 Lqj (some 6) [.i a6, .b ((g y2 1).bool), .b ((g y2 3).bool), .i a0, .s a1, .s a2, .i a3, .s a4, .l a5])))) (
 cond (!(g y2 0).bool) (
 cond (!Eng.seq a1 (⟨#[]⟩ : ByteArray)) (
 some [.b false]) (
 (Lqbs none [.i a3, .i ((g y2 2).int)]).bind fun y5 =>
 cond (!(g y5 0).bool) (
 some [.b false]) (
 Lqj (some 6) [.i a6, .b ((g y2 1).bool), .b ((g y2 3).bool), .i a0, .s a1, .s a2, .i a3, .s a4, .l a5]))) (
 (Lqbs none [.i a3, .i ((g y2 2).int)]).bind fun y6 =>
 cond (!(g y6 0).bool) (
 some [.b false]) (
 Lqj (some 6) [.i a6, .b ((g y2 1).bool), .b ((g y2 3).bool), .i a0, .s a1, .s a2, .i a3, .s a4, .l a5])))))) := (zb _ _).trans (by kernel_rfl)
theorem eqj_6 (a0 : Int) (a1 a2 : Bool) (a3 : Int) (a4 a5 : ByteArray) (a6 : Int) (a7 : ByteArray) (a8 : Rw) : Lqj (some 6) [.i a0, .b a1, .b a2, .i a3, .s a4, .s a5, .i a6, .s a7, .l a8] =
 cond a1 (
 (Lq5 none [.s a5]).bind fun y1 =>
 cond (!(g y1 0).bool) (
 some [.b false]) (
 cond (!a1) (
 cond (!Eng.seq a5 (⟨#[]⟩ : ByteArray)) (
 some [.b false]) (
 Lqj (some 8) [.i a0, .b a2, .i a3, .s a4, .s a5, .i a6, .s a7, .l a8])) (
 Lqj (some 8) [.i a0, .b a2, .i a3, .s a4, .s a5, .i a6, .s a7, .l a8]))) (
 cond (!a1) (
 cond (!Eng.seq a5 (⟨#[]⟩ : ByteArray)) (
 some [.b false]) (
 Lqj (some 8) [.i a0, .b a2, .i a3, .s a4, .s a5, .i a6, .s a7, .l a8])) (
 Lqj (some 8) [.i a0, .b a2, .i a3, .s a4, .s a5, .i a6, .s a7, .l a8])) := (zb _ _).trans (by kernel_rfl)
theorem eqj_8 (a0 : Int) (a1 : Bool) (a2 : Int) (a3 a4 : ByteArray) (a5 : Int) (a6 : ByteArray) (a7 : Rw) : Lqj (some 8) [.i a0, .b a1, .i a2, .s a3, .s a4, .i a5, .s a6, .l a7] =
 cond a1 (
 (Lqo none [.s a6, .l a7, .i a0]).bind fun y1 =>
 some [.b ((g y1 0).bool)]) (
 cond (Eng.seq a6 (⟨#[]⟩ : ByteArray)) (
 some [.b ((a7.length : Int) == 0)]) (
 some [.b false])) := (zb _ _).trans (by kernel_rfl)
theorem kqj : SigOk Try.prog (dqj.sig (Lqj none)) ∧ (dqj.sig (Lqj none)).ok = true := zf (zd kqf (by kernel_rfl) (zd kqo (by kernel_rfl) (zd kq5 (by kernel_rfl) (zd kqb9 (by kernel_rfl) (zd kqbs (by kernel_rfl) zg))))) (by kernel_rfl) (by kernel_rfl) (by kernel_rfl)
def dq6 : FD := { fn := 136, nb := 0, pre := ⟨[.sc (.s 0), .sc (.i .i64 1)], []⟩, post := ⟨[.tu [(true, [.s 0, .ow 0]), (false, [.b 1])]], [.rw 9 true 2]⟩, sh := false, cuts := [⟨6, [0, 1, 4, 6, 7, 8], ⟨[.sc (.s 0), .sc (.i .i64 1), .sc (.pt 0 0), .sc (.i .i64 2), .sc (.pt 1 0), .sc (.i .i64 3)], [.bx [.s 4, .ow 2], .bx [.s 5, .ow 3], .rw 9 true 6, .rw 9 true 7]⟩⟩] }
noncomputable def Lq6 : Option Nat → Lv → Option Lv := Lim Try.prog [dqf.sig (Lqf none), dqo.sig (Lqo none)] dq6 Try.f136
theorem eq6_i (a0 : ByteArray) (a1 : Int) : Lq6 none [.s a0, .i a1] =
 (Lqf none [.i a1]).bind fun y1 =>
 cond (!(g y1 0).bool) (
 some [.s (⟨#[]⟩ : ByteArray), .b false, .l []]) (
 cond ((a0.size : Int) == 0) (
 some [.s (⟨#[]⟩ : ByteArray), .b false, .l []]) (
 cond (inb 0 a0.size) (
 cond (decide ((a0.size : Int) < (IntKind.i64.wrap (1 + (IntKind.i64.wrap ((IntKind.i64.wrap (byteAt a0 0)) * a1)))))) (
 some [.s (⟨#[]⟩ : ByteArray), .b false, .l []]) (
 cond (inb 0 a0.size) (
 cond (decide (0 ≤ (IntKind.i64.wrap (1 + (IntKind.i64.wrap ((IntKind.i64.wrap (byteAt a0 0)) * a1)))))) (
 cond (decide ((IntKind.i64.wrap (1 + (IntKind.i64.wrap ((IntKind.i64.wrap (byteAt a0 0)) * a1)))) ≤ (a0.size : Int))) (
 Lq6 (some 6) [.s a0, .i a1, .i (IntKind.i64.wrap (byteAt a0 0)), .i 0, .s (⟨#[]⟩ : ByteArray), .s (a0.extract ((IntKind.i64.wrap (1 + (IntKind.i64.wrap ((IntKind.i64.wrap (byteAt a0 0)) * a1)))).toNat) a0.size), .l [], .l []]) (
 none)) (
 none)) (
 none))) (
 none))) := (zb _ _).trans (by kernel_rfl)
theorem eq6_6 (a0 : ByteArray) (a1 a2 a3 : Int) (a4 a5 : ByteArray) (a6 a7 : Rw) : Lq6 (some 6) [.s a0, .i a1, .i a2, .i a3, .s a4, .s a5, .l a6, .l a7] =
 cond (decide (a3 < a2)) (
 cond (decide (0 ≤ (IntKind.i64.wrap ((IntKind.i64.wrap (1 + (IntKind.i64.wrap (a3 * a1)))) + a1)))) (
 cond (decide ((IntKind.i64.wrap ((IntKind.i64.wrap (1 + (IntKind.i64.wrap (a3 * a1)))) + a1)) ≤ (a0.size : Int))) (
 cond (decide (0 ≤ (IntKind.i64.wrap (1 + (IntKind.i64.wrap (a3 * a1)))))) (
 cond (decide ((IntKind.i64.wrap (1 + (IntKind.i64.wrap (a3 * a1)))) ≤ ((IntKind.i64.wrap ((IntKind.i64.wrap (1 + (IntKind.i64.wrap (a3 * a1)))) + a1)).toNat : Int))) (
 cond (decide (a7.length + ([[.s (a0.extract ((IntKind.i64.wrap (1 + (IntKind.i64.wrap (a3 * a1)))).toNat) ((IntKind.i64.wrap ((IntKind.i64.wrap (1 + (IntKind.i64.wrap (a3 * a1)))) + a1)).toNat))]] : Rw).length ≤ most)) (
 Lq6 (some 6) [.s a0, .i a1, .i a2, .i (IntKind.i64.wrap (a3 + 1)), .s a4, .s a5, .l a6, .l (a7 ++ ([[.s (a0.extract ((IntKind.i64.wrap (1 + (IntKind.i64.wrap (a3 * a1)))).toNat) ((IntKind.i64.wrap ((IntKind.i64.wrap (1 + (IntKind.i64.wrap (a3 * a1)))) + a1)).toNat))]] : Rw))]) (
 none)) (
 none)) (
 none)) (
 none)) (
 none)) (
 (Lqo none [.s a5, .l a7, .i a1]).bind fun y1 =>
 cond (!(g y1 0).bool) (
 some [.s (⟨#[]⟩ : ByteArray), .b false, .l []]) (
 some [.s a5, .b true, .l a7])) := (zb _ _).trans (by kernel_rfl)
theorem kq6 : SigOk Try.prog (dq6.sig (Lq6 none)) ∧ (dq6.sig (Lq6 none)).ok = true := zf (zd kqf (by kernel_rfl) (zd kqo (by kernel_rfl) zg)) (by kernel_rfl) (by kernel_rfl) (by kernel_rfl)
def dqw : FD := { fn := 169, nb := 0, pre := ⟨[.ag [.s 0, .fz 9 false 1], .sc (.i .i64 2)], []⟩, post := ⟨[.sc (.s 0)], []⟩, sh := false, cuts := [⟨5, [2, 5, 6], ⟨[.sc (.pt 0 0), .sc (.ow 1), .sc (.i .i64 0)], [.bx [.s 1, .fz 9 false 2], .rw 5 true 3]⟩⟩] }
noncomputable def Lqw : Option Nat → Lv → Option Lv := Lim Try.prog [dqo.sig (Lqo none)] dqw Try.f169
theorem eqw_i (a0 : ByteArray) (a1 : Rw) (a2 : Int) : Lqw none [.s a0, .l a1, .i a2] =
 (Lqo none [.s a0, .l a1, .i a2]).bind fun y1 =>
 cond (!(g y1 0).bool) (
 some [.s (⟨#[]⟩ : ByteArray)]) (
 Lqw (some 5) [.i 0, .s a0, .l a1, .l ([[.i (IntKind.u8.wrap (a1.length : Int))]] : Rw)]) := (zb _ _).trans (by kernel_rfl)
theorem eqw_5 (a0 : Int) (a1 : ByteArray) (a2 a3 : Rw) : Lqw (some 5) [.i a0, .s a1, .l a2, .l a3] =
 cond (decide (a0 < (a2.length : Int))) (
 cond (inb a0 a2.length) (
 cond (decide (a3.length + (rowsOf ((rd a2 a0.toNat 0).str)).length ≤ most)) (
 Lqw (some 5) [.i (IntKind.i64.wrap (a0 + 1)), .s a1, .l a2, .l (a3 ++ (rowsOf ((rd a2 a0.toNat 0).str)))]) (
 none)) (
 none)) (
 cond (decide (a3.length + (rowsOf a1).length ≤ most)) (
 some [.s (bytesOf (a3 ++ (rowsOf a1)))]) (
 none)) := (zb _ _).trans (by kernel_rfl)
theorem kqw : SigOk Try.prog (dqw.sig (Lqw none)) ∧ (dqw.sig (Lqw none)).ok = true := zf (zd kqo (by kernel_rfl) zg) (by kernel_rfl) (by kernel_rfl) (by kernel_rfl)
def dqbx : FD := { fn := 137, nb := 0, pre := ⟨[.ag [.i .i64 0, .s 1, .s 2, .i .i64 3, .s 4, .fz 9 false 5], .sc (.i .i64 6)], []⟩, post := ⟨[.sc (.s 0)], []⟩, sh := false, cuts := [] }
noncomputable def Lqbx : Option Nat → Lv → Option Lv := Lim Try.prog [dqw.sig (Lqw none), dqj.sig (Lqj none)] dqbx Try.f137
theorem eqbx_i (a0 : Int) (a1 a2 : ByteArray) (a3 : Int) (a4 : ByteArray) (a5 : Rw) (a6 : Int) : Lqbx none [.i a0, .s a1, .s a2, .i a3, .s a4, .l a5, .i a6] =
 (Lqj none [.i a0, .s a1, .s a2, .i a3, .s a4, .l a5, .i a6]).bind fun y1 =>
 cond (!(g y1 0).bool) (
 some [.s (⟨#[]⟩ : ByteArray)]) (
 cond (decide (([[.i (IntKind.u8.wrap a0)], [.i (IntKind.u8.wrap (IntKind.i64.wrap (a3.tdiv 16777216)))], [.i (IntKind.u8.wrap ((IntKind.i64.wrap (a3.tdiv 65536)).tmod 256))], [.i (IntKind.u8.wrap ((IntKind.i64.wrap (a3.tdiv 256)).tmod 256))], [.i (IntKind.u8.wrap (a3.tmod 256))], [.i (IntKind.u8.wrap (a2.size : Int))]] : Rw).length + (rowsOf a2).length ≤ most)) (
 cond (decide ((([[.i (IntKind.u8.wrap a0)], [.i (IntKind.u8.wrap (IntKind.i64.wrap (a3.tdiv 16777216)))], [.i (IntKind.u8.wrap ((IntKind.i64.wrap (a3.tdiv 65536)).tmod 256))], [.i (IntKind.u8.wrap ((IntKind.i64.wrap (a3.tdiv 256)).tmod 256))], [.i (IntKind.u8.wrap (a3.tmod 256))], [.i (IntKind.u8.wrap (a2.size : Int))]] : Rw) ++ (rowsOf a2)).length + (rowsOf a1).length ≤ most)) (
 cond (a0 == 1) (
 (Lqw none [.s a4, .l a5, .i a6]).bind fun y2 =>
 cond (decide (((([[.i (IntKind.u8.wrap a0)], [.i (IntKind.u8.wrap (IntKind.i64.wrap (a3.tdiv 16777216)))], [.i (IntKind.u8.wrap ((IntKind.i64.wrap (a3.tdiv 65536)).tmod 256))], [.i (IntKind.u8.wrap ((IntKind.i64.wrap (a3.tdiv 256)).tmod 256))], [.i (IntKind.u8.wrap (a3.tmod 256))], [.i (IntKind.u8.wrap (a2.size : Int))]] : Rw) ++ (rowsOf a2)) ++ (rowsOf a1)).length + (rowsOf ((g y2 0).str)).length ≤ most)) (
 some [.s (bytesOf (((([[.i (IntKind.u8.wrap a0)], [.i (IntKind.u8.wrap (IntKind.i64.wrap (a3.tdiv 16777216)))], [.i (IntKind.u8.wrap ((IntKind.i64.wrap (a3.tdiv 65536)).tmod 256))], [.i (IntKind.u8.wrap ((IntKind.i64.wrap (a3.tdiv 256)).tmod 256))], [.i (IntKind.u8.wrap (a3.tmod 256))], [.i (IntKind.u8.wrap (a2.size : Int))]] : Rw) ++ (rowsOf a2)) ++ (rowsOf a1)) ++ (rowsOf ((g y2 0).str))))]) (
 none)) (
 some [.s (bytesOf ((([[.i (IntKind.u8.wrap a0)], [.i (IntKind.u8.wrap (IntKind.i64.wrap (a3.tdiv 16777216)))], [.i (IntKind.u8.wrap ((IntKind.i64.wrap (a3.tdiv 65536)).tmod 256))], [.i (IntKind.u8.wrap ((IntKind.i64.wrap (a3.tdiv 256)).tmod 256))], [.i (IntKind.u8.wrap (a3.tmod 256))], [.i (IntKind.u8.wrap (a2.size : Int))]] : Rw) ++ (rowsOf a2)) ++ (rowsOf a1)))])) (
 none)) (
 none)) := (zb _ _).trans (by kernel_rfl)
theorem kqbx : SigOk Try.prog (dqbx.sig (Lqbx none)) ∧ (dqbx.sig (Lqbx none)).ok = true := zf (zd kqw (by kernel_rfl) (zd kqj (by kernel_rfl) zg)) (by kernel_rfl) (by kernel_rfl) (by kernel_rfl)
def dqbm : FD := { fn := 87, nb := 0, pre := ⟨[.sc (.s 0), .sc (.i .i64 1)], []⟩, post := ⟨[.tu [(true, [.i .i64 0, .s 1, .s 2, .i .i64 3, .s 4, .ow 0]), (false, [.b 5])]], [.rw 9 true 6]⟩, sh := false, cuts := [⟨9, [0, 1, 4, 6], ⟨[.sc (.s 0), .sc (.i .i64 1), .sc (.pt 0 0), .sc (.pt 1 0)], [.bx [.i .i64 2, .s 3, .s 4, .i .i64 5, .s 6, .ow 3], .bx [.i .i64 7, .s 8, .s 9, .i .i64 10, .s 11, .ow 2], .rw 9 true 12, .rw 9 true 13]⟩⟩] }
noncomputable def Lqbm : Option Nat → Lv → Option Lv := Lim Try.prog [dqf.sig (Lqf none), dqj.sig (Lqj none), dq6.sig (Lq6 none), dqbx.sig (Lqbx none)] dqbm Try.f87
theorem eqbm_i (a0 : ByteArray) (a1 : Int) : Lqbm none [.s a0, .i a1] =
 (Lqf none [.i a1]).bind fun y1 =>
 cond (!(g y1 0).bool) (
 some [.i 0, .s (⟨#[]⟩ : ByteArray), .s (⟨#[]⟩ : ByteArray), .i 0, .s (⟨#[]⟩ : ByteArray), .b false, .l []]) (
 cond (decide ((a0.size : Int) < 6)) (
 some [.i 0, .s (⟨#[]⟩ : ByteArray), .s (⟨#[]⟩ : ByteArray), .i 0, .s (⟨#[]⟩ : ByteArray), .b false, .l []]) (
 cond (inb 5 a0.size) (
 cond (decide ((a0.size : Int) < (IntKind.i64.wrap (6 + (IntKind.i64.wrap (byteAt a0 5)))))) (
 some [.i 0, .s (⟨#[]⟩ : ByteArray), .s (⟨#[]⟩ : ByteArray), .i 0, .s (⟨#[]⟩ : ByteArray), .b false, .l []]) (
 cond (inb 0 a0.size) (
 cond (inb 1 a0.size) (
 cond (inb 2 a0.size) (
 cond (inb 3 a0.size) (
 cond (inb 4 a0.size) (
 cond (inb 5 a0.size) (
 cond (decide (0 ≤ (IntKind.i64.wrap (6 + (IntKind.i64.wrap (byteAt a0 5)))))) (
 cond (decide ((IntKind.i64.wrap (6 + (IntKind.i64.wrap (byteAt a0 5)))) ≤ (a0.size : Int))) (
 cond (decide (6 ≤ ((IntKind.i64.wrap (6 + (IntKind.i64.wrap (byteAt a0 5)))).toNat : Int))) (
 cond (inb 5 a0.size) (
 cond (decide (0 ≤ (IntKind.i64.wrap (6 + (IntKind.i64.wrap (byteAt a0 5)))))) (
 cond (decide ((IntKind.i64.wrap (6 + (IntKind.i64.wrap (byteAt a0 5)))) ≤ (a0.size : Int))) (
 cond ((IntKind.i64.wrap (byteAt a0 0)) == 1) (
 (Lq6 none [.s (a0.extract ((IntKind.i64.wrap (6 + (IntKind.i64.wrap (byteAt a0 5)))).toNat) a0.size), .i a1]).bind fun y2 =>
 Lqbm (some 9) [.s a0, .i a1, .i 0, .s (⟨#[]⟩ : ByteArray), .s (⟨#[]⟩ : ByteArray), .i 0, .s (⟨#[]⟩ : ByteArray), .i (IntKind.i64.wrap (byteAt a0 0)), .s (⟨#[]⟩ : ByteArray), .s (a0.extract 6 ((IntKind.i64.wrap (6 + (IntKind.i64.wrap (byteAt a0 5)))).toNat)), .i (IntKind.i64.wrap ((IntKind.i64.wrap ((IntKind.i64.wrap ((IntKind.i64.wrap ((IntKind.i64.wrap (byteAt a0 1)) * 16777216)) + (IntKind.i64.wrap ((IntKind.i64.wrap (byteAt a0 2)) * 65536)))) + (IntKind.i64.wrap ((IntKind.i64.wrap (byteAt a0 3)) * 256)))) + (IntKind.i64.wrap (byteAt a0 4)))), .s ((g y2 0).str), .l ((g y2 2).list), .l []]) (
 Lqbm (some 9) [.s a0, .i a1, .i 0, .s (⟨#[]⟩ : ByteArray), .s (⟨#[]⟩ : ByteArray), .i 0, .s (⟨#[]⟩ : ByteArray), .i (IntKind.i64.wrap (byteAt a0 0)), .s (a0.extract ((IntKind.i64.wrap (6 + (IntKind.i64.wrap (byteAt a0 5)))).toNat) a0.size), .s (a0.extract 6 ((IntKind.i64.wrap (6 + (IntKind.i64.wrap (byteAt a0 5)))).toNat)), .i (IntKind.i64.wrap ((IntKind.i64.wrap ((IntKind.i64.wrap ((IntKind.i64.wrap ((IntKind.i64.wrap (byteAt a0 1)) * 16777216)) + (IntKind.i64.wrap ((IntKind.i64.wrap (byteAt a0 2)) * 65536)))) + (IntKind.i64.wrap ((IntKind.i64.wrap (byteAt a0 3)) * 256)))) + (IntKind.i64.wrap (byteAt a0 4)))), .s (⟨#[]⟩ : ByteArray), .l [], .l []])) (
 none)) (
 none)) (
 none)) (
 none)) (
 none)) (
 none)) (
 none)) (
 none)) (
 none)) (
 none)) (
 none)) (
 none))) (
 none))) := (zb _ _).trans (by kernel_rfl)
theorem eqbm_9 (a0 : ByteArray) (a1 a2 : Int) (a3 a4 : ByteArray) (a5 : Int) (a6 : ByteArray) (a7 : Int) (a8 a9 : ByteArray) (a10 : Int) (a11 : ByteArray) (a12 a13 : Rw) : Lqbm (some 9) [.s a0, .i a1, .i a2, .s a3, .s a4, .i a5, .s a6, .i a7, .s a8, .s a9, .i a10, .s a11, .l a12, .l a13] =
 (Lqj none [.i a7, .s a8, .s a9, .i a10, .s a11, .l a12, .i a1]).bind fun y1 =>
 cond (!(g y1 0).bool) (
 some [.i 0, .s (⟨#[]⟩ : ByteArray), .s (⟨#[]⟩ : ByteArray), .i 0, .s (⟨#[]⟩ : ByteArray), .b false, .l []]) (
 (Lqbx none [.i a7, .s a8, .s a9, .i a10, .s a11, .l a12, .i a1]).bind fun y2 =>
 cond (!Eng.seq ((g y2 0).str) a0) (
 some [.i 0, .s (⟨#[]⟩ : ByteArray), .s (⟨#[]⟩ : ByteArray), .i 0, .s (⟨#[]⟩ : ByteArray), .b false, .l []]) (
 some [.i a7, .s a8, .s a9, .i a10, .s a11, .b true, .l a12])) := (zb _ _).trans (by kernel_rfl)
theorem kqbm : SigOk Try.prog (dqbm.sig (Lqbm none)) ∧ (dqbm.sig (Lqbm none)).ok = true := zf (zd kqf (by kernel_rfl) (zd kqj (by kernel_rfl) (zd kq6 (by kernel_rfl) (zd kqbx (by kernel_rfl) zg)))) (by kernel_rfl) (by kernel_rfl) (by kernel_rfl)
def dqbt : FD := { fn := 145, nb := 0, pre := ⟨[.ag [.s 0, .fz 9 false 1]], []⟩, post := ⟨[.ag [.s 0, .ow 0]], [.rw 9 true 1]⟩, sh := false, cuts := [] }
noncomputable def Lqbt : Option Nat → Lv → Option Lv := Lim Try.prog [] dqbt Try.f145
theorem eqbt_i (a0 : ByteArray) (a1 : Rw) : Lqbt none [.s a0, .l a1] =
 cond (decide (([] : Rw).length + a1.length ≤ most)) (
 some [.s a0, .l (([] : Rw) ++ a1)]) (
 none) := (zb _ _).trans (by kernel_rfl)
theorem kqbt : SigOk Try.prog (dqbt.sig (Lqbt none)) ∧ (dqbt.sig (Lqbt none)).ok = true := zf zg (by kernel_rfl) (by kernel_rfl) (by kernel_rfl)
end KV
end
section
set_option maxRecDepth 100000
namespace KV
open Go Go.Eng Go.Proofs
def dqx : FD := { fn := 89, nb := 0, pre := ⟨[.ag [.i .i64 0, .i .i64 1, .i .i64 2, .i .i64 3, .fz 116 false 4, .fz 127 false 5, .fz 129 false 6]], []⟩, post := ⟨[.ag [.i .i64 0, .i .i64 1, .i .i64 2, .i .i64 3, .ow 0, .ow 1, .ow 2]], [.rw 116 true 4, .rw 127 true 5, .rw 129 true 6]⟩, sh := false, cuts := [⟨4, [1, 2, 3, 4], ⟨[.sc (.pt 0 0), .sc (.pt 1 0), .sc (.pt 2 0), .sc (.i .i64 0)], [.bx [.i .i64 1, .i .i64 2, .i .i64 3, .i .i64 4, .fz 116 false 5, .fz 127 false 6, .fz 129 false 7], .bx [.i .i64 8, .i .i64 9, .i .i64 10, .i .i64 11, .ow 3, .ow 4, .ow 5], .bx [.i .i64 12, .i .i64 13, .i .i64 14, .i .i64 15, .ow 6, .fz 127 false 16, .fz 129 false 17], .rw 116 true 18, .rw 127 true 19, .rw 129 true 20, .rw 116 true 21]⟩⟩] }
noncomputable def Lqx : Option Nat → Lv → Option Lv := Lim Try.prog [dqbt.sig (Lqbt none)] dqx Try.f89
theorem eqx_i (a0 a1 a2 a3 : Int) (a4 a5 a6 : Rw) : Lqx none [.i a0, .i a1, .i a2, .i a3, .l a4, .l a5, .l a6] =
 Lqx (some 4) [.i 0, .i a0, .i a1, .i a2, .i a3, .l a4, .l a5, .l a6, .i 0, .i 0, .i 0, .i 0, .i a0, .i a1, .i a2, .i a3, .l a5, .l a6, .l [], .l [], .l [], .l ([] : Rw)] := (zb _ _).trans (by kernel_rfl)
theorem eqx_4 (a0 a1 a2 a3 a4 : Int) (a5 a6 a7 : Rw) (a8 a9 a10 a11 a12 a13 a14 a15 : Int) (a16 a17 a18 a19 a20 a21 : Rw) : Lqx (some 4) [.i a0, .i a1, .i a2, .i a3, .i a4, .l a5, .l a6, .l a7, .i a8, .i a9, .i a10, .i a11, .i a12, .i a13, .i a14, .i a15, .l a16, .l a17, .l a18, .l a19, .l a20, .l a21] =
 cond (decide (a0 < (a5.length : Int))) (
 cond (inb a0 a5.length) (
 (Lqbt none [.s ((rd a5 a0.toNat 2).str), .l ((rd a5 a0.toNat 3).list)]).bind fun y1 =>
 cond (decide (a21.length + ([[.s ((rd a5 a0.toNat 0).str), .i ((rd a5 a0.toNat 1).int), .s ((g y1 0).str), .l ((g y1 1).list)]] : Rw).length ≤ most)) (
 Lqx (some 4) [.i (IntKind.i64.wrap (a0 + 1)), .i a1, .i a2, .i a3, .i a4, .l a5, .l a6, .l a7, .i a8, .i a9, .i a10, .i a11, .i a12, .i a13, .i a14, .i a15, .l a16, .l a17, .l a18, .l a19, .l a20, .l (a21 ++ ([[.s ((rd a5 a0.toNat 0).str), .i ((rd a5 a0.toNat 1).int), .s ((g y1 0).str), .l ((g y1 1).list)]] : Rw))]) (
 none)) (
 none)) (
 cond (decide (([] : Rw).length + a6.length ≤ most)) (
 cond (decide (([] : Rw).length + a7.length ≤ most)) (
 some [.i a12, .i a13, .i a14, .i a15, .l a21, .l (([] : Rw) ++ a6), .l (([] : Rw) ++ a7)]) (
 none)) (
 none)) := (zb _ _).trans (by kernel_rfl)
theorem kqx : SigOk Try.prog (dqx.sig (Lqx none)) ∧ (dqx.sig (Lqx none)).ok = true := zf (zd kqbt (by kernel_rfl) zg) (by kernel_rfl) (by kernel_rfl) (by kernel_rfl)
def dqg : FD := { fn := 93, nb := 0, pre := ⟨[.ag [.i .i64 0, .i .i64 1, .i .i64 2, .i .i64 3, .fz 116 false 4, .fz 127 false 5, .fz 129 false 6], .sc (.s 7)], []⟩, post := ⟨[.sc (.i .i64 0)], []⟩, sh := false, cuts := [⟨2, [1, 2, 5], ⟨[.sc (.s 0), .sc (.pt 0 0), .sc (.i .i64 1)], [.bx [.i .i64 2, .i .i64 3, .i .i64 4, .i .i64 5, .fz 116 false 6, .fz 127 false 7, .fz 129 false 8]]⟩⟩] }
noncomputable def Lqg : Option Nat → Lv → Option Lv := Lim Try.prog [] dqg Try.f93
theorem eqg_i (a0 a1 a2 a3 : Int) (a4 a5 a6 : Rw) (a7 : ByteArray) : Lqg none [.i a0, .i a1, .i a2, .i a3, .l a4, .l a5, .l a6, .s a7] =
 Lqg (some 2) [.s a7, .i 0, .i a0, .i a1, .i a2, .i a3, .l a4, .l a5, .l a6] := (zb _ _).trans (by kernel_rfl)
theorem eqg_2 (a0 : ByteArray) (a1 a2 a3 a4 a5 : Int) (a6 a7 a8 : Rw) : Lqg (some 2) [.s a0, .i a1, .i a2, .i a3, .i a4, .i a5, .l a6, .l a7, .l a8] =
 cond (decide (a1 < (a6.length : Int))) (
 cond (inb a1 a6.length) (
 cond (Eng.seq ((rd a6 a1.toNat 0).str) a0) (
 some [.i a1]) (
 Lqg (some 2) [.s a0, .i (IntKind.i64.wrap (a1 + 1)), .i a2, .i a3, .i a4, .i a5, .l a6, .l a7, .l a8])) (
 none)) (
 some [.i (-1)]) := (zb _ _).trans (by kernel_rfl)
theorem kqg : SigOk Try.prog (dqg.sig (Lqg none)) ∧ (dqg.sig (Lqg none)).ok = true := zf zg (by kernel_rfl) (by kernel_rfl) (by kernel_rfl)
def dqbp : FD := { fn := 141, nb := 0, pre := ⟨[.ag [.i .i64 0, .i .i64 1, .i .i64 2, .i .i64 3, .fz 116 false 4, .fz 127 false 5, .ow 0], .sc (.s 6), .sc (.i .i64 7)], [.rw 129 false 8]⟩, post := ⟨[.ag [.i .i64 0, .i .i64 1, .i .i64 2, .i .i64 3, .i .i64 4, .fz 116 false 5, .fz 127 false 6, .ow 0, .s 7, .i .i64 8, .s 9, .s 10]], [.rw 129 false 11]⟩, sh := true, cuts := [] }
noncomputable def Lqbp : Option Nat → Lv → Option Lv := Lim Try.prog [] dqbp Try.f141
theorem eqbp_i (a0 a1 a2 a3 : Int) (a4 a5 : Rw) (a6 : ByteArray) (a7 : Int) (a8 : Rw) : Lqbp none [.i a0, .i a1, .i a2, .i a3, .l a4, .l a5, .s a6, .i a7, .l a8] =
 cond (decide (200 ≤ (a8.length : Int))) (
 some [.i 4, .i 0, .i 0, .i 0, .i 0, .l ([]), .l ([]), .s (⟨#[]⟩ : ByteArray), .i 0, .s (⟨#[]⟩ : ByteArray), .s (⟨#[]⟩ : ByteArray), .l []]) (
 cond (decide (1000000000 ≤ a2)) (
 some [.i 4, .i 0, .i 0, .i 0, .i 0, .l ([]), .l ([]), .s (⟨#[]⟩ : ByteArray), .i 0, .s (⟨#[]⟩ : ByteArray), .s (⟨#[]⟩ : ByteArray), .l []]) (
 cond (decide (a8.length + ([[.i (IntKind.i64.wrap (a2 + 1)), .s a6, .i (IntKind.i64.wrap (a1 + a7))]] : Rw).length ≤ most)) (
 some [.i 0, .i a0, .i a1, .i (IntKind.i64.wrap (a2 + 1)), .i a3, .l a4, .l a5, .s (⟨#[]⟩ : ByteArray), .i (IntKind.i64.wrap (a2 + 1)), .s (⟨#[]⟩ : ByteArray), .s (⟨#[]⟩ : ByteArray), .l (a8 ++ ([[.i (IntKind.i64.wrap (a2 + 1)), .s a6, .i (IntKind.i64.wrap (a1 + a7))]] : Rw))]) (
 none))) := (zb _ _).trans (by kernel_rfl)
theorem kqbp : SigOk Try.prog (dqbp.sig (Lqbp none)) ∧ (dqbp.sig (Lqbp none)).ok = true := zf zg (by kernel_rfl) (by kernel_rfl) (by kernel_rfl)
def dqt : FD := { fn := 168, nb := 0, pre := ⟨[.sc (.s 0), .sc (.i .i64 1)], []⟩, post := ⟨[.sc (.s 0)], []⟩, sh := false, cuts := [⟨5, [0, 1, 5, 6], ⟨[.sc (.s 0), .sc (.i .i64 1), .sc (.i .u64 2), .sc (.i .i64 3)], []⟩⟩, ⟨10, [1, 5, 7, 8], ⟨[.sc (.i .i64 0), .sc (.i .u64 1), .sc (.ow 0), .sc (.i .i64 2)], [.rw 5 true 3]⟩⟩] }
noncomputable def Lqt : Option Nat → Lv → Option Lv := Lim Try.prog [dqf.sig (Lqf none)] dqt Try.f168
theorem eqt_i (a0 : ByteArray) (a1 : Int) : Lqt none [.s a0, .i a1] =
 (Lqf none [.i a1]).bind fun y1 =>
 cond (!(g y1 0).bool) (
 some [.s (⟨#[]⟩ : ByteArray)]) (
 Lqt (some 5) [.s a0, .i a1, .i 14695981039346656037, .i 0]) := (zb _ _).trans (by kernel_rfl)
theorem eqt_5 (a0 : ByteArray) (a1 a2 a3 : Int) : Lqt (some 5) [.s a0, .i a1, .i a2, .i a3] =
 cond (decide (a3 < (a0.size : Int))) (
 cond (inb a3 a0.size) (
 Lqt (some 5) [.s a0, .i a1, .i (IntKind.u64.wrap ((IntKind.u64.wrap (BitVec.ofInt (IntKind.u64).bits a2 ^^^ BitVec.ofInt (IntKind.u64).bits (IntKind.u64.wrap (byteAt a0 a3.toNat))).toNat) * 1099511628211)), .i (IntKind.i64.wrap (a3 + 1))]) (
 none)) (
 Lqt (some 10) [.i a1, .i a2, .i 0, .l ([] : Rw)]) := (zb _ _).trans (by kernel_rfl)
theorem eqt_10 (a0 a1 a2 : Int) (a3 : Rw) : Lqt (some 10) [.i a0, .i a1, .i a2, .l a3] =
 cond (decide (a2 < a0)) (
 cond (decide (([[.i (IntKind.u8.wrap (a1.tmod 256))]] : Rw).length + a3.length ≤ most)) (
 Lqt (some 10) [.i a0, .i (IntKind.u64.wrap (a1.tdiv 256)), .i (IntKind.i64.wrap (a2 + 1)), .l (([[.i (IntKind.u8.wrap (a1.tmod 256))]] : Rw) ++ a3)]) (
 none)) (
 some [.s (bytesOf a3)]) := (zb _ _).trans (by kernel_rfl)
theorem kqt : SigOk Try.prog (dqt.sig (Lqt none)) ∧ (dqt.sig (Lqt none)).ok = true := zf (zd kqf (by kernel_rfl) zg) (by kernel_rfl) (by kernel_rfl) (by kernel_rfl)
def dqd : FD := { fn := 138, nb := 0, pre := ⟨[.ag [.i .i64 0, .i .i64 1, .i .i64 2, .i .i64 3, .fz 116 false 4, .fz 127 false 5, .ow 0], .ag [.i .i64 6, .s 7, .s 8, .i .i64 9, .s 10, .fz 9 false 11]], [.rw 129 false 12]⟩, post := ⟨[.ag [.i .i64 0, .i .i64 1, .i .i64 2, .i .i64 3, .i .i64 4, .fz 116 false 5, .fz 127 false 6, .ow 0, .s 7, .i .i64 8, .s 9, .s 10]], [.rw 129 false 11]⟩, sh := true, cuts := [⟨4, [2, 3, 4, 5, 6, 7], ⟨[.sc (.pt 0 0), .sc (.pt 1 0), .sc (.pt 2 0), .sc (.s 0), .sc (.s 1), .sc (.i .i64 2)], [.bx [.i .i64 3, .i .i64 4, .i .i64 5, .i .i64 6, .fz 116 false 7, .fz 127 false 8, .ow 3], .bx [.i .i64 9, .s 10, .s 11, .i .i64 12, .s 13, .fz 9 false 14], .bx [.i .i64 15, .i .i64 16, .i .i64 17, .i .i64 18, .i .i64 19, .ow 4, .ow 5, .ow 6, .s 20, .i .i64 21, .s 22, .s 23], .rw 129 false 24, .rw 116 true 25, .rw 127 true 26, .rw 129 true 27]⟩⟩, ⟨20, [2, 3, 4, 6, 10, 11, 12, 13], ⟨[.sc (.pt 0 0), .sc (.pt 1 0), .sc (.pt 2 0), .sc (.s 0), .sc (.ow 3), .sc (.b 1), .sc (.pt 4 0), .sc (.i .i64 2)], [.bx [.i .i64 3, .i .i64 4, .i .i64 5, .i .i64 6, .fz 116 false 7, .fz 127 false 8, .ow 5], .bx [.i .i64 9, .s 10, .s 11, .i .i64 12, .s 13, .fz 9 false 14], .bx [.i .i64 15, .i .i64 16, .i .i64 17, .i .i64 18, .i .i64 19, .ow 6, .ow 7, .ow 8, .s 20, .i .i64 21, .s 22, .s 23], .rw 116 false 24, .bx [.s 25, .i .i64 26, .s 27, .fz 9 true 28], .rw 129 false 29, .rw 116 true 30, .rw 127 true 31, .rw 129 true 32]⟩⟩] }
noncomputable def Lqd : Option Nat → Lv → Option Lv := Lim Try.prog [dqg.sig (Lqg none), dqt.sig (Lqt none), dqw.sig (Lqw none), dqbt.sig (Lqbt none), dqbp.sig (Lqbp none)] dqd Try.f138
theorem eqd_i (a0 a1 a2 a3 : Int) (a4 a5 : Rw) (a6 : Int) (a7 a8 : ByteArray) (a9 : Int) (a10 : ByteArray) (a11 a12 : Rw) : Lqd none [.i a0, .i a1, .i a2, .i a3, .l a4, .l a5, .i a6, .s a7, .s a8, .i a9, .s a10, .l a11, .l a12] =
 (Lqw none [.s a10, .l a11, .i a0]).bind fun y1 =>
 (Lqt none [.s ((g y1 0).str), .i a0]).bind fun y2 =>
 Lqd (some 4) [.s ((g y1 0).str), .s ((g y2 0).str), .i 0, .i a0, .i a1, .i a2, .i a3, .l a4, .l a5, .i a6, .s a7, .s a8, .i a9, .s a10, .l a11, .i 0, .i 0, .i 0, .i 0, .i 0, .s (⟨#[]⟩ : ByteArray), .i 0, .s (⟨#[]⟩ : ByteArray), .s (⟨#[]⟩ : ByteArray), .l a12, .l [], .l [], .l []] := (zb _ _).trans (by kernel_rfl)
theorem eqd_4 (a0 a1 : ByteArray) (a2 a3 a4 a5 a6 : Int) (a7 a8 : Rw) (a9 : Int) (a10 a11 : ByteArray) (a12 : Int) (a13 : ByteArray) (a14 : Rw) (a15 a16 a17 a18 a19 : Int) (a20 : ByteArray) (a21 : Int) (a22 a23 : ByteArray) (a24 a25 a26 a27 : Rw) : Lqd (some 4) [.s a0, .s a1, .i a2, .i a3, .i a4, .i a5, .i a6, .l a7, .l a8, .i a9, .s a10, .s a11, .i a12, .s a13, .l a14, .i a15, .i a16, .i a17, .i a18, .i a19, .s a20, .i a21, .s a22, .s a23, .l a24, .l a25, .l a26, .l a27] =
 cond (decide (a2 < (a14.length : Int))) (
 cond (inb a2 a14.length) (
 (Lqg none [.i a3, .i a4, .i a5, .i a6, .l a7, .l a8, .l a24, .s ((rd a14 a2.toNat 0).str)]).bind fun y1 =>
 cond (decide ((g y1 0).int < 0)) (
 some [.i 2, .i 0, .i 0, .i 0, .i 0, .l ([]), .l ([]), .s (⟨#[]⟩ : ByteArray), .i 0, .s (⟨#[]⟩ : ByteArray), .s (⟨#[]⟩ : ByteArray), .l []]) (
 Lqd (some 4) [.s a0, .s a1, .i (IntKind.i64.wrap (a2 + 1)), .i a3, .i a4, .i a5, .i a6, .l a7, .l a8, .i a9, .s a10, .s a11, .i a12, .s a13, .l a14, .i a15, .i a16, .i a17, .i a18, .i a19, .s a20, .i a21, .s a22, .s a23, .l a24, .l a25, .l a26, .l a27])) (
 none)) (
 (Lqg none [.i a3, .i a4, .i a5, .i a6, .l a7, .l a8, .l a24, .s a1]).bind fun y2 =>
 cond (decide (0 ≤ (g y2 0).int)) (
 cond (inb ((g y2 0).int) a7.length) (
 (Lqw none [.s ((rd a7 (((g y2 0).int).toNat) 2).str), .l ((rd a7 (((g y2 0).int).toNat) 3).list), .i a3]).bind fun y3 =>
 cond (!Eng.seq ((g y3 0).str) a0) (
 some [.i 3, .i 0, .i 0, .i 0, .i 0, .l ([]), .l ([]), .s (⟨#[]⟩ : ByteArray), .i 0, .s ((g y3 0).str), .s a0, .l []]) (
 (Lqbp none [.i a3, .i a4, .i a5, .i a6, .l a7, .l a8, .s a1, .i a12, .l a24]).bind fun y4 =>
 cond ((g y4 0).int == 0) (
 some [.i ((g y4 0).int), .i ((g y4 1).int), .i ((g y4 2).int), .i ((g y4 3).int), .i ((g y4 4).int), .l ((g y4 5).list), .l ((g y4 6).list), .s a1, .i ((g y4 8).int), .s ((g y4 9).str), .s ((g y4 10).str), .l ((g y4 11).list)]) (
 some [.i ((g y4 0).int), .i ((g y4 1).int), .i ((g y4 2).int), .i ((g y4 3).int), .i ((g y4 4).int), .l ((g y4 5).list), .l ((g y4 6).list), .s ((g y4 7).str), .i ((g y4 8).int), .s ((g y4 9).str), .s ((g y4 10).str), .l ((g y4 11).list)]))) (
 none)) (
 cond (decide (600 ≤ (a7.length : Int))) (
 some [.i 4, .i 0, .i 0, .i 0, .i 0, .l ([]), .l ([]), .s (⟨#[]⟩ : ByteArray), .i 0, .s (⟨#[]⟩ : ByteArray), .s (⟨#[]⟩ : ByteArray), .l []]) (
 cond (decide (1000000000 ≤ a6)) (
 some [.i 4, .i 0, .i 0, .i 0, .i 0, .l ([]), .l ([]), .s (⟨#[]⟩ : ByteArray), .i 0, .s (⟨#[]⟩ : ByteArray), .s (⟨#[]⟩ : ByteArray), .l []]) (
 (Lqbt none [.s a13, .l a14]).bind fun y5 =>
 Lqd (some 20) [.s a1, .b false, .i 0, .i a3, .i a4, .i a5, .i (IntKind.i64.wrap (a6 + 1)), .l a7, .l a8, .i a9, .s a10, .s a11, .i a12, .s a13, .l a14, .i a15, .i a16, .i a17, .i a18, .i a19, .s a20, .i a21, .s a22, .s a23, .l ([] : Rw), .s a1, .i (IntKind.i64.wrap (a6 + 1)), .s ((g y5 0).str), .l ((g y5 1).list), .l a24, .l a25, .l a26, .l a27])))) := (zb _ _).trans (by kernel_rfl)
theorem eqd_20 (a0 : ByteArray) (a1 : Bool) (a2 a3 a4 a5 a6 : Int) (a7 a8 : Rw) (a9 : Int) (a10 a11 : ByteArray) (a12 : Int) (a13 : ByteArray) (a14 : Rw) (a15 a16 a17 a18 a19 : Int) (a20 : ByteArray) (a21 : Int) (a22 a23 : ByteArray) (a24 : Rw) (a25 : ByteArray) (a26 : Int) (a27 : ByteArray) (a28 a29 a30 a31 a32 : Rw) : Lqd (some 20) [.s a0, .b a1, .i a2, .i a3, .i a4, .i a5, .i a6, .l a7, .l a8, .i a9, .s a10, .s a11, .i a12, .s a13, .l a14, .i a15, .i a16, .i a17, .i a18, .i a19, .s a20, .i a21, .s a22, .s a23, .l a24, .s a25, .i a26, .s a27, .l a28, .l a29, .l a30, .l a31, .l a32] =
 cond (decide (a2 < (a7.length : Int))) (
 cond (!a1) (
 cond (inb a2 a7.length) (
 cond (!(slt ((rd a7 a2.toNat 0).str) a0 || Eng.seq ((rd a7 a2.toNat 0).str) a0)) (
 cond (decide (a24.length + ([[.s a25, .i a26, .s a27, .l a28]] : Rw).length ≤ most)) (
 cond (inb a2 a7.length) (
 cond (decide ((a24 ++ ([[.s a25, .i a26, .s a27, .l a28]] : Rw)).length + ([[.s ((rd a7 a2.toNat 0).str), .i ((rd a7 a2.toNat 1).int), .s ((rd a7 a2.toNat 2).str), .l ((rd a7 a2.toNat 3).list)]] : Rw).length ≤ most)) (
 Lqd (some 20) [.s a0, .b true, .i (IntKind.i64.wrap (a2 + 1)), .i a3, .i a4, .i a5, .i a6, .l a7, .l a8, .i a9, .s a10, .s a11, .i a12, .s a13, .l a14, .i a15, .i a16, .i a17, .i a18, .i a19, .s a20, .i a21, .s a22, .s a23, .l ((a24 ++ ([[.s a25, .i a26, .s a27, .l a28]] : Rw)) ++ ([[.s ((rd a7 a2.toNat 0).str), .i ((rd a7 a2.toNat 1).int), .s ((rd a7 a2.toNat 2).str), .l ((rd a7 a2.toNat 3).list)]] : Rw)), .s a25, .i a26, .s a27, .l a28, .l a29, .l a30, .l a31, .l a32]) (
 none)) (
 none)) (
 none)) (
 cond (inb a2 a7.length) (
 cond (decide (a24.length + ([[.s ((rd a7 a2.toNat 0).str), .i ((rd a7 a2.toNat 1).int), .s ((rd a7 a2.toNat 2).str), .l ((rd a7 a2.toNat 3).list)]] : Rw).length ≤ most)) (
 Lqd (some 20) [.s a0, .b a1, .i (IntKind.i64.wrap (a2 + 1)), .i a3, .i a4, .i a5, .i a6, .l a7, .l a8, .i a9, .s a10, .s a11, .i a12, .s a13, .l a14, .i a15, .i a16, .i a17, .i a18, .i a19, .s a20, .i a21, .s a22, .s a23, .l (a24 ++ ([[.s ((rd a7 a2.toNat 0).str), .i ((rd a7 a2.toNat 1).int), .s ((rd a7 a2.toNat 2).str), .l ((rd a7 a2.toNat 3).list)]] : Rw)), .s a25, .i a26, .s a27, .l a28, .l a29, .l a30, .l a31, .l a32]) (
 none)) (
 none))) (
 none)) (
 cond (inb a2 a7.length) (
 cond (decide (a24.length + ([[.s ((rd a7 a2.toNat 0).str), .i ((rd a7 a2.toNat 1).int), .s ((rd a7 a2.toNat 2).str), .l ((rd a7 a2.toNat 3).list)]] : Rw).length ≤ most)) (
 Lqd (some 20) [.s a0, .b a1, .i (IntKind.i64.wrap (a2 + 1)), .i a3, .i a4, .i a5, .i a6, .l a7, .l a8, .i a9, .s a10, .s a11, .i a12, .s a13, .l a14, .i a15, .i a16, .i a17, .i a18, .i a19, .s a20, .i a21, .s a22, .s a23, .l (a24 ++ ([[.s ((rd a7 a2.toNat 0).str), .i ((rd a7 a2.toNat 1).int), .s ((rd a7 a2.toNat 2).str), .l ((rd a7 a2.toNat 3).list)]] : Rw)), .s a25, .i a26, .s a27, .l a28, .l a29, .l a30, .l a31, .l a32]) (
 none)) (
 none))) (
 cond (!a1) (
 cond (decide (a24.length + ([[.s a25, .i a26, .s a27, .l a28]] : Rw).length ≤ most)) (
 (Lqbp none [.i a3, .i a4, .i a5, .i a6, .l (a24 ++ ([[.s a25, .i a26, .s a27, .l a28]] : Rw)), .l a8, .s a0, .i a12, .l a29]).bind fun y1 =>
 cond ((g y1 0).int == 0) (
 some [.i ((g y1 0).int), .i ((g y1 1).int), .i ((g y1 2).int), .i ((g y1 3).int), .i ((g y1 4).int), .l ((g y1 5).list), .l ((g y1 6).list), .s a0, .i ((g y1 8).int), .s ((g y1 9).str), .s ((g y1 10).str), .l ((g y1 11).list)]) (
 some [.i ((g y1 0).int), .i ((g y1 1).int), .i ((g y1 2).int), .i ((g y1 3).int), .i ((g y1 4).int), .l ((g y1 5).list), .l ((g y1 6).list), .s ((g y1 7).str), .i ((g y1 8).int), .s ((g y1 9).str), .s ((g y1 10).str), .l ((g y1 11).list)])) (
 none)) (
 (Lqbp none [.i a3, .i a4, .i a5, .i a6, .l a24, .l a8, .s a0, .i a12, .l a29]).bind fun y2 =>
 cond ((g y2 0).int == 0) (
 some [.i ((g y2 0).int), .i ((g y2 1).int), .i ((g y2 2).int), .i ((g y2 3).int), .i ((g y2 4).int), .l ((g y2 5).list), .l ((g y2 6).list), .s a0, .i ((g y2 8).int), .s ((g y2 9).str), .s ((g y2 10).str), .l ((g y2 11).list)]) (
 some [.i ((g y2 0).int), .i ((g y2 1).int), .i ((g y2 2).int), .i ((g y2 3).int), .i ((g y2 4).int), .l ((g y2 5).list), .l ((g y2 6).list), .s ((g y2 7).str), .i ((g y2 8).int), .s ((g y2 9).str), .s ((g y2 10).str), .l ((g y2 11).list)]))) := (zb _ _).trans (by kernel_rfl)
theorem kqd : SigOk Try.prog (dqd.sig (Lqd none)) ∧ (dqd.sig (Lqd none)).ok = true := zf (zd kqg (by kernel_rfl) (zd kqt (by kernel_rfl) (zd kqw (by kernel_rfl) (zd kqbt (by kernel_rfl) (zd kqbp (by kernel_rfl) zg))))) (by kernel_rfl) (by kernel_rfl) (by kernel_rfl)
def dqe : FD := { fn := 139, nb := 0, pre := ⟨[.ag [.i .i64 0, .i .i64 1, .i .i64 2, .i .i64 3, .fz 116 false 4, .fz 127 false 5, .ow 0], .ag [.i .i64 6, .s 7, .s 8, .i .i64 9, .s 10, .fz 9 false 11]], [.rw 129 false 12]⟩, post := ⟨[.ag [.i .i64 0, .i .i64 1, .i .i64 2, .i .i64 3, .i .i64 4, .fz 116 false 5, .ow 0, .ow 1, .s 6, .i .i64 7, .s 8, .s 9]], [.rw 127 true 10, .rw 129 false 11]⟩, sh := true, cuts := [⟨6, [2, 3, 4, 5, 6, 7], ⟨[.sc (.pt 0 0), .sc (.pt 1 0), .sc (.pt 2 0), .sc (.ow 3), .sc (.b 0), .sc (.i .i64 1)], [.bx [.i .i64 2, .i .i64 3, .i .i64 4, .i .i64 5, .fz 116 false 6, .fz 127 false 7, .ow 4], .bx [.i .i64 8, .s 9, .s 10, .i .i64 11, .s 12, .fz 9 false 13], .bx [.i .i64 14, .i .i64 15, .i .i64 16, .i .i64 17, .i .i64 18, .ow 5, .ow 6, .ow 7, .s 19, .i .i64 20, .s 21, .s 22], .rw 127 true 23, .rw 129 false 24, .rw 116 true 25, .rw 127 true 26, .rw 129 true 27]⟩⟩, ⟨11, [2, 3, 4, 5, 6, 7], ⟨[.sc (.pt 0 0), .sc (.pt 1 0), .sc (.pt 2 0), .sc (.ow 3), .sc (.b 0), .sc (.i .i64 1)], [.bx [.i .i64 2, .i .i64 3, .i .i64 4, .i .i64 5, .fz 116 false 6, .fz 127 false 7, .ow 4], .bx [.i .i64 8, .s 9, .s 10, .i .i64 11, .s 12, .fz 9 false 13], .bx [.i .i64 14, .i .i64 15, .i .i64 16, .i .i64 17, .i .i64 18, .ow 5, .ow 6, .ow 7, .s 19, .i .i64 20, .s 21, .s 22], .rw 127 true 23, .rw 129 false 24, .rw 116 true 25, .rw 127 true 26, .rw 129 true 27]⟩⟩] }
noncomputable def Lqe : Option Nat → Lv → Option Lv := Lim Try.prog [dqg.sig (Lqg none)] dqe Try.f139
theorem eqe_i (a0 a1 a2 a3 : Int) (a4 a5 : Rw) (a6 : Int) (a7 a8 : ByteArray) (a9 : Int) (a10 : ByteArray) (a11 a12 : Rw) : Lqe none [.i a0, .i a1, .i a2, .i a3, .l a4, .l a5, .i a6, .s a7, .s a8, .i a9, .s a10, .l a11, .l a12] =
 (Lqg none [.i a0, .i a1, .i a2, .i a3, .l a4, .l a5, .l a12, .s a7]).bind fun y1 =>
 cond (decide ((g y1 0).int < 0)) (
 some [.i 2, .i 0, .i 0, .i 0, .i 0, .l ([]), .s (⟨#[]⟩ : ByteArray), .i 0, .s (⟨#[]⟩ : ByteArray), .s (⟨#[]⟩ : ByteArray), .l [], .l []]) (
 Lqe (some 6) [.b false, .i 0, .i a0, .i a1, .i a2, .i a3, .l a4, .l a5, .i a6, .s a7, .s a8, .i a9, .s a10, .l a11, .i 0, .i 0, .i 0, .i 0, .i 0, .s (⟨#[]⟩ : ByteArray), .i 0, .s (⟨#[]⟩ : ByteArray), .s (⟨#[]⟩ : ByteArray), .l ([] : Rw), .l a12, .l [], .l [], .l []]) := (zb _ _).trans (by kernel_rfl)
theorem eqe_6 (a0 : Bool) (a1 a2 a3 a4 a5 : Int) (a6 a7 : Rw) (a8 : Int) (a9 a10 : ByteArray) (a11 : Int) (a12 : ByteArray) (a13 : Rw) (a14 a15 a16 a17 a18 : Int) (a19 : ByteArray) (a20 : Int) (a21 a22 : ByteArray) (a23 a24 a25 a26 a27 : Rw) : Lqe (some 6) [.b a0, .i a1, .i a2, .i a3, .i a4, .i a5, .l a6, .l a7, .i a8, .s a9, .s a10, .i a11, .s a12, .l a13, .i a14, .i a15, .i a16, .i a17, .i a18, .s a19, .i a20, .s a21, .s a22, .l a23, .l a24, .l a25, .l a26, .l a27] =
 cond (decide (a1 < (a7.length : Int))) (
 cond (!a0) (
 cond (inb a1 a7.length) (
 cond (!slt ((rd a7 a1.toNat 0).str) a10) (
 cond (decide (a23.length + ([[.s a10, .s a9]] : Rw).length ≤ most)) (
 Lqe (some 11) [.b true, .i a1, .i a2, .i a3, .i a4, .i a5, .l a6, .l a7, .i a8, .s a9, .s a10, .i a11, .s a12, .l a13, .i a14, .i a15, .i a16, .i a17, .i a18, .s a19, .i a20, .s a21, .s a22, .l (a23 ++ ([[.s a10, .s a9]] : Rw)), .l a24, .l a25, .l a26, .l a27]) (
 none)) (
 Lqe (some 11) [.b a0, .i a1, .i a2, .i a3, .i a4, .i a5, .l a6, .l a7, .i a8, .s a9, .s a10, .i a11, .s a12, .l a13, .i a14, .i a15, .i a16, .i a17, .i a18, .s a19, .i a20, .s a21, .s a22, .l a23, .l a24, .l a25, .l a26, .l a27])) (
 none)) (
 Lqe (some 11) [.b a0, .i a1, .i a2, .i a3, .i a4, .i a5, .l a6, .l a7, .i a8, .s a9, .s a10, .i a11, .s a12, .l a13, .i a14, .i a15, .i a16, .i a17, .i a18, .s a19, .i a20, .s a21, .s a22, .l a23, .l a24, .l a25, .l a26, .l a27])) (
 cond (!a0) (
 cond (decide (a23.length + ([[.s a10, .s a9]] : Rw).length ≤ most)) (
 cond (decide (100 < ((a23 ++ ([[.s a10, .s a9]] : Rw)).length : Int))) (
 some [.i 4, .i 0, .i 0, .i 0, .i 0, .l ([]), .s (⟨#[]⟩ : ByteArray), .i 0, .s (⟨#[]⟩ : ByteArray), .s (⟨#[]⟩ : ByteArray), .l [], .l []]) (
 some [.i 0, .i a2, .i a3, .i a4, .i a5, .l a6, .s (⟨#[]⟩ : ByteArray), .i 0, .s (⟨#[]⟩ : ByteArray), .s (⟨#[]⟩ : ByteArray), .l (a23 ++ ([[.s a10, .s a9]] : Rw)), .l a24])) (
 none)) (
 cond (decide (100 < (a23.length : Int))) (
 some [.i 4, .i 0, .i 0, .i 0, .i 0, .l ([]), .s (⟨#[]⟩ : ByteArray), .i 0, .s (⟨#[]⟩ : ByteArray), .s (⟨#[]⟩ : ByteArray), .l [], .l []]) (
 some [.i 0, .i a2, .i a3, .i a4, .i a5, .l a6, .s (⟨#[]⟩ : ByteArray), .i 0, .s (⟨#[]⟩ : ByteArray), .s (⟨#[]⟩ : ByteArray), .l a23, .l a24]))) := (zb _ _).trans (by kernel_rfl)
theorem eqe_11 (a0 : Bool) (a1 a2 a3 a4 a5 : Int) (a6 a7 : Rw) (a8 : Int) (a9 a10 : ByteArray) (a11 : Int) (a12 : ByteArray) (a13 : Rw) (a14 a15 a16 a17 a18 : Int) (a19 : ByteArray) (a20 : Int) (a21 a22 : ByteArray) (a23 a24 a25 a26 a27 : Rw) : Lqe (some 11) [.b a0, .i a1, .i a2, .i a3, .i a4, .i a5, .l a6, .l a7, .i a8, .s a9, .s a10, .i a11, .s a12, .l a13, .i a14, .i a15, .i a16, .i a17, .i a18, .s a19, .i a20, .s a21, .s a22, .l a23, .l a24, .l a25, .l a26, .l a27] =
 cond (inb a1 a7.length) (
 cond (!Eng.seq ((rd a7 a1.toNat 0).str) a10) (
 cond (inb a1 a7.length) (
 cond (decide (a23.length + ([[.s ((rd a7 a1.toNat 0).str), .s ((rd a7 a1.toNat 1).str)]] : Rw).length ≤ most)) (
 Lqe (some 6) [.b a0, .i (IntKind.i64.wrap (a1 + 1)), .i a2, .i a3, .i a4, .i a5, .l a6, .l a7, .i a8, .s a9, .s a10, .i a11, .s a12, .l a13, .i a14, .i a15, .i a16, .i a17, .i a18, .s a19, .i a20, .s a21, .s a22, .l (a23 ++ ([[.s ((rd a7 a1.toNat 0).str), .s ((rd a7 a1.toNat 1).str)]] : Rw)), .l a24, .l a25, .l a26, .l a27]) (
 none)) (
 none)) (
 Lqe (some 6) [.b a0, .i (IntKind.i64.wrap (a1 + 1)), .i a2, .i a3, .i a4, .i a5, .l a6, .l a7, .i a8, .s a9, .s a10, .i a11, .s a12, .l a13, .i a14, .i a15, .i a16, .i a17, .i a18, .s a19, .i a20, .s a21, .s a22, .l a23, .l a24, .l a25, .l a26, .l a27])) (
 none) := (zb _ _).trans (by kernel_rfl)
theorem kqe : SigOk Try.prog (dqe.sig (Lqe none)) ∧ (dqe.sig (Lqe none)).ok = true := zf (zd kqg (by kernel_rfl) zg) (by kernel_rfl) (by kernel_rfl) (by kernel_rfl)
def dq1 : FD := { fn := 140, nb := 0, pre := ⟨[.ag [.i .i64 0, .i .i64 1, .i .i64 2, .i .i64 3, .fz 116 false 4, .fz 127 false 5, .ow 0], .sc (.s 6)], [.rw 129 false 7]⟩, post := ⟨[.ag [.i .i64 0, .i .i64 1, .i .i64 2, .i .i64 3, .i .i64 4, .fz 116 false 5, .ow 0, .ow 1, .s 6, .i .i64 7, .s 8, .s 9]], [.rw 127 true 10, .rw 129 false 11]⟩, sh := true, cuts := [⟨3, [1, 2, 4, 5, 6], ⟨[.sc (.s 0), .sc (.pt 0 0), .sc (.pt 1 0), .sc (.ow 2), .sc (.i .i64 1)], [.bx [.i .i64 2, .i .i64 3, .i .i64 4, .i .i64 5, .fz 116 false 6, .fz 127 false 7, .ow 3], .bx [.i .i64 8, .i .i64 9, .i .i64 10, .i .i64 11, .i .i64 12, .ow 4, .ow 5, .ow 6, .s 13, .i .i64 14, .s 15, .s 16], .rw 127 true 17, .rw 129 false 18, .rw 116 true 19, .rw 127 true 20, .rw 129 true 21]⟩⟩] }
noncomputable def Lq1 : Option Nat → Lv → Option Lv := Lim Try.prog [] dq1 Try.f140
theorem eq1_i (a0 a1 a2 a3 : Int) (a4 a5 : Rw) (a6 : ByteArray) (a7 : Rw) : Lq1 none [.i a0, .i a1, .i a2, .i a3, .l a4, .l a5, .s a6, .l a7] =
 Lq1 (some 3) [.s a6, .i 0, .i a0, .i a1, .i a2, .i a3, .l a4, .l a5, .i 0, .i 0, .i 0, .i 0, .i 0, .s (⟨#[]⟩ : ByteArray), .i 0, .s (⟨#[]⟩ : ByteArray), .s (⟨#[]⟩ : ByteArray), .l ([] : Rw), .l a7, .l [], .l [], .l []] := (zb _ _).trans (by kernel_rfl)
theorem eq1_3 (a0 : ByteArray) (a1 a2 a3 a4 a5 : Int) (a6 a7 : Rw) (a8 a9 a10 a11 a12 : Int) (a13 : ByteArray) (a14 : Int) (a15 a16 : ByteArray) (a17 a18 a19 a20 a21 : Rw) : Lq1 (some 3) [.s a0, .i a1, .i a2, .i a3, .i a4, .i a5, .l a6, .l a7, .i a8, .i a9, .i a10, .i a11, .i a12, .s a13, .i a14, .s a15, .s a16, .l a17, .l a18, .l a19, .l a20, .l a21] =
 cond (decide (a1 < (a7.length : Int))) (
 cond (inb a1 a7.length) (
 cond (!Eng.seq ((rd a7 a1.toNat 0).str) a0) (
 cond (inb a1 a7.length) (
 cond (decide (a17.length + ([[.s ((rd a7 a1.toNat 0).str), .s ((rd a7 a1.toNat 1).str)]] : Rw).length ≤ most)) (
 Lq1 (some 3) [.s a0, .i (IntKind.i64.wrap (a1 + 1)), .i a2, .i a3, .i a4, .i a5, .l a6, .l a7, .i a8, .i a9, .i a10, .i a11, .i a12, .s a13, .i a14, .s a15, .s a16, .l (a17 ++ ([[.s ((rd a7 a1.toNat 0).str), .s ((rd a7 a1.toNat 1).str)]] : Rw)), .l a18, .l a19, .l a20, .l a21]) (
 none)) (
 none)) (
 Lq1 (some 3) [.s a0, .i (IntKind.i64.wrap (a1 + 1)), .i a2, .i a3, .i a4, .i a5, .l a6, .l a7, .i a8, .i a9, .i a10, .i a11, .i a12, .s a13, .i a14, .s a15, .s a16, .l a17, .l a18, .l a19, .l a20, .l a21])) (
 none)) (
 cond ((a17.length : Int) == (a7.length : Int)) (
 some [.i 5, .i 0, .i 0, .i 0, .i 0, .l ([]), .s (⟨#[]⟩ : ByteArray), .i 0, .s (⟨#[]⟩ : ByteArray), .s (⟨#[]⟩ : ByteArray), .l [], .l []]) (
 some [.i 0, .i a2, .i a3, .i a4, .i a5, .l a6, .s (⟨#[]⟩ : ByteArray), .i 0, .s (⟨#[]⟩ : ByteArray), .s (⟨#[]⟩ : ByteArray), .l a17, .l a18])) := (zb _ _).trans (by kernel_rfl)
theorem kq1 : SigOk Try.prog (dq1.sig (Lq1 none)) ∧ (dq1.sig (Lq1 none)).ok = true := zf zg (by kernel_rfl) (by kernel_rfl) (by kernel_rfl)
def dq2 : FD := { fn := 142, nb := 0, pre := ⟨[.ag [.i .i64 0, .i .i64 1, .i .i64 2, .i .i64 3, .fz 116 false 4, .fz 127 false 5, .ow 0], .sc (.i .i64 6)], [.rw 129 false 7]⟩, post := ⟨[.ag [.i .i64 0, .i .i64 1, .i .i64 2, .i .i64 3, .i .i64 4, .fz 116 false 5, .fz 127 false 6, .ow 0, .s 7, .i .i64 8, .s 9, .s 10]], [.rw 129 true 11]⟩, sh := true, cuts := [⟨3, [1, 2, 4, 5, 6], ⟨[.sc (.i .i64 0), .sc (.pt 0 0), .sc (.pt 1 0), .sc (.ow 2), .sc (.i .i64 1)], [.bx [.i .i64 2, .i .i64 3, .i .i64 4, .i .i64 5, .fz 116 false 6, .fz 127 false 7, .ow 3], .bx [.i .i64 8, .i .i64 9, .i .i64 10, .i .i64 11, .i .i64 12, .ow 4, .ow 5, .ow 6, .s 13, .i .i64 14, .s 15, .s 16], .rw 129 true 17, .rw 129 false 18, .rw 116 true 19, .rw 127 true 20, .rw 129 true 21]⟩⟩] }
noncomputable def Lq2 : Option Nat → Lv → Option Lv := Lim Try.prog [] dq2 Try.f142
theorem eq2_i (a0 a1 a2 a3 : Int) (a4 a5 : Rw) (a6 : Int) (a7 : Rw) : Lq2 none [.i a0, .i a1, .i a2, .i a3, .l a4, .l a5, .i a6, .l a7] =
 Lq2 (some 3) [.i a6, .i 0, .i a0, .i a1, .i a2, .i a3, .l a4, .l a5, .i 0, .i 0, .i 0, .i 0, .i 0, .s (⟨#[]⟩ : ByteArray), .i 0, .s (⟨#[]⟩ : ByteArray), .s (⟨#[]⟩ : ByteArray), .l ([] : Rw), .l a7, .l [], .l [], .l []] := (zb _ _).trans (by kernel_rfl)
theorem eq2_3 (a0 a1 a2 a3 a4 a5 : Int) (a6 a7 : Rw) (a8 a9 a10 a11 a12 : Int) (a13 : ByteArray) (a14 : Int) (a15 a16 : ByteArray) (a17 a18 a19 a20 a21 : Rw) : Lq2 (some 3) [.i a0, .i a1, .i a2, .i a3, .i a4, .i a5, .l a6, .l a7, .i a8, .i a9, .i a10, .i a11, .i a12, .s a13, .i a14, .s a15, .s a16, .l a17, .l a18, .l a19, .l a20, .l a21] =
 cond (decide (a1 < (a18.length : Int))) (
 cond (inb a1 a18.length) (
 cond ((rd a18 a1.toNat 0).int != a0) (
 cond (inb a1 a18.length) (
 cond (decide (a17.length + ([[.i ((rd a18 a1.toNat 0).int), .s ((rd a18 a1.toNat 1).str), .i ((rd a18 a1.toNat 2).int)]] : Rw).length ≤ most)) (
 Lq2 (some 3) [.i a0, .i (IntKind.i64.wrap (a1 + 1)), .i a2, .i a3, .i a4, .i a5, .l a6, .l a7, .i a8, .i a9, .i a10, .i a11, .i a12, .s a13, .i a14, .s a15, .s a16, .l (a17 ++ ([[.i ((rd a18 a1.toNat 0).int), .s ((rd a18 a1.toNat 1).str), .i ((rd a18 a1.toNat 2).int)]] : Rw)), .l a18, .l a19, .l a20, .l a21]) (
 none)) (
 none)) (
 Lq2 (some 3) [.i a0, .i (IntKind.i64.wrap (a1 + 1)), .i a2, .i a3, .i a4, .i a5, .l a6, .l a7, .i a8, .i a9, .i a10, .i a11, .i a12, .s a13, .i a14, .s a15, .s a16, .l a17, .l a18, .l a19, .l a20, .l a21])) (
 none)) (
 cond ((a17.length : Int) == (a18.length : Int)) (
 some [.i 5, .i 0, .i 0, .i 0, .i 0, .l ([]), .l ([]), .s (⟨#[]⟩ : ByteArray), .i 0, .s (⟨#[]⟩ : ByteArray), .s (⟨#[]⟩ : ByteArray), .l []]) (
 some [.i 0, .i a2, .i a3, .i a4, .i a5, .l a6, .l a7, .s (⟨#[]⟩ : ByteArray), .i 0, .s (⟨#[]⟩ : ByteArray), .s (⟨#[]⟩ : ByteArray), .l a17])) := (zb _ _).trans (by kernel_rfl)
theorem kq2 : SigOk Try.prog (dq2.sig (Lq2 none)) ∧ (dq2.sig (Lq2 none)).ok = true := zf zg (by kernel_rfl) (by kernel_rfl) (by kernel_rfl)
def dq3 : FD := { fn := 143, nb := 0, pre := ⟨[.ag [.i .i64 0, .i .i64 1, .i .i64 2, .i .i64 3, .fz 116 false 4, .fz 127 false 5, .ow 0], .sc (.i .i64 6)], [.rw 129 false 7]⟩, post := ⟨[.ag [.i .i64 0, .i .i64 1, .i .i64 2, .i .i64 3, .i .i64 4, .fz 116 false 5, .fz 127 false 6, .ow 0, .s 7, .i .i64 8, .s 9, .s 10]], [.rw 129 true 11]⟩, sh := true, cuts := [⟨6, [2, 4, 5, 6], ⟨[.sc (.pt 0 0), .sc (.pt 1 0), .sc (.ow 2), .sc (.i .i64 0)], [.bx [.i .i64 1, .i .i64 2, .i .i64 3, .i .i64 4, .fz 116 false 5, .fz 127 false 6, .ow 3], .bx [.i .i64 7, .i .i64 8, .i .i64 9, .i .i64 10, .i .i64 11, .ow 4, .ow 5, .ow 6, .s 12, .i .i64 13, .s 14, .s 15], .rw 129 true 16, .rw 129 false 17, .rw 116 true 18, .rw 127 true 19, .rw 129 true 20]⟩⟩] }
noncomputable def Lq3 : Option Nat → Lv → Option Lv := Lim Try.prog [] dq3 Try.f143
theorem eq3_i (a0 a1 a2 a3 : Int) (a4 a5 : Rw) (a6 : Int) (a7 : Rw) : Lq3 none [.i a0, .i a1, .i a2, .i a3, .l a4, .l a5, .i a6, .l a7] =
 cond (decide (1000000000 < (IntKind.i64.wrap (a1 + a6)))) (
 some [.i 4, .i 0, .i 0, .i 0, .i 0, .l ([]), .l ([]), .s (⟨#[]⟩ : ByteArray), .i 0, .s (⟨#[]⟩ : ByteArray), .s (⟨#[]⟩ : ByteArray), .l []]) (
 Lq3 (some 6) [.i 0, .i a0, .i (IntKind.i64.wrap (a1 + a6)), .i a2, .i a3, .l a4, .l a5, .i 0, .i 0, .i 0, .i 0, .i 0, .s (⟨#[]⟩ : ByteArray), .i 0, .s (⟨#[]⟩ : ByteArray), .s (⟨#[]⟩ : ByteArray), .l ([] : Rw), .l a7, .l [], .l [], .l []]) := (zb _ _).trans (by kernel_rfl)
theorem eq3_6 (a0 a1 a2 a3 a4 : Int) (a5 a6 : Rw) (a7 a8 a9 a10 a11 : Int) (a12 : ByteArray) (a13 : Int) (a14 a15 : ByteArray) (a16 a17 a18 a19 a20 : Rw) : Lq3 (some 6) [.i a0, .i a1, .i a2, .i a3, .i a4, .l a5, .l a6, .i a7, .i a8, .i a9, .i a10, .i a11, .s a12, .i a13, .s a14, .s a15, .l a16, .l a17, .l a18, .l a19, .l a20] =
 cond (decide (a0 < (a17.length : Int))) (
 cond (inb a0 a17.length) (
 cond (decide (a2 < (rd a17 a0.toNat 2).int)) (
 cond (inb a0 a17.length) (
 cond (decide (a16.length + ([[.i ((rd a17 a0.toNat 0).int), .s ((rd a17 a0.toNat 1).str), .i ((rd a17 a0.toNat 2).int)]] : Rw).length ≤ most)) (
 Lq3 (some 6) [.i (IntKind.i64.wrap (a0 + 1)), .i a1, .i a2, .i a3, .i a4, .l a5, .l a6, .i a7, .i a8, .i a9, .i a10, .i a11, .s a12, .i a13, .s a14, .s a15, .l (a16 ++ ([[.i ((rd a17 a0.toNat 0).int), .s ((rd a17 a0.toNat 1).str), .i ((rd a17 a0.toNat 2).int)]] : Rw)), .l a17, .l a18, .l a19, .l a20]) (
 none)) (
 none)) (
 Lq3 (some 6) [.i (IntKind.i64.wrap (a0 + 1)), .i a1, .i a2, .i a3, .i a4, .l a5, .l a6, .i a7, .i a8, .i a9, .i a10, .i a11, .s a12, .i a13, .s a14, .s a15, .l a16, .l a17, .l a18, .l a19, .l a20])) (
 none)) (
 some [.i 0, .i a1, .i a2, .i a3, .i a4, .l a5, .l a6, .s (⟨#[]⟩ : ByteArray), .i 0, .s (⟨#[]⟩ : ByteArray), .s (⟨#[]⟩ : ByteArray), .l a16]) := (zb _ _).trans (by kernel_rfl)
theorem kq3 : SigOk Try.prog (dq3.sig (Lq3 none)) ∧ (dq3.sig (Lq3 none)).ok = true := zf zg (by kernel_rfl) (by kernel_rfl) (by kernel_rfl)
def dq7 : FD := { fn := 81, nb := 0, pre := ⟨[.sc (.fz 9 false 0), .sc (.s 1)], []⟩, post := ⟨[.sc (.b 0)], []⟩, sh := false, cuts := [⟨2, [0, 1, 5], ⟨[.sc (.fz 9 false 0), .sc (.s 1), .sc (.i .i64 2)], []⟩⟩] }
noncomputable def Lq7 : Option Nat → Lv → Option Lv := Lim Try.prog [] dq7 Try.f81
theorem eq7_i (a0 : Rw) (a1 : ByteArray) : Lq7 none [.l a0, .s a1] =
 Lq7 (some 2) [.l a0, .s a1, .i 0] := (zb _ _).trans (by kernel_rfl)
theorem eq7_2 (a0 : Rw) (a1 : ByteArray) (a2 : Int) : Lq7 (some 2) [.l a0, .s a1, .i a2] =
 cond (decide (a2 < (a0.length : Int))) (
 cond (inb a2 a0.length) (
 cond (Eng.seq ((rd a0 a2.toNat 0).str) a1) (
 some [.b true]) (
 Lq7 (some 2) [.l a0, .s a1, .i (IntKind.i64.wrap (a2 + 1))])) (
 none)) (
 some [.b false]) := (zb _ _).trans (by kernel_rfl)
theorem kq7 : SigOk Try.prog (dq7.sig (Lq7 none)) ∧ (dq7.sig (Lq7 none)).ok = true := zf zg (by kernel_rfl) (by kernel_rfl) (by kernel_rfl)
def dqk : FD := { fn := 170, nb := 0, pre := ⟨[.ag [.i .i64 0, .i .i64 1, .i .i64 2, .i .i64 3, .fz 116 false 4, .fz 127 false 5, .fz 129 false 6], .sc (.s 7)], []⟩, post := ⟨[.sc (.b 0)], []⟩, sh := false, cuts := [⟨2, [1, 2, 5], ⟨[.sc (.s 0), .sc (.pt 0 0), .sc (.i .i64 1)], [.bx [.i .i64 2, .i .i64 3, .i .i64 4, .i .i64 5, .fz 116 false 6, .fz 127 false 7, .fz 129 false 8]]⟩⟩, ⟨7, [1, 2, 6], ⟨[.sc (.s 0), .sc (.pt 0 0), .sc (.i .i64 1)], [.bx [.i .i64 2, .i .i64 3, .i .i64 4, .i .i64 5, .fz 116 false 6, .fz 127 false 7, .fz 129 false 8]]⟩⟩] }
noncomputable def Lqk : Option Nat → Lv → Option Lv := Lim Try.prog [] dqk Try.f170
theorem eqk_i (a0 a1 a2 a3 : Int) (a4 a5 a6 : Rw) (a7 : ByteArray) : Lqk none [.i a0, .i a1, .i a2, .i a3, .l a4, .l a5, .l a6, .s a7] =
 Lqk (some 2) [.s a7, .i 0, .i a0, .i a1, .i a2, .i a3, .l a4, .l a5, .l a6] := (zb _ _).trans (by kernel_rfl)
theorem eqk_2 (a0 : ByteArray) (a1 a2 a3 a4 a5 : Int) (a6 a7 a8 : Rw) : Lqk (some 2) [.s a0, .i a1, .i a2, .i a3, .i a4, .i a5, .l a6, .l a7, .l a8] =
 cond (decide (a1 < (a7.length : Int))) (
 cond (inb a1 a7.length) (
 cond (Eng.seq ((rd a7 a1.toNat 1).str) a0) (
 some [.b true]) (
 Lqk (some 2) [.s a0, .i (IntKind.i64.wrap (a1 + 1)), .i a2, .i a3, .i a4, .i a5, .l a6, .l a7, .l a8])) (
 none)) (
 Lqk (some 7) [.s a0, .i 0, .i a2, .i a3, .i a4, .i a5, .l a6, .l a7, .l a8]) := (zb _ _).trans (by kernel_rfl)
theorem eqk_7 (a0 : ByteArray) (a1 a2 a3 a4 a5 : Int) (a6 a7 a8 : Rw) : Lqk (some 7) [.s a0, .i a1, .i a2, .i a3, .i a4, .i a5, .l a6, .l a7, .l a8] =
 cond (decide (a1 < (a8.length : Int))) (
 cond (inb a1 a8.length) (
 cond (Eng.seq ((rd a8 a1.toNat 1).str) a0) (
 some [.b true]) (
 Lqk (some 7) [.s a0, .i (IntKind.i64.wrap (a1 + 1)), .i a2, .i a3, .i a4, .i a5, .l a6, .l a7, .l a8])) (
 none)) (
 some [.b false]) := (zb _ _).trans (by kernel_rfl)
theorem kqk : SigOk Try.prog (dqk.sig (Lqk none)) ∧ (dqk.sig (Lqk none)).ok = true := zf zg (by kernel_rfl) (by kernel_rfl) (by kernel_rfl)
def dqh : FD := { fn := 144, nb := 0, pre := ⟨[.ag [.i .i64 0, .i .i64 1, .i .i64 2, .i .i64 3, .fz 116 false 4, .fz 127 false 5, .ow 0], .sc (.s 6)], [.rw 129 false 7]⟩, post := ⟨[.ag [.i .i64 0, .i .i64 1, .i .i64 2, .i .i64 3, .i .i64 4, .ow 0, .fz 127 false 5, .ow 1, .s 6, .i .i64 7, .s 8, .s 9]], [.rw 116 false 10, .rw 129 false 11]⟩, sh := true, cuts := [⟨7, [1, 2, 4, 5, 6], ⟨[.sc (.s 0), .sc (.pt 0 0), .sc (.pt 1 0), .sc (.ow 2), .sc (.i .i64 1)], [.bx [.i .i64 2, .i .i64 3, .i .i64 4, .i .i64 5, .fz 116 false 6, .fz 127 false 7, .ow 3], .bx [.i .i64 8, .i .i64 9, .i .i64 10, .i .i64 11, .i .i64 12, .ow 4, .ow 5, .ow 6, .s 13, .i .i64 14, .s 15, .s 16], .rw 116 false 17, .rw 129 false 18, .rw 116 true 19, .rw 127 true 20, .rw 129 true 21]⟩⟩] }
noncomputable def Lqh : Option Nat → Lv → Option Lv := Lim Try.prog [dqg.sig (Lqg none), dq7.sig (Lq7 none), dqk.sig (Lqk none)] dqh Try.f144
theorem eqh_i (a0 a1 a2 a3 : Int) (a4 a5 : Rw) (a6 : ByteArray) (a7 : Rw) : Lqh none [.i a0, .i a1, .i a2, .i a3, .l a4, .l a5, .s a6, .l a7] =
 (Lqg none [.i a0, .i a1, .i a2, .i a3, .l a4, .l a5, .l a7, .s a6]).bind fun y1 =>
 cond (decide ((g y1 0).int < 0)) (
 some [.i 2, .i 0, .i 0, .i 0, .i 0, .l ([]), .s (⟨#[]⟩ : ByteArray), .i 0, .s (⟨#[]⟩ : ByteArray), .s (⟨#[]⟩ : ByteArray), .l [], .l []]) (
 (Lqk none [.i a0, .i a1, .i a2, .i a3, .l a4, .l a5, .l a7, .s a6]).bind fun y2 =>
 cond ((g y2 0).bool) (
 some [.i 6, .i 0, .i 0, .i 0, .i 0, .l ([]), .s (⟨#[]⟩ : ByteArray), .i 0, .s (⟨#[]⟩ : ByteArray), .s (⟨#[]⟩ : ByteArray), .l [], .l []]) (
 Lqh (some 7) [.s a6, .i 0, .i a0, .i a1, .i a2, .i a3, .l a4, .l a5, .i 0, .i 0, .i 0, .i 0, .i 0, .s (⟨#[]⟩ : ByteArray), .i 0, .s (⟨#[]⟩ : ByteArray), .s (⟨#[]⟩ : ByteArray), .l ([] : Rw), .l a7, .l [], .l [], .l []])) := (zb _ _).trans (by kernel_rfl)
theorem eqh_7 (a0 : ByteArray) (a1 a2 a3 a4 a5 : Int) (a6 a7 : Rw) (a8 a9 a10 a11 a12 : Int) (a13 : ByteArray) (a14 : Int) (a15 a16 : ByteArray) (a17 a18 a19 a20 a21 : Rw) : Lqh (some 7) [.s a0, .i a1, .i a2, .i a3, .i a4, .i a5, .l a6, .l a7, .i a8, .i a9, .i a10, .i a11, .i a12, .s a13, .i a14, .s a15, .s a16, .l a17, .l a18, .l a19, .l a20, .l a21] =
 cond (decide (a1 < (a6.length : Int))) (
 cond (inb a1 a6.length) (
 (Lq7 none [.l ((rd a6 a1.toNat 3).list), .s a0]).bind fun y1 =>
 cond ((g y1 0).bool) (
 some [.i 6, .i 0, .i 0, .i 0, .i 0, .l ([]), .s (⟨#[]⟩ : ByteArray), .i 0, .s (⟨#[]⟩ : ByteArray), .s (⟨#[]⟩ : ByteArray), .l [], .l []]) (
 cond (inb a1 a6.length) (
 cond (!Eng.seq ((rd a6 a1.toNat 0).str) a0) (
 cond (inb a1 a6.length) (
 cond (decide (a17.length + ([[.s ((rd a6 a1.toNat 0).str), .i ((rd a6 a1.toNat 1).int), .s ((rd a6 a1.toNat 2).str), .l ((rd a6 a1.toNat 3).list)]] : Rw).length ≤ most)) (
 Lqh (some 7) [.s a0, .i (IntKind.i64.wrap (a1 + 1)), .i a2, .i a3, .i a4, .i a5, .l a6, .l a7, .i a8, .i a9, .i a10, .i a11, .i a12, .s a13, .i a14, .s a15, .s a16, .l (a17 ++ ([[.s ((rd a6 a1.toNat 0).str), .i ((rd a6 a1.toNat 1).int), .s ((rd a6 a1.toNat 2).str), .l ((rd a6 a1.toNat 3).list)]] : Rw)), .l a18, .l a19, .l a20, .l a21]) (
 none)) (
 none)) (
 Lqh (some 7) [.s a0, .i (IntKind.i64.wrap (a1 + 1)), .i a2, .i a3, .i a4, .i a5, .l a6, .l a7, .i a8, .i a9, .i a10, .i a11, .i a12, .s a13, .i a14, .s a15, .s a16, .l a17, .l a18, .l a19, .l a20, .l a21])) (
 none))) (
 none)) (
 some [.i 0, .i a2, .i a3, .i a4, .i a5, .l a7, .s (⟨#[]⟩ : ByteArray), .i 0, .s (⟨#[]⟩ : ByteArray), .s (⟨#[]⟩ : ByteArray), .l a17, .l a18]) := (zb _ _).trans (by kernel_rfl)
theorem kqh : SigOk Try.prog (dqh.sig (Lqh none)) ∧ (dqh.sig (Lqh none)).ok = true := zf (zd kqg (by kernel_rfl) (zd kq7 (by kernel_rfl) (zd kqk (by kernel_rfl) zg))) (by kernel_rfl) (by kernel_rfl) (by kernel_rfl)
def dqca : FD := { fn := 88, nb := 0, pre := ⟨[.ag [.i .i64 0, .i .i64 1, .i .i64 2, .i .i64 3, .fz 116 false 4, .fz 127 false 5, .ow 0], .ag [.i .i64 6, .s 7, .s 8, .i .i64 9, .s 10, .fz 9 false 11]], [.rw 129 false 12]⟩, post := ⟨[.ag [.i .i64 0, .i .i64 1, .i .i64 2, .i .i64 3, .i .i64 4, .fz 116 false 5, .fz 127 false 6, .ow 0, .s 7, .i .i64 8, .s 9, .s 10]], [.rw 129 false 11]⟩, sh := true, cuts := [] }
noncomputable def Lqca : Option Nat → Lv → Option Lv := Lim Try.prog [dqg.sig (Lqg none), dqx.sig (Lqx none), dqbp.sig (Lqbp none), dqd.sig (Lqd none), dqe.sig (Lqe none), dq1.sig (Lq1 none), dq2.sig (Lq2 none), dq3.sig (Lq3 none), dqh.sig (Lqh none)] dqca Try.f88
theorem eqca_i (a0 a1 a2 a3 : Int) (a4 a5 : Rw) (a6 : Int) (a7 a8 : ByteArray) (a9 : Int) (a10 : ByteArray) (a11 a12 : Rw) : Lqca none [.i a0, .i a1, .i a2, .i a3, .l a4, .l a5, .i a6, .s a7, .s a8, .i a9, .s a10, .l a11, .l a12] =
 cond (a6 == 1) (
 (Lqd none [.i a0, .i a1, .i a2, .i a3, .l a4, .l a5, .i a6, .s a7, .s a8, .i a9, .s a10, .l a11, .l a12]).bind fun y1 =>
 some [.i ((g y1 0).int), .i ((g y1 1).int), .i ((g y1 2).int), .i ((g y1 3).int), .i ((g y1 4).int), .l ((g y1 5).list), .l ((g y1 6).list), .s ((g y1 7).str), .i ((g y1 8).int), .s ((g y1 9).str), .s ((g y1 10).str), .l ((g y1 11).list)]) (
 cond (a6 == 2) (
 (Lqe none [.i a0, .i a1, .i a2, .i a3, .l a4, .l a5, .i a6, .s a7, .s a8, .i a9, .s a10, .l a11, .l a12]).bind fun y2 =>
 some [.i ((g y2 0).int), .i ((g y2 1).int), .i ((g y2 2).int), .i ((g y2 3).int), .i ((g y2 4).int), .l ((g y2 5).list), .l ((g y2 10).list), .s ((g y2 6).str), .i ((g y2 7).int), .s ((g y2 8).str), .s ((g y2 9).str), .l ((g y2 11).list)]) (
 cond (a6 == 3) (
 (Lq1 none [.i a0, .i a1, .i a2, .i a3, .l a4, .l a5, .s a8, .l a12]).bind fun y3 =>
 some [.i ((g y3 0).int), .i ((g y3 1).int), .i ((g y3 2).int), .i ((g y3 3).int), .i ((g y3 4).int), .l ((g y3 5).list), .l ((g y3 10).list), .s ((g y3 6).str), .i ((g y3 7).int), .s ((g y3 8).str), .s ((g y3 9).str), .l ((g y3 11).list)]) (
 cond (a6 == 4) (
 (Lqg none [.i a0, .i a1, .i a2, .i a3, .l a4, .l a5, .l a12, .s a7]).bind fun y4 =>
 cond (decide ((g y4 0).int < 0)) (
 some [.i 2, .i 0, .i 0, .i 0, .i 0, .l ([]), .l ([]), .s (⟨#[]⟩ : ByteArray), .i 0, .s (⟨#[]⟩ : ByteArray), .s (⟨#[]⟩ : ByteArray), .l []]) (
 (Lqx none [.i a0, .i a1, .i a2, .i a3, .l a4, .l a5, .l a12]).bind fun y5 =>
 (Lqbp none [.i ((g y5 0).int), .i ((g y5 1).int), .i ((g y5 2).int), .i ((g y5 3).int), .l ((g y5 4).list), .l ((g y5 5).list), .s a7, .i a9, .l ((g y5 6).list)]).bind fun y6 =>
 some [.i ((g y6 0).int), .i ((g y6 1).int), .i ((g y6 2).int), .i ((g y6 3).int), .i ((g y6 4).int), .l ((g y6 5).list), .l ((g y6 6).list), .s ((g y6 7).str), .i ((g y6 8).int), .s ((g y6 9).str), .s ((g y6 10).str), .l ((g y6 11).list)])) (
 cond (a6 == 5) (
 (Lq2 none [.i a0, .i a1, .i a2, .i a3, .l a4, .l a5, .i a9, .l a12]).bind fun y7 =>
 some [.i ((g y7 0).int), .i ((g y7 1).int), .i ((g y7 2).int), .i ((g y7 3).int), .i ((g y7 4).int), .l ((g y7 5).list), .l ((g y7 6).list), .s ((g y7 7).str), .i ((g y7 8).int), .s ((g y7 9).str), .s ((g y7 10).str), .l ((g y7 11).list)]) (
 cond (a6 == 6) (
 (Lq3 none [.i a0, .i a1, .i a2, .i a3, .l a4, .l a5, .i a9, .l a12]).bind fun y8 =>
 some [.i ((g y8 0).int), .i ((g y8 1).int), .i ((g y8 2).int), .i ((g y8 3).int), .i ((g y8 4).int), .l ((g y8 5).list), .l ((g y8 6).list), .s ((g y8 7).str), .i ((g y8 8).int), .s ((g y8 9).str), .s ((g y8 10).str), .l ((g y8 11).list)]) (
 (Lqh none [.i a0, .i a1, .i a2, .i a3, .l a4, .l a5, .s a7, .l a12]).bind fun y9 =>
 some [.i ((g y9 0).int), .i ((g y9 1).int), .i ((g y9 2).int), .i ((g y9 3).int), .i ((g y9 4).int), .l ((g y9 10).list), .l ((g y9 5).list), .s ((g y9 6).str), .i ((g y9 7).int), .s ((g y9 8).str), .s ((g y9 9).str), .l ((g y9 11).list)])))))) := (zb _ _).trans (by kernel_rfl)
theorem kqca : SigOk Try.prog (dqca.sig (Lqca none)) ∧ (dqca.sig (Lqca none)).ok = true := zf (zd kqg (by kernel_rfl) (zd kqx (by kernel_rfl) (zd kqbp (by kernel_rfl) (zd kqd (by kernel_rfl) (zd kqe (by kernel_rfl) (zd kq1 (by kernel_rfl) (zd kq2 (by kernel_rfl) (zd kq3 (by kernel_rfl) (zd kqh (by kernel_rfl) zg))))))))) (by kernel_rfl) (by kernel_rfl) (by kernel_rfl)
def dqbn : FD := { fn := 30, nb := 0, pre := ⟨[.sc (.i .i64 0), .sc (.fz 9 false 1)], []⟩, post := ⟨[.ag [.i .i64 0, .i .i64 1, .i .i64 2, .i .i64 3, .i .i64 4, .ow 0, .ow 1, .ow 2, .s 5, .i .i64 6, .s 7, .s 8]], [.rw 116 true 9, .rw 127 true 10, .rw 129 true 11]⟩, sh := false, cuts := [⟨5, [0, 1, 4, 5, 6], ⟨[.sc (.i .i64 0), .sc (.fz 9 false 1), .sc (.pt 0 0), .sc (.pt 1 0), .sc (.i .i64 2)], [.bx [.i .i64 3, .i .i64 4, .i .i64 5, .i .i64 6, .i .i64 7, .ow 2, .ow 3, .ow 4, .s 8, .i .i64 9, .s 10, .s 11], .bx [.i .i64 12, .i .i64 13, .i .i64 14, .i .i64 15, .fz 116 true 16, .fz 127 true 17, .ow 5], .rw 116 true 18, .rw 127 true 19, .rw 129 true 20, .rw 129 true 21]⟩⟩] }
noncomputable def Lqbn : Option Nat → Lv → Option Lv := Lim Try.prog [dqf.sig (Lqf none), dqbm.sig (Lqbm none), dqx.sig (Lqx none), dqca.sig (Lqca none)] dqbn Try.f30
theorem eqbn_i (a0 : Int) (a1 : Rw) : Lqbn none [.i a0, .l a1] =
 (Lqf none [.i a0]).bind fun y1 =>
 cond (!(g y1 0).bool) (
 some [.i 1, .i 0, .i 0, .i 0, .i 0, .s (⟨#[]⟩ : ByteArray), .i 0, .s (⟨#[]⟩ : ByteArray), .s (⟨#[]⟩ : ByteArray), .l [], .l [], .l []]) (
 cond (decide (4000 < (a1.length : Int))) (
 some [.i 1, .i 0, .i 0, .i 0, .i 0, .s (⟨#[]⟩ : ByteArray), .i 0, .s (⟨#[]⟩ : ByteArray), .s (⟨#[]⟩ : ByteArray), .l [], .l [], .l []]) (
 Lqbn (some 5) [.i a0, .l a1, .i 0, .i 0, .i 0, .i 0, .i 0, .i 0, .s (⟨#[]⟩ : ByteArray), .i 0, .s (⟨#[]⟩ : ByteArray), .s (⟨#[]⟩ : ByteArray), .i a0, .i 0, .i 0, .i 0, .l ([]), .l ([]), .l [], .l [], .l [], .l []])) := (zb _ _).trans (by kernel_rfl)
theorem eqbn_5 (a0 : Int) (a1 : Rw) (a2 a3 a4 a5 a6 a7 : Int) (a8 : ByteArray) (a9 : Int) (a10 a11 : ByteArray) (a12 a13 a14 a15 : Int) (a16 a17 a18 a19 a20 a21 : Rw) : Lqbn (some 5) [.i a0, .l a1, .i a2, .i a3, .i a4, .i a5, .i a6, .i a7, .s a8, .i a9, .s a10, .s a11, .i a12, .i a13, .i a14, .i a15, .l a16, .l a17, .l a18, .l a19, .l a20, .l a21] =
 cond (decide (a2 < (a1.length : Int))) (
 cond (inb a2 a1.length) (
 (Lqbm none [.s ((rd a1 a2.toNat 0).str), .i a0]).bind fun y1 =>
 cond (!(g y1 5).bool) (
 some [.i 7, .i 0, .i 0, .i 0, .i 0, .s (⟨#[]⟩ : ByteArray), .i (IntKind.i64.wrap (a2 + 1)), .s (⟨#[]⟩ : ByteArray), .s (⟨#[]⟩ : ByteArray), .l [], .l [], .l []]) (
 (Lqca none [.i a12, .i a13, .i a14, .i a15, .l a16, .l a17, .i ((g y1 0).int), .s ((g y1 1).str), .s ((g y1 2).str), .i ((g y1 3).int), .s ((g y1 4).str), .l ((g y1 6).list), .l a21]).bind fun y2 =>
 cond ((g y2 0).int != 0) (
 some [.i 7, .i 0, .i 0, .i 0, .i 0, .s (⟨#[]⟩ : ByteArray), .i (IntKind.i64.wrap (a2 + 1)), .s (⟨#[]⟩ : ByteArray), .s (⟨#[]⟩ : ByteArray), .l [], .l [], .l []]) (
 Lqbn (some 5) [.i a0, .l a1, .i (IntKind.i64.wrap (a2 + 1)), .i a3, .i a4, .i a5, .i a6, .i a7, .s a8, .i a9, .s a10, .s a11, .i ((g y2 1).int), .i ((g y2 2).int), .i ((g y2 3).int), .i ((g y2 4).int), .l ((g y2 5).list), .l ((g y2 6).list), .l a18, .l a19, .l a20, .l ((g y2 11).list)]))) (
 none)) (
 (Lqx none [.i a12, .i a13, .i a14, .i a15, .l a16, .l a17, .l a21]).bind fun y3 =>
 some [.i 0, .i ((g y3 0).int), .i ((g y3 1).int), .i ((g y3 2).int), .i ((g y3 3).int), .s (⟨#[]⟩ : ByteArray), .i 0, .s (⟨#[]⟩ : ByteArray), .s (⟨#[]⟩ : ByteArray), .l ((g y3 4).list), .l ((g y3 5).list), .l ((g y3 6).list)]) := (zb _ _).trans (by kernel_rfl)
theorem kqbn : SigOk Try.prog (dqbn.sig (Lqbn none)) ∧ (dqbn.sig (Lqbn none)).ok = true := zf (zd kqf (by kernel_rfl) (zd kqbm (by kernel_rfl) (zd kqx (by kernel_rfl) (zd kqca (by kernel_rfl) zg)))) (by kernel_rfl) (by kernel_rfl) (by kernel_rfl)
end KV
end
section
set_option maxRecDepth 100000
namespace KV
open Go Go.Eng Go.Proofs
def dql : FD := { fn := 98, nb := 0, pre := ⟨[.ag [.fz 9 false 0, .fz 9 false 1]], []⟩, post := ⟨[.sc (.b 0)], []⟩, sh := false, cuts := [⟨2, [1, 3], ⟨[.sc (.pt 0 0), .sc (.i .i64 0)], [.bx [.fz 9 false 1, .fz 9 false 2]]⟩⟩, ⟨7, [1, 4], ⟨[.sc (.pt 0 0), .sc (.i .i64 0)], [.bx [.fz 9 false 1, .fz 9 false 2]]⟩⟩] }
noncomputable def Lql : Option Nat → Lv → Option Lv := Lim Try.prog [] dql Try.f98
theorem eql_i (a0 a1 : Rw) : Lql none [.l a0, .l a1] =
 Lql (some 2) [.i 0, .l a0, .l a1] := (zb _ _).trans (by kernel_rfl)
theorem eql_2 (a0 : Int) (a1 a2 : Rw) : Lql (some 2) [.i a0, .l a1, .l a2] =
 cond (decide (a0 < (a1.length : Int))) (
 cond (inb a0 a1.length) (
 cond (decide (5000 < (((rd a1 a0.toNat 0).str).size : Int))) (
 some [.b false]) (
 Lql (some 2) [.i (IntKind.i64.wrap (a0 + 1)), .l a1, .l a2])) (
 none)) (
 Lql (some 7) [.i 0, .l a1, .l a2]) := (zb _ _).trans (by kernel_rfl)
theorem eql_7 (a0 : Int) (a1 a2 : Rw) : Lql (some 7) [.i a0, .l a1, .l a2] =
 cond (decide (a0 < (a2.length : Int))) (
 cond (inb a0 a2.length) (
 cond (decide (5000 < (((rd a2 a0.toNat 0).str).size : Int))) (
 some [.b false]) (
 Lql (some 7) [.i (IntKind.i64.wrap (a0 + 1)), .l a1, .l a2])) (
 none)) (
 some [.b (decide ((IntKind.i64.wrap ((a1.length : Int) + (a2.length : Int))) ≤ 4000))]) := (zb _ _).trans (by kernel_rfl)
theorem kql : SigOk Try.prog (dql.sig (Lql none)) ∧ (dql.sig (Lql none)).ok = true := zf zg (by kernel_rfl) (by kernel_rfl) (by kernel_rfl)
def dqcb : FD := { fn := 99, nb := 0, pre := ⟨[.ag [.fz 9 false 0, .fz 9 false 1]], []⟩, post := ⟨[.sc (.ow 0)], [.rw 9 true 0]⟩, sh := false, cuts := [] }
noncomputable def Lqcb : Option Nat → Lv → Option Lv := Lim Try.prog [] dqcb Try.f99
theorem eqcb_i (a0 a1 : Rw) : Lqcb none [.l a0, .l a1] =
 cond (decide (([] : Rw).length + a0.length ≤ most)) (
 cond (decide ((([] : Rw) ++ a0).length + a1.length ≤ most)) (
 some [.l ((([] : Rw) ++ a0) ++ a1)]) (
 none)) (
 none) := (zb _ _).trans (by kernel_rfl)
theorem kqcb : SigOk Try.prog (dqcb.sig (Lqcb none)) ∧ (dqcb.sig (Lqcb none)).ok = true := zf zg (by kernel_rfl) (by kernel_rfl) (by kernel_rfl)
def dqcc : FD := { fn := 100, nb := 0, pre := ⟨[.ag [.fz 9 false 0, .fz 9 false 1]], []⟩, post := ⟨[.ag [.ow 0, .ow 1]], [.rw 9 true 0, .rw 9 true 1]⟩, sh := false, cuts := [] }
noncomputable def Lqcc : Option Nat → Lv → Option Lv := Lim Try.prog [] dqcc Try.f100
theorem eqcc_i (a0 a1 : Rw) : Lqcc none [.l a0, .l a1] =
 cond (decide (([] : Rw).length + a0.length ≤ most)) (
 cond (decide (([] : Rw).length + a1.length ≤ most)) (
 some [.l (([] : Rw) ++ a0), .l (([] : Rw) ++ a1)]) (
 none)) (
 none) := (zb _ _).trans (by kernel_rfl)
theorem kqcc : SigOk Try.prog (dqcc.sig (Lqcc none)) ∧ (dqcc.sig (Lqcc none)).ok = true := zf zg (by kernel_rfl) (by kernel_rfl) (by kernel_rfl)
def dqb3 : FD := { fn := 42, nb := 0, pre := ⟨[.sc (.i .i64 0), .sc (.i .i64 1), .ag [.fz 9 false 2, .fz 9 false 3]], []⟩, post := ⟨[.tu [(true, [.i .i64 0, .i .i64 1, .ow 0, .ow 1, .i .i64 2, .i .i64 3, .i .i64 4, .i .i64 5, .ow 2, .ow 3, .ow 4, .i .i64 6, .fz 9 true 7, .fz 9 true 8, .i .i64 9, .i .i64 10, .i .i64 11]), (false, [.i .i64 12])]], [.rw 9 true 13, .rw 9 true 14, .rw 116 true 15, .rw 127 true 16, .rw 129 true 17]⟩, sh := false, cuts := [] }
noncomputable def Lqb3 : Option Nat → Lv → Option Lv := Lim Try.prog [dqf.sig (Lqf none), dqb8.sig (Lqb8 none), dqbn.sig (Lqbn none), dql.sig (Lql none), dqcb.sig (Lqcb none), dqcc.sig (Lqcc none)] dqb3 Try.f42
theorem eqb3_i (a0 a1 : Int) (a2 a3 : Rw) : Lqb3 none [.i a0, .i a1, .l a2, .l a3] =
 (Lqf none [.i a0]).bind fun y1 =>
 cond (!(g y1 0).bool) (
 some [.i 0, .i 0, .i 0, .i 0, .i 0, .i 0, .i 0, .l ([]), .l ([]), .i 0, .i 0, .i 0, .i 1, .l [], .l [], .l [], .l [], .l []]) (
 (Lqb8 none [.i a1, .i 0, .i 1000000]).bind fun y2 =>
 cond (!(g y2 0).bool) (
 some [.i 0, .i 0, .i 0, .i 0, .i 0, .i 0, .i 0, .l ([]), .l ([]), .i 0, .i 0, .i 0, .i 1, .l [], .l [], .l [], .l [], .l []]) (
 (Lql none [.l a2, .l a3]).bind fun y3 =>
 cond (!(g y3 0).bool) (
 some [.i 0, .i 0, .i 0, .i 0, .i 0, .i 0, .i 0, .l ([]), .l ([]), .i 0, .i 0, .i 0, .i 1, .l [], .l [], .l [], .l [], .l []]) (
 (Lqcb none [.l a2, .l a3]).bind fun y4 =>
 (Lqbn none [.i a0, .l ((g y4 0).list)]).bind fun y5 =>
 cond ((g y5 0).int != 0) (
 some [.i 0, .i 0, .i 0, .i 0, .i 0, .i 0, .i 0, .l ([]), .l ([]), .i 0, .i 0, .i 0, .i 2, .l [], .l [], .l [], .l [], .l []]) (
 (Lqcc none [.l a2, .l a3]).bind fun y6 =>
 some [.i a0, .i a1, .i ((g y5 1).int), .i ((g y5 2).int), .i ((g y5 3).int), .i ((g y5 4).int), .i 0, .l ([]), .l ([]), .i 0, .i 0, .i 0, .i 0, .l ((g y6 0).list), .l ((g y6 1).list), .l ((g y5 9).list), .l ((g y5 10).list), .l ((g y5 11).list)])))) := (zb _ _).trans (by kernel_rfl)
theorem kqb3 : SigOk Try.prog (dqb3.sig (Lqb3 none)) ∧ (dqb3.sig (Lqb3 none)).ok = true := zf (zd kqf (by kernel_rfl) (zd kqb8 (by kernel_rfl) (zd kqbn (by kernel_rfl) (zd kql (by kernel_rfl) (zd kqcb (by kernel_rfl) (zd kqcc (by kernel_rfl) zg)))))) (by kernel_rfl) (by kernel_rfl) (by kernel_rfl)
def dq4 : FD := { fn := 31, nb := 0, pre := ⟨[.sc (.fz 9 false 0)], []⟩, post := ⟨[.sc (.ow 0)], [.rw 9 true 0]⟩, sh := false, cuts := [⟨3, [0, 3, 4], ⟨[.sc (.fz 9 false 0), .sc (.ow 0), .sc (.i .i64 1)], [.rw 9 true 2]⟩⟩] }
noncomputable def Lq4 : Option Nat → Lv → Option Lv := Lim Try.prog [] dq4 Try.f31
theorem eq4_i (a0 : Rw) : Lq4 none [.l a0] =
 cond (decide (0 ≤ (a0.length : Int))) (
 cond ((a0.length : Int) == (a0.length : Int)) (
 cond (decide ((a0.length : Int) ≤ (most : Int))) (
 Lq4 (some 3) [.l a0, .i 0, .l (List.replicate (a0.length : Int).toNat ([.s (⟨#[]⟩ : ByteArray)] : List C))]) (
 none)) (
 none)) (
 none) := (zb _ _).trans (by kernel_rfl)
theorem eq4_3 (a0 : Rw) (a1 : Int) (a2 : Rw) : Lq4 (some 3) [.l a0, .i a1, .l a2] =
 cond (decide (a1 < (a0.length : Int))) (
 cond (inb a1 a0.length) (
 cond (inb a1 a2.length) (
 Lq4 (some 3) [.l a0, .i (IntKind.i64.wrap (a1 + 1)), .l (wrs a2 a1.toNat 0 ([.s ((rd a0 a1.toNat 0).str)] : List C))]) (
 none)) (
 none)) (
 some [.l a2]) := (zb _ _).trans (by kernel_rfl)
theorem kq4 : SigOk Try.prog (dq4.sig (Lq4 none)) ∧ (dq4.sig (Lq4 none)).ok = true := zf zg (by kernel_rfl) (by kernel_rfl) (by kernel_rfl)
def dqbw : FD := { fn := 43, nb := 0, pre := ⟨[.ag [.fz 9 false 0, .fz 9 false 1]], []⟩, post := ⟨[.ag [.ow 0, .ow 1]], [.rw 9 true 0, .rw 9 true 1]⟩, sh := false, cuts := [] }
noncomputable def Lqbw : Option Nat → Lv → Option Lv := Lim Try.prog [dq4.sig (Lq4 none)] dqbw Try.f43
theorem eqbw_i (a0 a1 : Rw) : Lqbw none [.l a0, .l a1] =
 (Lq4 none [.l a0]).bind fun y1 =>
 (Lq4 none [.l a1]).bind fun y2 =>
 some [.l ((g y1 0).list), .l ((g y2 0).list)] := (zb _ _).trans (by kernel_rfl)
theorem kqbw : SigOk Try.prog (dqbw.sig (Lqbw none)) ∧ (dqbw.sig (Lqbw none)).ok = true := zf (zd kq4 (by kernel_rfl) zg) (by kernel_rfl) (by kernel_rfl) (by kernel_rfl)
def dqp : FD := { fn := 90, nb := 0, pre := ⟨[.sc (.i .i64 0)], []⟩, post := ⟨[.sc (.b 0)], []⟩, sh := false, cuts := [] }
noncomputable def Lqp : Option Nat → Lv → Option Lv := Lim Try.prog [] dqp Try.f90
theorem eqp_i (a0 : Int) : Lqp none [.i a0] =
 cond (decide (1 ≤ a0)) (
 some [.b (decide (a0 ≤ 8))]) (
 some [.b false]) := (zb _ _).trans (by kernel_rfl)
theorem kqp : SigOk Try.prog (dqp.sig (Lqp none)) ∧ (dqp.sig (Lqp none)).ok = true := zf zg (by kernel_rfl) (by kernel_rfl) (by kernel_rfl)
def dqcr : FD := { fn := 151, nb := 0, pre := ⟨[.sc (.i .i64 0), .sc (.pt 0 0), .sc (.pt 2 0)], [.rb [.pt 1 0], .rb [.i .i64 1, .i .i64 2, .i .i64 3, .i .i64 4, .fz 116 false 5, .fz 127 false 6, .fz 129 false 7], .rb [.s 8]]⟩, post := ⟨[.sc (.b 0)], []⟩, sh := false, cuts := [] }
noncomputable def Lqcr : Option Nat → Lv → Option Lv := Lim Try.prog [] dqcr Try.f151
theorem eqcr_i (a0 a1 a2 a3 a4 : Int) (a5 a6 a7 : Rw) (a8 : ByteArray) : Lqcr none [.i a0, .i a1, .i a2, .i a3, .i a4, .l a5, .l a6, .l a7, .s a8] =
 cond (inb a0 a5.length) (
 some [.b (!slt ((rd a5 a0.toNat 0).str) a8)]) (
 none) := (zb _ _).trans (by kernel_rfl)
theorem kqcr : SigOk Try.prog (dqcr.sig (Lqcr none)) ∧ (dqcr.sig (Lqcr none)).ok = true := zf zg (by kernel_rfl) (by kernel_rfl) (by kernel_rfl)
def dq8 : FD := { fn := 150, nb := 0, pre := ⟨[.sc (.i .i64 0), .sc (.fn 151 [(0, 0), (2, 0)])], [.rb [.pt 1 0], .rb [.i .i64 1, .i .i64 2, .i .i64 3, .i .i64 4, .fz 116 false 5, .fz 127 false 6, .fz 129 false 7], .rb [.s 8]]⟩, post := ⟨[.sc (.i .i64 0)], []⟩, sh := false, cuts := [⟨2, [1, 5, 6], ⟨[.sc (.fn 151 [(0, 0), (1, 0)]), .sc (.i .i64 0), .sc (.i .i64 1)], [.rb [.pt 2 0], .rb [.s 2], .rb [.i .i64 3, .i .i64 4, .i .i64 5, .i .i64 6, .fz 116 false 7, .fz 127 false 8, .fz 129 false 9]]⟩⟩] }
noncomputable def Lq8 : Option Nat → Lv → Option Lv := Lim Try.prog [dqcr.sig (Lqcr none)] dq8 Try.f150
theorem eq8_i (a0 a1 a2 a3 a4 : Int) (a5 a6 a7 : Rw) (a8 : ByteArray) : Lq8 none [.i a0, .i a1, .i a2, .i a3, .i a4, .l a5, .l a6, .l a7, .s a8] =
 Lq8 (some 2) [.i 0, .i a0, .s a8, .i a1, .i a2, .i a3, .i a4, .l a5, .l a6, .l a7] := (zb _ _).trans (by kernel_rfl)
theorem eq8_2 (a0 a1 : Int) (a2 : ByteArray) (a3 a4 a5 a6 : Int) (a7 a8 a9 : Rw) : Lq8 (some 2) [.i a0, .i a1, .s a2, .i a3, .i a4, .i a5, .i a6, .l a7, .l a8, .l a9] =
 cond (decide (a0 < a1)) (
 (Lqcr none [.i (IntKind.i64.wrap ((IntKind.u64.wrap (IntKind.i64.wrap (a0 + a1))).fdiv (2 ^ 1))), .i a3, .i a4, .i a5, .i a6, .l a7, .l a8, .l a9, .s a2]).bind fun y1 =>
 cond (!(g y1 0).bool) (
 Lq8 (some 2) [.i (IntKind.i64.wrap ((IntKind.i64.wrap ((IntKind.u64.wrap (IntKind.i64.wrap (a0 + a1))).fdiv (2 ^ 1))) + 1)), .i a1, .s a2, .i a3, .i a4, .i a5, .i a6, .l a7, .l a8, .l a9]) (
 Lq8 (some 2) [.i a0, .i (IntKind.i64.wrap ((IntKind.u64.wrap (IntKind.i64.wrap (a0 + a1))).fdiv (2 ^ 1))), .s a2, .i a3, .i a4, .i a5, .i a6, .l a7, .l a8, .l a9])) (
 some [.i a0]) := (zb _ _).trans (by kernel_rfl)
theorem kq8 : SigOk Try.prog (dq8.sig (Lq8 none)) ∧ (dq8.sig (Lq8 none)).ok = true := zf (zd kqcr (by kernel_rfl) zg) (by kernel_rfl) (by kernel_rfl) (by kernel_rfl)
def dqbu : FD := { fn := 94, nb := 0, pre := ⟨[.sc (.pt 0 0), .sc (.s 0)], [.rb [.i .i64 1, .i .i64 2, .i .i64 3, .i .i64 4, .fz 116 false 5, .fz 127 false 6, .fz 129 false 7]]⟩, post := ⟨[.tu [(false, [.i .i64 0]), (false, [.b 1])]], []⟩, sh := false, cuts := [] }
noncomputable def Lqbu : Option Nat → Lv → Option Lv := Lim Try.prog [dq8.sig (Lq8 none)] dqbu Try.f94
theorem eqbu_i (a0 : ByteArray) (a1 a2 a3 a4 : Int) (a5 a6 a7 : Rw) : Lqbu none [.s a0, .i a1, .i a2, .i a3, .i a4, .l a5, .l a6, .l a7] =
 (Lq8 none [.i (a5.length : Int), .i a1, .i a2, .i a3, .i a4, .l a5, .l a6, .l a7, .s a0]).bind fun y1 =>
 cond (decide ((g y1 0).int < (a5.length : Int))) (
 cond (inb ((g y1 0).int) a5.length) (
 some [.i ((g y1 0).int), .b (Eng.seq ((rd a5 (((g y1 0).int).toNat) 0).str) a0)]) (
 none)) (
 some [.i ((g y1 0).int), .b false]) := (zb _ _).trans (by kernel_rfl)
theorem kqbu : SigOk Try.prog (dqbu.sig (Lqbu none)) ∧ (dqbu.sig (Lqbu none)).ok = true := zf (zd kq8 (by kernel_rfl) zg) (by kernel_rfl) (by kernel_rfl) (by kernel_rfl)
def dqu : FD := { fn := 126, nb := 0, pre := ⟨[.sc (.s 0), .sc (.i .i64 1)], []⟩, post := ⟨[.sc (.s 0)], []⟩, sh := false, cuts := [⟨5, [0, 1, 5, 13, 14], ⟨[.sc (.s 0), .sc (.i .i64 1), .sc (.i .u64 2), .sc (.i .i64 3), .sc (.i .i64 4)], []⟩⟩, ⟨12, [5, 7, 8], ⟨[.sc (.i .u64 0), .sc (.ow 0), .sc (.i .i64 1)], [.rw 5 true 2]⟩⟩] }
noncomputable def Lqu : Option Nat → Lv → Option Lv := Lim Try.prog [dqp.sig (Lqp none)] dqu Try.f126
theorem equ_i (a0 : ByteArray) (a1 : Int) : Lqu none [.s a0, .i a1] =
 (Lqp none [.i a1]).bind fun y1 =>
 cond (!(g y1 0).bool) (
 some [.s (⟨#[]⟩ : ByteArray)]) (
 Lqu (some 5) [.s a0, .i a1, .i 14695981039346656037, .i (a0.size : Int), .i 0]) := (zb _ _).trans (by kernel_rfl)
theorem equ_5 (a0 : ByteArray) (a1 a2 a3 a4 : Int) : Lqu (some 5) [.s a0, .i a1, .i a2, .i a3, .i a4] =
 cond (decide (a4 < a3)) (
 cond (inb a4 a0.size) (
 Lqu (some 5) [.s a0, .i a1, .i (IntKind.u64.wrap ((IntKind.u64.wrap (BitVec.ofInt (IntKind.u64).bits a2 ^^^ BitVec.ofInt (IntKind.u64).bits (IntKind.u64.wrap (byteAt a0 a4.toNat))).toNat) * 1099511628211)), .i a3, .i (IntKind.i64.wrap (a4 + 1))]) (
 none)) (
 cond (decide (0 ≤ a1)) (
 cond (a1 == a1) (
 cond (decide (a1 ≤ (most : Int))) (
 Lqu (some 12) [.i a2, .i (IntKind.i64.wrap (a1 - 1)), .l (List.replicate a1.toNat ([.i 0] : List C))]) (
 none)) (
 none)) (
 none)) := (zb _ _).trans (by kernel_rfl)
theorem equ_12 (a0 a1 : Int) (a2 : Rw) : Lqu (some 12) [.i a0, .i a1, .l a2] =
 cond (decide (0 ≤ a1)) (
 cond (inb a1 a2.length) (
 Lqu (some 12) [.i (a0.fdiv (2 ^ 8)), .i (IntKind.i64.wrap (a1 - 1)), .l (wrs a2 a1.toNat 0 ([.i (IntKind.u8.wrap a0)] : List C))]) (
 none)) (
 some [.s (bytesOf a2)]) := (zb _ _).trans (by kernel_rfl)
theorem kqu : SigOk Try.prog (dqu.sig (Lqu none)) ∧ (dqu.sig (Lqu none)).ok = true := zf (zd kqp (by kernel_rfl) zg) (by kernel_rfl) (by kernel_rfl) (by kernel_rfl)
def dqz : FD := { fn := 127, nb := 0, pre := ⟨[.ag [.s 0, .fz 9 false 1]], []⟩, post := ⟨[.sc (.s 0)], []⟩, sh := false, cuts := [⟨3, [1, 3, 13, 14, 15], ⟨[.sc (.pt 0 0), .sc (.s 0), .sc (.fz 9 false 1), .sc (.i .i64 2), .sc (.i .i64 3)], [.bx [.s 4, .fz 9 false 5]]⟩⟩] }
noncomputable def Lqz : Option Nat → Lv → Option Lv := Lim Try.prog [] dqz Try.f127
theorem eqz_i (a0 : ByteArray) (a1 : Rw) : Lqz none [.s a0, .l a1] =
 Lqz (some 3) [.s (bytesOf ([[.i (IntKind.u8.wrap (a1.length : Int))]] : Rw)), .l a1, .i (a1.length : Int), .i 0, .s a0, .l a1] := (zb _ _).trans (by kernel_rfl)
theorem eqz_3 (a0 : ByteArray) (a1 : Rw) (a2 a3 : Int) (a4 : ByteArray) (a5 : Rw) : Lqz (some 3) [.s a0, .l a1, .i a2, .i a3, .s a4, .l a5] =
 cond (decide (a3 < a2)) (
 cond (inb a3 a1.length) (
 cond (decide (a0.size + ((rd a1 a3.toNat 0).str).size ≤ most)) (
 Lqz (some 3) [.s (a0 ++ ((rd a1 a3.toNat 0).str)), .l a1, .i a2, .i (IntKind.i64.wrap (a3 + 1)), .s a4, .l a5]) (
 none)) (
 none)) (
 cond (decide (a0.size + a4.size ≤ most)) (
 some [.s (a0 ++ a4)]) (
 none)) := (zb _ _).trans (by kernel_rfl)
theorem kqz : SigOk Try.prog (dqz.sig (Lqz none)) ∧ (dqz.sig (Lqz none)).ok = true := zf zg (by kernel_rfl) (by kernel_rfl) (by kernel_rfl)
def dqm : FD := { fn := 157, nb := 0, pre := ⟨[.sc (.pt 0 0), .sc (.s 0)], [.rb [.i .i64 1, .i .i64 2, .i .i64 3, .i .i64 4, .fz 116 false 5, .fz 127 false 6, .fz 129 false 7]]⟩, post := ⟨[.sc (.b 0)], []⟩, sh := false, cuts := [⟨2, [0, 1, 12, 13, 14], ⟨[.sc (.pt 0 0), .sc (.s 0), .sc (.fz 127 false 1), .sc (.i .i64 2), .sc (.i .i64 3)], [.rb [.i .i64 4, .i .i64 5, .i .i64 6, .i .i64 7, .fz 116 false 8, .fz 127 false 9, .fz 129 false 10]]⟩⟩, ⟨8, [1, 26, 27, 28], ⟨[.sc (.s 0), .sc (.fz 129 false 1), .sc (.i .i64 2), .sc (.i .i64 3)], []⟩⟩] }
noncomputable def Lqm : Option Nat → Lv → Option Lv := Lim Try.prog [] dqm Try.f157
theorem eqm_i (a0 : ByteArray) (a1 a2 a3 a4 : Int) (a5 a6 a7 : Rw) : Lqm none [.s a0, .i a1, .i a2, .i a3, .i a4, .l a5, .l a6, .l a7] =
 Lqm (some 2) [.s a0, .l a6, .i (a6.length : Int), .i 0, .i a1, .i a2, .i a3, .i a4, .l a5, .l a6, .l a7] := (zb _ _).trans (by kernel_rfl)
theorem eqm_2 (a0 : ByteArray) (a1 : Rw) (a2 a3 a4 a5 a6 a7 : Int) (a8 a9 a10 : Rw) : Lqm (some 2) [.s a0, .l a1, .i a2, .i a3, .i a4, .i a5, .i a6, .i a7, .l a8, .l a9, .l a10] =
 cond (decide (a3 < a2)) (
 cond (inb a3 a1.length) (
 cond (Eng.seq ((rd a1 a3.toNat 1).str) a0) (
 some [.b true]) (
 Lqm (some 2) [.s a0, .l a1, .i a2, .i (IntKind.i64.wrap (a3 + 1)), .i a4, .i a5, .i a6, .i a7, .l a8, .l a9, .l a10])) (
 none)) (
 Lqm (some 8) [.s a0, .l a10, .i (a10.length : Int), .i 0]) := (zb _ _).trans (by kernel_rfl)
theorem eqm_8 (a0 : ByteArray) (a1 : Rw) (a2 a3 : Int) : Lqm (some 8) [.s a0, .l a1, .i a2, .i a3] =
 cond (decide (a3 < a2)) (
 cond (inb a3 a1.length) (
 cond (Eng.seq ((rd a1 a3.toNat 1).str) a0) (
 some [.b true]) (
 Lqm (some 8) [.s a0, .l a1, .i a2, .i (IntKind.i64.wrap (a3 + 1))])) (
 none)) (
 some [.b false]) := (zb _ _).trans (by kernel_rfl)
theorem kqm : SigOk Try.prog (dqm.sig (Lqm none)) ∧ (dqm.sig (Lqm none)).ok = true := zf zg (by kernel_rfl) (by kernel_rfl) (by kernel_rfl)
def dqn : FD := { fn := 158, nb := 0, pre := ⟨[.sc (.pt 0 0), .sc (.s 0)], [.rb [.i .i64 1, .i .i64 2, .i .i64 3, .i .i64 4, .fz 116 false 5, .fz 127 false 6, .fz 129 false 7]]⟩, post := ⟨[.sc (.b 0)], []⟩, sh := false, cuts := [⟨2, [1, 12, 13, 14], ⟨[.sc (.s 0), .sc (.fz 116 false 1), .sc (.i .i64 2), .sc (.i .i64 3)], []⟩⟩, ⟨5, [1, 12, 13, 14, 20, 21, 22], ⟨[.sc (.s 0), .sc (.fz 116 false 1), .sc (.i .i64 2), .sc (.i .i64 3), .sc (.fz 9 false 4), .sc (.i .i64 5), .sc (.i .i64 6)], []⟩⟩] }
noncomputable def Lqn : Option Nat → Lv → Option Lv := Lim Try.prog [] dqn Try.f158
theorem eqn_i (a0 : ByteArray) (a1 a2 a3 a4 : Int) (a5 a6 a7 : Rw) : Lqn none [.s a0, .i a1, .i a2, .i a3, .i a4, .l a5, .l a6, .l a7] =
 Lqn (some 2) [.s a0, .l a5, .i (a5.length : Int), .i 0] := (zb _ _).trans (by kernel_rfl)
theorem eqn_2 (a0 : ByteArray) (a1 : Rw) (a2 a3 : Int) : Lqn (some 2) [.s a0, .l a1, .i a2, .i a3] =
 cond (decide (a3 < a2)) (
 cond (inb a3 a1.length) (
 Lqn (some 5) [.s a0, .l a1, .i a2, .i a3, .l ((rd a1 a3.toNat 3).list), .i (((rd a1 a3.toNat 3).list).length : Int), .i 0]) (
 none)) (
 some [.b false]) := (zb _ _).trans (by kernel_rfl)
theorem eqn_5 (a0 : ByteArray) (a1 : Rw) (a2 a3 : Int) (a4 : Rw) (a5 a6 : Int) : Lqn (some 5) [.s a0, .l a1, .i a2, .i a3, .l a4, .i a5, .i a6] =
 cond (decide (a6 < a5)) (
 cond (inb a6 a4.length) (
 cond (Eng.seq ((rd a4 a6.toNat 0).str) a0) (
 some [.b true]) (
 Lqn (some 5) [.s a0, .l a1, .i a2, .i a3, .l a4, .i a5, .i (IntKind.i64.wrap (a6 + 1))])) (
 none)) (
 Lqn (some 2) [.s a0, .l a1, .i a2, .i (IntKind.i64.wrap (a3 + 1))]) := (zb _ _).trans (by kernel_rfl)
theorem kqn : SigOk Try.prog (dqn.sig (Lqn none)) ∧ (dqn.sig (Lqn none)).ok = true := zf zg (by kernel_rfl) (by kernel_rfl) (by kernel_rfl)
end KV
end
section
set_option maxRecDepth 100000
namespace KV
open Go Go.Eng Go.Proofs
def dq0 : FD := { fn := 159, nb := 0, pre := ⟨[.sc (.i .i64 0)], []⟩, post := ⟨[.ag [.i .i64 0, .i .i64 1, .i .i64 2, .i .i64 3, .i .i64 4, .ow 0, .ow 1, .ow 2, .s 5, .i .i64 6, .s 7, .s 8]], [.dw 116 (some (3, 9)) 9, .rw 127 true 10, .rw 129 true 11]⟩, sh := false, cuts := [] }
noncomputable def Lq0 : Option Nat → Lv → Option Lv := Lim Try.prog [] dq0 Try.f159
theorem eq0_i (a0 : Int) : Lq0 none [.i a0] =
 some [.i a0, .i 0, .i 0, .i 0, .i 0, .s (⟨#[]⟩ : ByteArray), .i 0, .s (⟨#[]⟩ : ByteArray), .s (⟨#[]⟩ : ByteArray), .l [], .l [], .l []] := (zb _ _).trans (by kernel_rfl)
theorem kq0 : SigOk Try.prog (dq0.sig (Lq0 none)) ∧ (dq0.sig (Lq0 none)).ok = true := zf zg (by kernel_rfl) (by kernel_rfl) (by kernel_rfl)
def dqb4 : FD := { fn := 160, nb := 3, pre := ⟨[.sc (.s 0), .sc (.pt 0 0), .sc (.pt 2 0)], [.bx [.pt 1 0], .bx [.i .i64 1, .i .i64 2, .i .i64 3, .i .i64 4, .ow 3, .ow 4, .ow 5], .bx [.i .i64 5, .s 6, .s 7, .i .i64 8, .s 9, .fz 9 false 10], .dw 116 (some (3, 9)) 11, .rw 127 false 12, .rw 129 false 13]⟩, post := ⟨[.ag [.i .i64 0, .i .i64 1, .i .i64 2, .i .i64 3, .i .i64 4, .ow 6, .ow 7, .ow 8, .s 5, .i .i64 6, .s 7, .s 8]], [.bx [.pt 1 0], .bx [.i .i64 9, .i .i64 10, .i .i64 11, .i .i64 12, .ow 3, .ow 4, .ow 5], .bx [.i .i64 13, .s 14, .s 15, .i .i64 16, .s 17, .fz 9 false 18], .dw 116 (some (3, 9)) 19, .rw 127 false 20, .rw 129 false 21, .dw 116 (some (3, 9)) 22, .rw 127 true 23, .rw 129 true 24]⟩, sh := true, cuts := [] }
noncomputable def Lqb4 : Option Nat → Lv → Option Lv := Lim Try.prog [] dqb4 Try.f160
theorem eqb4_i (a0 : ByteArray) (a1 a2 a3 a4 a5 : Int) (a6 a7 : ByteArray) (a8 : Int) (a9 : ByteArray) (a10 a11 a12 a13 : Rw) : Lqb4 none [.s a0, .i a1, .i a2, .i a3, .i a4, .i a5, .s a6, .s a7, .i a8, .s a9, .l a10, .l a11, .l a12, .l a13] =
 cond (decide (a13.length + ([[.i (IntKind.i64.wrap (a3 + 1)), .s a0, .i (IntKind.i64.wrap (a2 + a8))]] : Rw).length ≤ most)) (
 some [.i 0, .i 0, .i 0, .i 0, .i 0, .s (⟨#[]⟩ : ByteArray), .i (IntKind.i64.wrap (a3 + 1)), .s (⟨#[]⟩ : ByteArray), .s (⟨#[]⟩ : ByteArray), .i a1, .i a2, .i (IntKind.i64.wrap (a3 + 1)), .i a4, .i a5, .s a6, .s a7, .i a8, .s a9, .l a10, .l a11, .l a12, .l (a13 ++ ([[.i (IntKind.i64.wrap (a3 + 1)), .s a0, .i (IntKind.i64.wrap (a2 + a8))]] : Rw)), .l [], .l [], .l []]) (
 none) := (zb _ _).trans (by kernel_rfl)
theorem kqb4 : SigOk Try.prog (dqb4.sig (Lqb4 none)) ∧ (dqb4.sig (Lqb4 none)).ok = true := zf zg (by kernel_rfl) (by kernel_rfl) (by kernel_rfl)
def dqcs : FD := { fn := 175, nb := 0, pre := ⟨[.sc (.i .i64 0), .sc (.pt 0 0), .sc (.pt 2 0)], [.rb [.pt 1 0], .rb [.i .i64 1, .i .i64 2, .i .i64 3, .i .i64 4, .fz 116 false 5, .fz 127 false 6, .fz 129 false 7], .rb [.s 8]]⟩, post := ⟨[.sc (.b 0)], []⟩, sh := false, cuts := [] }
noncomputable def Lqcs : Option Nat → Lv → Option Lv := Lim Try.prog [] dqcs Try.f175
theorem eqcs_i (a0 a1 a2 a3 a4 : Int) (a5 a6 a7 : Rw) (a8 : ByteArray) : Lqcs none [.i a0, .i a1, .i a2, .i a3, .i a4, .l a5, .l a6, .l a7, .s a8] =
 cond (inb a0 a6.length) (
 some [.b (!slt ((rd a6 a0.toNat 0).str) a8)]) (
 none) := (zb _ _).trans (by kernel_rfl)
theorem kqcs : SigOk Try.prog (dqcs.sig (Lqcs none)) ∧ (dqcs.sig (Lqcs none)).ok = true := zf zg (by kernel_rfl) (by kernel_rfl) (by kernel_rfl)
def dq9 : FD := { fn := 150, nb := 0, pre := ⟨[.sc (.i .i64 0), .sc (.fn 175 [(0, 0), (2, 0)])], [.rb [.pt 1 0], .rb [.i .i64 1, .i .i64 2, .i .i64 3, .i .i64 4, .fz 116 false 5, .fz 127 false 6, .fz 129 false 7], .rb [.s 8]]⟩, post := ⟨[.sc (.i .i64 0)], []⟩, sh := false, cuts := [⟨2, [1, 5, 6], ⟨[.sc (.fn 175 [(0, 0), (1, 0)]), .sc (.i .i64 0), .sc (.i .i64 1)], [.rb [.pt 2 0], .rb [.s 2], .rb [.i .i64 3, .i .i64 4, .i .i64 5, .i .i64 6, .fz 116 false 7, .fz 127 false 8, .fz 129 false 9]]⟩⟩] }
noncomputable def Lq9 : Option Nat → Lv → Option Lv := Lim Try.prog [dqcs.sig (Lqcs none)] dq9 Try.f150
theorem eq9_i (a0 a1 a2 a3 a4 : Int) (a5 a6 a7 : Rw) (a8 : ByteArray) : Lq9 none [.i a0, .i a1, .i a2, .i a3, .i a4, .l a5, .l a6, .l a7, .s a8] =
 Lq9 (some 2) [.i 0, .i a0, .s a8, .i a1, .i a2, .i a3, .i a4, .l a5, .l a6, .l a7] := (zb _ _).trans (by kernel_rfl)
theorem eq9_2 (a0 a1 : Int) (a2 : ByteArray) (a3 a4 a5 a6 : Int) (a7 a8 a9 : Rw) : Lq9 (some 2) [.i a0, .i a1, .s a2, .i a3, .i a4, .i a5, .i a6, .l a7, .l a8, .l a9] =
 cond (decide (a0 < a1)) (
 (Lqcs none [.i (IntKind.i64.wrap ((IntKind.u64.wrap (IntKind.i64.wrap (a0 + a1))).fdiv (2 ^ 1))), .i a3, .i a4, .i a5, .i a6, .l a7, .l a8, .l a9, .s a2]).bind fun y1 =>
 cond (!(g y1 0).bool) (
 Lq9 (some 2) [.i (IntKind.i64.wrap ((IntKind.i64.wrap ((IntKind.u64.wrap (IntKind.i64.wrap (a0 + a1))).fdiv (2 ^ 1))) + 1)), .i a1, .s a2, .i a3, .i a4, .i a5, .i a6, .l a7, .l a8, .l a9]) (
 Lq9 (some 2) [.i a0, .i (IntKind.i64.wrap ((IntKind.u64.wrap (IntKind.i64.wrap (a0 + a1))).fdiv (2 ^ 1))), .s a2, .i a3, .i a4, .i a5, .i a6, .l a7, .l a8, .l a9])) (
 some [.i a0]) := (zb _ _).trans (by kernel_rfl)
theorem kq9 : SigOk Try.prog (dq9.sig (Lq9 none)) ∧ (dq9.sig (Lq9 none)).ok = true := zf (zd kqcs (by kernel_rfl) zg) (by kernel_rfl) (by kernel_rfl) (by kernel_rfl)
def dqb5 : FD := { fn := 161, nb := 0, pre := ⟨[.sc (.pt 0 0), .sc (.s 0)], [.rb [.i .i64 1, .i .i64 2, .i .i64 3, .i .i64 4, .fz 116 false 5, .fz 127 false 6, .fz 129 false 7]]⟩, post := ⟨[.tu [(false, [.i .i64 0]), (false, [.b 1])]], []⟩, sh := false, cuts := [] }
noncomputable def Lqb5 : Option Nat → Lv → Option Lv := Lim Try.prog [dq9.sig (Lq9 none)] dqb5 Try.f161
theorem eqb5_i (a0 : ByteArray) (a1 a2 a3 a4 : Int) (a5 a6 a7 : Rw) : Lqb5 none [.s a0, .i a1, .i a2, .i a3, .i a4, .l a5, .l a6, .l a7] =
 (Lq9 none [.i (a6.length : Int), .i a1, .i a2, .i a3, .i a4, .l a5, .l a6, .l a7, .s a0]).bind fun y1 =>
 cond (decide ((g y1 0).int < (a6.length : Int))) (
 cond (inb ((g y1 0).int) a6.length) (
 some [.i ((g y1 0).int), .b (Eng.seq ((rd a6 (((g y1 0).int).toNat) 0).str) a0)]) (
 none)) (
 some [.i ((g y1 0).int), .b false]) := (zb _ _).trans (by kernel_rfl)
theorem kqb5 : SigOk Try.prog (dqb5.sig (Lqb5 none)) ∧ (dqb5.sig (Lqb5 none)).ok = true := zf (zd kq9 (by kernel_rfl) zg) (by kernel_rfl) (by kernel_rfl) (by kernel_rfl)
def dqct : FD := { fn := 176, nb := 0, pre := ⟨[.sc (.i .i64 0), .sc (.pt 0 0), .sc (.pt 2 0)], [.rb [.pt 1 0], .rb [.i .i64 1, .i .i64 2, .i .i64 3, .i .i64 4, .fz 116 false 5, .fz 127 false 6, .fz 129 false 7], .rb [.i .i64 8]]⟩, post := ⟨[.sc (.b 0)], []⟩, sh := false, cuts := [] }
noncomputable def Lqct : Option Nat → Lv → Option Lv := Lim Try.prog [] dqct Try.f176
theorem eqct_i (a0 a1 a2 a3 a4 : Int) (a5 a6 a7 : Rw) (a8 : Int) : Lqct none [.i a0, .i a1, .i a2, .i a3, .i a4, .l a5, .l a6, .l a7, .i a8] =
 cond (inb a0 a7.length) (
 some [.b (decide (a8 ≤ (rd a7 a0.toNat 0).int))]) (
 none) := (zb _ _).trans (by kernel_rfl)
theorem kqct : SigOk Try.prog (dqct.sig (Lqct none)) ∧ (dqct.sig (Lqct none)).ok = true := zf zg (by kernel_rfl) (by kernel_rfl) (by kernel_rfl)
def dqba : FD := { fn := 150, nb := 0, pre := ⟨[.sc (.i .i64 0), .sc (.fn 176 [(0, 0), (2, 0)])], [.rb [.pt 1 0], .rb [.i .i64 1, .i .i64 2, .i .i64 3, .i .i64 4, .fz 116 false 5, .fz 127 false 6, .fz 129 false 7], .rb [.i .i64 8]]⟩, post := ⟨[.sc (.i .i64 0)], []⟩, sh := false, cuts := [⟨2, [1, 5, 6], ⟨[.sc (.fn 176 [(0, 0), (1, 0)]), .sc (.i .i64 0), .sc (.i .i64 1)], [.rb [.pt 2 0], .rb [.i .i64 2], .rb [.i .i64 3, .i .i64 4, .i .i64 5, .i .i64 6, .fz 116 false 7, .fz 127 false 8, .fz 129 false 9]]⟩⟩] }
noncomputable def Lqba : Option Nat → Lv → Option Lv := Lim Try.prog [dqct.sig (Lqct none)] dqba Try.f150
theorem eqba_i (a0 a1 a2 a3 a4 : Int) (a5 a6 a7 : Rw) (a8 : Int) : Lqba none [.i a0, .i a1, .i a2, .i a3, .i a4, .l a5, .l a6, .l a7, .i a8] =
 Lqba (some 2) [.i 0, .i a0, .i a8, .i a1, .i a2, .i a3, .i a4, .l a5, .l a6, .l a7] := (zb _ _).trans (by kernel_rfl)
theorem eqba_2 (a0 a1 a2 a3 a4 a5 a6 : Int) (a7 a8 a9 : Rw) : Lqba (some 2) [.i a0, .i a1, .i a2, .i a3, .i a4, .i a5, .i a6, .l a7, .l a8, .l a9] =
 cond (decide (a0 < a1)) (
 (Lqct none [.i (IntKind.i64.wrap ((IntKind.u64.wrap (IntKind.i64.wrap (a0 + a1))).fdiv (2 ^ 1))), .i a3, .i a4, .i a5, .i a6, .l a7, .l a8, .l a9, .i a2]).bind fun y1 =>
 cond (!(g y1 0).bool) (
 Lqba (some 2) [.i (IntKind.i64.wrap ((IntKind.i64.wrap ((IntKind.u64.wrap (IntKind.i64.wrap (a0 + a1))).fdiv (2 ^ 1))) + 1)), .i a1, .i a2, .i a3, .i a4, .i a5, .i a6, .l a7, .l a8, .l a9]) (
 Lqba (some 2) [.i a0, .i (IntKind.i64.wrap ((IntKind.u64.wrap (IntKind.i64.wrap (a0 + a1))).fdiv (2 ^ 1))), .i a2, .i a3, .i a4, .i a5, .i a6, .l a7, .l a8, .l a9])) (
 some [.i a0]) := (zb _ _).trans (by kernel_rfl)
theorem kqba : SigOk Try.prog (dqba.sig (Lqba none)) ∧ (dqba.sig (Lqba none)).ok = true := zf (zd kqct (by kernel_rfl) zg) (by kernel_rfl) (by kernel_rfl) (by kernel_rfl)
def dqcd : FD := { fn := 162, nb := 0, pre := ⟨[.sc (.pt 0 0), .sc (.i .i64 0)], [.rb [.i .i64 1, .i .i64 2, .i .i64 3, .i .i64 4, .fz 116 false 5, .fz 127 false 6, .fz 129 false 7]]⟩, post := ⟨[.tu [(false, [.i .i64 0]), (false, [.b 1])]], []⟩, sh := false, cuts := [] }
noncomputable def Lqcd : Option Nat → Lv → Option Lv := Lim Try.prog [dqba.sig (Lqba none)] dqcd Try.f162
theorem eqcd_i (a0 a1 a2 a3 a4 : Int) (a5 a6 a7 : Rw) : Lqcd none [.i a0, .i a1, .i a2, .i a3, .i a4, .l a5, .l a6, .l a7] =
 (Lqba none [.i (a7.length : Int), .i a1, .i a2, .i a3, .i a4, .l a5, .l a6, .l a7, .i a0]).bind fun y1 =>
 cond (decide ((g y1 0).int < (a7.length : Int))) (
 cond (inb ((g y1 0).int) a7.length) (
 some [.i ((g y1 0).int), .b ((rd a7 (((g y1 0).int).toNat) 0).int == a0)]) (
 none)) (
 some [.i ((g y1 0).int), .b false]) := (zb _ _).trans (by kernel_rfl)
theorem kqcd : SigOk Try.prog (dqcd.sig (Lqcd none)) ∧ (dqcd.sig (Lqcd none)).ok = true := zf (zd kqba (by kernel_rfl) zg) (by kernel_rfl) (by kernel_rfl) (by kernel_rfl)
def dqce : FD := { fn := 152, nb := 0, pre := ⟨[.sc (.fz 9 false 0)], []⟩, post := ⟨[.sc (.ow 0)], [.dw 9 none 0]⟩, sh := false, cuts := [] }
noncomputable def Lqce : Option Nat → Lv → Option Lv := Lim Try.prog [] dqce Try.f152
theorem eqce_i (a0 : Rw) : Lqce none [.l a0] =
 cond (decide (a0.length ≤ most)) (
 some [.l a0]) (
 none) := (zb _ _).trans (by kernel_rfl)
theorem kqce : SigOk Try.prog (dqce.sig (Lqce none)) ∧ (dqce.sig (Lqce none)).ok = true := zf zg (by kernel_rfl) (by kernel_rfl) (by kernel_rfl)
def dqa : FD := { fn := 109, nb := 1, pre := ⟨[.sc (.pt 0 0), .ag [.i .i64 0, .s 1, .s 2, .i .i64 3, .s 4, .fz 9 false 5]], [.bx [.i .i64 6, .i .i64 7, .i .i64 8, .i .i64 9, .ow 1, .ow 2, .ow 3], .dw 116 (some (3, 9)) 10, .rw 127 false 11, .rw 129 false 12]⟩, post := ⟨[.ag [.i .i64 0, .i .i64 1, .i .i64 2, .i .i64 3, .i .i64 4, .ow 1, .ow 2, .ow 3, .s 5, .i .i64 6, .s 7, .s 8]], [.bx [.i .i64 9, .i .i64 10, .i .i64 11, .i .i64 12, .ow 4, .ow 5, .ow 6], .dw 116 (some (3, 9)) 13, .rw 127 true 14, .rw 129 true 15, .dw 116 (some (3, 9)) 16, .dw 127 none 17, .dw 129 none 18]⟩, sh := false, cuts := [⟨4, [2, 3, 4, 5, 6, 7], ⟨[.sc (.pt 1 0), .sc (.pt 2 0), .sc (.pt 3 0), .sc (.fn 159 []), .sc (.fn 160 [(1, 0), (2, 0)]), .sc (.b 0)], [.bx [.i .i64 1, .i .i64 2, .i .i64 3, .i .i64 4, .ow 4, .ow 5, .ow 6], .bx [.pt 0 0], .bx [.i .i64 5, .s 6, .s 7, .i .i64 8, .s 9, .fz 9 false 10], .bx [.i .i64 11, .i .i64 12, .i .i64 13, .i .i64 14, .i .i64 15, .ow 7, .ow 8, .ow 9, .s 16, .i .i64 17, .s 18, .s 19], .dw 116 (some (3, 9)) 20, .rw 127 false 21, .rw 129 false 22, .dw 116 (some (3, 9)) 23, .rw 127 true 24, .rw 129 true 25]⟩⟩, ⟨7, [2, 3, 4, 5, 6, 7, 55, 56, 57], ⟨[.sc (.pt 1 0), .sc (.pt 2 0), .sc (.pt 3 0), .sc (.fn 159 []), .sc (.fn 160 [(1, 0), (2, 0)]), .sc (.b 0), .sc (.fz 9 false 1), .sc (.i .i64 2), .sc (.i .i64 3)], [.bx [.i .i64 4, .i .i64 5, .i .i64 6, .i .i64 7, .ow 4, .ow 5, .ow 6], .bx [.pt 0 0], .bx [.i .i64 8, .s 9, .s 10, .i .i64 11, .s 12, .fz 9 false 13], .bx [.i .i64 14, .i .i64 15, .i .i64 16, .i .i64 17, .i .i64 18, .ow 7, .ow 8, .ow 9, .s 19, .i .i64 20, .s 21, .s 22], .dw 116 (some (3, 9)) 23, .rw 127 false 24, .rw 129 false 25, .dw 116 (some (3, 9)) 26, .rw 127 true 27, .rw 129 true 28]⟩⟩, ⟨21, [4, 5], ⟨[.sc (.pt 1 0), .sc (.fn 159 [])], [.bx [.i .i64 0, .i .i64 1, .i .i64 2, .i .i64 3, .ow 2, .ow 3, .ow 4], .bx [.i .i64 4, .i .i64 5, .i .i64 6, .i .i64 7, .i .i64 8, .ow 5, .ow 6, .ow 7, .s 9, .i .i64 10, .s 11, .s 12], .dw 116 (some (3, 9)) 13, .rw 127 false 14, .rw 129 false 15, .dw 116 (some (3, 9)) 16, .rw 127 true 17, .rw 129 true 18]⟩⟩, ⟨22, [2, 3, 4, 6, 13, 14, 15], ⟨[.sc (.pt 1 0), .sc (.pt 2 0), .sc (.pt 3 0), .sc (.fn 160 [(1, 0), (2, 0)]), .sc (.s 0), .sc (.i .i64 1), .sc (.b 2)], [.bx [.i .i64 3, .i .i64 4, .i .i64 5, .i .i64 6, .ow 4, .ow 5, .ow 6], .bx [.pt 0 0], .bx [.i .i64 7, .s 8, .s 9, .i .i64 10, .s 11, .fz 9 false 12], .bx [.i .i64 13, .i .i64 14, .i .i64 15, .i .i64 16, .i .i64 17, .ow 7, .ow 8, .ow 9, .s 18, .i .i64 19, .s 20, .s 21], .dw 116 (some (3, 9)) 22, .rw 127 false 23, .rw 129 false 24, .dw 116 (some (3, 9)) 25, .rw 127 true 26, .rw 129 true 27]⟩⟩, ⟨27, [4, 6, 13], ⟨[.sc (.pt 1 0), .sc (.fn 160 [(2, 0), (3, 0)]), .sc (.s 0)], [.bx [.i .i64 1, .i .i64 2, .i .i64 3, .i .i64 4, .ow 4, .ow 5, .ow 6], .bx [.i .i64 5, .i .i64 6, .i .i64 7, .i .i64 8, .i .i64 9, .ow 7, .ow 8, .ow 9, .s 10, .i .i64 11, .s 12, .s 13], .bx [.pt 0 0], .bx [.i .i64 14, .s 15, .s 16, .i .i64 17, .s 18, .fz 9 false 19], .dw 116 (some (3, 9)) 20, .rw 127 false 21, .rw 129 false 22, .dw 116 (some (3, 9)) 23, .rw 127 true 24, .rw 129 true 25]⟩⟩, ⟨65, [2, 4, 5, 30, 346, 347, 348], ⟨[.sc (.pt 1 0), .sc (.pt 2 0), .sc (.fn 159 []), .sc (.ow 3), .sc (.ow 4), .sc (.i .i64 0), .sc (.i .i64 1)], [.bx [.i .i64 2, .i .i64 3, .i .i64 4, .i .i64 5, .ow 5, .ow 6, .ow 4], .bx [.pt 0 0], .bx [.i .i64 6, .i .i64 7, .i .i64 8, .i .i64 9, .i .i64 10, .ow 7, .ow 8, .ow 9, .s 11, .i .i64 12, .s 13, .s 14], .rw 129 true 15, .rw 129 false 16, .dw 116 (some (3, 9)) 17, .rw 127 false 18, .dw 116 (some (3, 9)) 19, .rw 127 true 20, .rw 129 true 21]⟩⟩, ⟨76, [4, 5], ⟨[.sc (.pt 1 0), .sc (.fn 159 [])], [.bx [.i .i64 0, .i .i64 1, .i .i64 2, .i .i64 3, .ow 2, .ow 3, .ow 4], .bx [.i .i64 4, .i .i64 5, .i .i64 6, .i .i64 7, .i .i64 8, .ow 5, .ow 6, .ow 7, .s 9, .i .i64 10, .s 11, .s 12], .dw 116 (some (3, 9)) 13, .rw 127 false 14, .rw 129 false 15, .dw 116 (some (3, 9)) 16, .rw 127 true 17, .rw 129 true 18]⟩⟩, ⟨78, [4, 5], ⟨[.sc (.pt 1 0), .sc (.fn 159 [])], [.bx [.i .i64 0, .i .i64 1, .i .i64 2, .i .i64 3, .ow 2, .ow 3, .ow 4], .bx [.i .i64 4, .i .i64 5, .i .i64 6, .i .i64 7, .i .i64 8, .ow 5, .ow 6, .ow 7, .s 9, .i .i64 10, .s 11, .s 12], .dw 116 (some (3, 9)) 13, .rw 127 false 14, .rw 129 false 15, .dw 116 (some (3, 9)) 16, .rw 127 true 17, .rw 129 true 18]⟩⟩] }
noncomputable def Lqa : Option Nat → Lv → Option Lv := Lim Try.prog [dqbu.sig (Lqbu none), dqu.sig (Lqu none), dqz.sig (Lqz none), dqm.sig (Lqm none), dqn.sig (Lqn none), dq0.sig (Lq0 none), dqb4.sig (Lqb4 none), dqb5.sig (Lqb5 none), dqcd.sig (Lqcd none), dqce.sig (Lqce none)] dqa Try.f109
theorem eqa_i (a0 : Int) (a1 a2 : ByteArray) (a3 : Int) (a4 : ByteArray) (a5 : Rw) (a6 a7 a8 a9 : Int) (a10 a11 a12 : Rw) : Lqa none [.i a0, .s a1, .s a2, .i a3, .s a4, .l a5, .i a6, .i a7, .i a8, .i a9, .l a10, .l a11, .l a12] =
 cond (decide ((a12.length : Int) < 200)) (
 Lqa (some 4) [.b (decide (a8 < 1000000000)), .i a6, .i a7, .i a8, .i a9, .i a0, .s a1, .s a2, .i a3, .s a4, .l a5, .i 0, .i 0, .i 0, .i 0, .i 0, .s (⟨#[]⟩ : ByteArray), .i 0, .s (⟨#[]⟩ : ByteArray), .s (⟨#[]⟩ : ByteArray), .l a10, .l a11, .l a12, .l [], .l [], .l []]) (
 Lqa (some 4) [.b false, .i a6, .i a7, .i a8, .i a9, .i a0, .s a1, .s a2, .i a3, .s a4, .l a5, .i 0, .i 0, .i 0, .i 0, .i 0, .s (⟨#[]⟩ : ByteArray), .i 0, .s (⟨#[]⟩ : ByteArray), .s (⟨#[]⟩ : ByteArray), .l a10, .l a11, .l a12, .l [], .l [], .l []]) := (zb _ _).trans (by kernel_rfl)
theorem eqa_4 (a0 : Bool) (a1 a2 a3 a4 a5 : Int) (a6 a7 : ByteArray) (a8 : Int) (a9 : ByteArray) (a10 : Rw) (a11 a12 a13 a14 a15 : Int) (a16 : ByteArray) (a17 : Int) (a18 a19 : ByteArray) (a20 a21 a22 a23 a24 a25 : Rw) : Lqa (some 4) [.b a0, .i a1, .i a2, .i a3, .i a4, .i a5, .s a6, .s a7, .i a8, .s a9, .l a10, .i a11, .i a12, .i a13, .i a14, .i a15, .s a16, .i a17, .s a18, .s a19, .l a20, .l a21, .l a22, .l a23, .l a24, .l a25] =
 cond (a5 == 1) (
 Lqa (some 7) [.b a0, .l a10, .i (a10.length : Int), .i 0, .i a1, .i a2, .i a3, .i a4, .i a5, .s a6, .s a7, .i a8, .s a9, .l a10, .i a11, .i a12, .i a13, .i a14, .i a15, .s a16, .i a17, .s a18, .s a19, .l a20, .l a21, .l a22, .l a23, .l a24, .l a25]) (
 cond (a5 == 2) (
 (Lqbu none [.s a6, .i a1, .i a2, .i a3, .i a4, .l a20, .l a21, .l a22]).bind fun y1 =>
 cond (!(g y1 1).bool) (
 (Lq0 none [.i 2]).bind fun y2 =>
 some [.i ((g y2 0).int), .i ((g y2 1).int), .i ((g y2 2).int), .i ((g y2 3).int), .i ((g y2 4).int), .s ((g y2 5).str), .i ((g y2 6).int), .s ((g y2 7).str), .s ((g y2 8).str), .i a1, .i a2, .i a3, .i a4, .l ((g y2 9).list), .l ((g y2 10).list), .l ((g y2 11).list), .l a20, .l a21, .l a22]) (
 (Lqb5 none [.s a7, .i a1, .i a2, .i a3, .i a4, .l a20, .l a21, .l a22]).bind fun y3 =>
 cond ((g y3 1).bool) (
 cond (inb ((g y3 0).int) a21.length) (
 (Lq0 none [.i 0]).bind fun y4 =>
 some [.i ((g y4 0).int), .i ((g y4 1).int), .i ((g y4 2).int), .i ((g y4 3).int), .i ((g y4 4).int), .s ((g y4 5).str), .i ((g y4 6).int), .s ((g y4 7).str), .s ((g y4 8).str), .i a1, .i a2, .i a3, .i a4, .l ((g y4 9).list), .l ((g y4 10).list), .l ((g y4 11).list), .l a20, .l (wrs a21 (((g y3 0).int).toNat) 1 ([.s a6] : List C)), .l a22]) (
 none)) (
 cond ((a21.length : Int) == 100) (
 (Lq0 none [.i 4]).bind fun y5 =>
 some [.i ((g y5 0).int), .i ((g y5 1).int), .i ((g y5 2).int), .i ((g y5 3).int), .i ((g y5 4).int), .s ((g y5 5).str), .i ((g y5 6).int), .s ((g y5 7).str), .s ((g y5 8).str), .i a1, .i a2, .i a3, .i a4, .l ((g y5 9).list), .l ((g y5 10).list), .l ((g y5 11).list), .l a20, .l a21, .l a22]) (
 cond (decide (0 ≤ (g y3 0).int)) (
 cond (decide ((g y3 0).int ≤ (a21.length : Int))) (
 cond (decide ((Eng.sub a21 0 ((g y3 0).int).toNat).length ≤ most)) (
 cond (decide ((Eng.sub a21 0 ((g y3 0).int).toNat).length + ([[.s a7, .s a6]] : Rw).length ≤ most)) (
 cond (decide (0 ≤ (g y3 0).int)) (
 cond (decide ((g y3 0).int ≤ (a21.length : Int))) (
 cond (decide (((Eng.sub a21 0 ((g y3 0).int).toNat) ++ ([[.s a7, .s a6]] : Rw)).length + (Eng.sub a21 ((g y3 0).int).toNat a21.length).length ≤ most)) (
 Lqa (some 78) [.i a1, .i a2, .i a3, .i a4, .i a11, .i a12, .i a13, .i a14, .i a15, .s a16, .i a17, .s a18, .s a19, .l a20, .l (((Eng.sub a21 0 ((g y3 0).int).toNat) ++ ([[.s a7, .s a6]] : Rw)) ++ (Eng.sub a21 ((g y3 0).int).toNat a21.length)), .l a22, .l a23, .l a24, .l a25]) (
 none)) (
 none)) (
 none)) (
 none)) (
 none)) (
 none)) (
 none))))) (
 cond (a5 == 3) (
 (Lqb5 none [.s a7, .i a1, .i a2, .i a3, .i a4, .l a20, .l a21, .l a22]).bind fun y6 =>
 cond (!(g y6 1).bool) (
 (Lq0 none [.i 5]).bind fun y7 =>
 some [.i ((g y7 0).int), .i ((g y7 1).int), .i ((g y7 2).int), .i ((g y7 3).int), .i ((g y7 4).int), .s ((g y7 5).str), .i ((g y7 6).int), .s ((g y7 7).str), .s ((g y7 8).str), .i a1, .i a2, .i a3, .i a4, .l ((g y7 9).list), .l ((g y7 10).list), .l ((g y7 11).list), .l a20, .l a21, .l a22]) (
 cond (decide (0 ≤ (g y6 0).int)) (
 cond (decide ((g y6 0).int ≤ (a21.length : Int))) (
 cond (decide (0 ≤ (IntKind.i64.wrap ((g y6 0).int + 1)))) (
 cond (decide ((IntKind.i64.wrap ((g y6 0).int + 1)) ≤ (a21.length : Int))) (
 cond (decide ((Eng.sub a21 0 (((g y6 0).int).toNat)).length + (Eng.sub a21 (IntKind.i64.wrap ((g y6 0).int + 1)).toNat a21.length).length ≤ most)) (
 Lqa (some 78) [.i a1, .i a2, .i a3, .i a4, .i a11, .i a12, .i a13, .i a14, .i a15, .s a16, .i a17, .s a18, .s a19, .l a20, .l ((Eng.sub a21 0 (((g y6 0).int).toNat)) ++ (Eng.sub a21 (IntKind.i64.wrap ((g y6 0).int + 1)).toNat a21.length)), .l a22, .l a23, .l a24, .l a25]) (
 none)) (
 none)) (
 none)) (
 none)) (
 none))) (
 cond (a5 == 4) (
 (Lqbu none [.s a6, .i a1, .i a2, .i a3, .i a4, .l a20, .l a21, .l a22]).bind fun y8 =>
 cond (!(g y8 1).bool) (
 (Lq0 none [.i 2]).bind fun y9 =>
 some [.i ((g y9 0).int), .i ((g y9 1).int), .i ((g y9 2).int), .i ((g y9 3).int), .i ((g y9 4).int), .s ((g y9 5).str), .i ((g y9 6).int), .s ((g y9 7).str), .s ((g y9 8).str), .i a1, .i a2, .i a3, .i a4, .l ((g y9 9).list), .l ((g y9 10).list), .l ((g y9 11).list), .l a20, .l a21, .l a22]) (
 cond (!a0) (
 (Lq0 none [.i 4]).bind fun y10 =>
 some [.i ((g y10 0).int), .i ((g y10 1).int), .i ((g y10 2).int), .i ((g y10 3).int), .i ((g y10 4).int), .s ((g y10 5).str), .i ((g y10 6).int), .s ((g y10 7).str), .s ((g y10 8).str), .i a1, .i a2, .i a3, .i a4, .l ((g y10 9).list), .l ((g y10 10).list), .l ((g y10 11).list), .l a20, .l a21, .l a22]) (
 (Lqb4 none [.s a6, .i a1, .i a2, .i a3, .i a4, .i a5, .s a6, .s a7, .i a8, .s a9, .l a10, .l a20, .l a21, .l a22]).bind fun y11 =>
 some [.i ((g y11 0).int), .i ((g y11 1).int), .i ((g y11 2).int), .i ((g y11 3).int), .i ((g y11 4).int), .s ((g y11 5).str), .i ((g y11 6).int), .s ((g y11 7).str), .s ((g y11 8).str), .i ((g y11 9).int), .i ((g y11 10).int), .i ((g y11 11).int), .i ((g y11 12).int), .l ((g y11 22).list), .l ((g y11 23).list), .l ((g y11 24).list), .l ((g y11 19).list), .l ((g y11 20).list), .l ((g y11 21).list)]))) (
 cond (a5 == 5) (
 (Lqcd none [.i a8, .i a1, .i a2, .i a3, .i a4, .l a20, .l a21, .l a22]).bind fun y12 =>
 cond (!(g y12 1).bool) (
 (Lq0 none [.i 5]).bind fun y13 =>
 some [.i ((g y13 0).int), .i ((g y13 1).int), .i ((g y13 2).int), .i ((g y13 3).int), .i ((g y13 4).int), .s ((g y13 5).str), .i ((g y13 6).int), .s ((g y13 7).str), .s ((g y13 8).str), .i a1, .i a2, .i a3, .i a4, .l ((g y13 9).list), .l ((g y13 10).list), .l ((g y13 11).list), .l a20, .l a21, .l a22]) (
 cond (decide (0 ≤ (g y12 0).int)) (
 cond (decide ((g y12 0).int ≤ (a22.length : Int))) (
 cond (decide (0 ≤ (IntKind.i64.wrap ((g y12 0).int + 1)))) (
 cond (decide ((IntKind.i64.wrap ((g y12 0).int + 1)) ≤ (a22.length : Int))) (
 cond (decide ((Eng.sub a22 0 (((g y12 0).int).toNat)).length + (Eng.sub a22 (IntKind.i64.wrap ((g y12 0).int + 1)).toNat a22.length).length ≤ most)) (
 Lqa (some 78) [.i a1, .i a2, .i a3, .i a4, .i a11, .i a12, .i a13, .i a14, .i a15, .s a16, .i a17, .s a18, .s a19, .l a20, .l a21, .l ((Eng.sub a22 0 (((g y12 0).int).toNat)) ++ (Eng.sub a22 (IntKind.i64.wrap ((g y12 0).int + 1)).toNat a22.length)), .l a23, .l a24, .l a25]) (
 none)) (
 none)) (
 none)) (
 none)) (
 none))) (
 cond (a5 == 6) (
 cond (decide (1000000000 < (IntKind.i64.wrap (a2 + a8)))) (
 (Lq0 none [.i 4]).bind fun y14 =>
 some [.i ((g y14 0).int), .i ((g y14 1).int), .i ((g y14 2).int), .i ((g y14 3).int), .i ((g y14 4).int), .s ((g y14 5).str), .i ((g y14 6).int), .s ((g y14 7).str), .s ((g y14 8).str), .i a1, .i a2, .i a3, .i a4, .l ((g y14 9).list), .l ((g y14 10).list), .l ((g y14 11).list), .l a20, .l a21, .l a22]) (
 Lqa (some 65) [.i (a22.length : Int), .i 0, .i a1, .i (IntKind.i64.wrap (a2 + a8)), .i a3, .i a4, .i a11, .i a12, .i a13, .i a14, .i a15, .s a16, .i a17, .s a18, .s a19, .l [], .l a22, .l a20, .l a21, .l a23, .l a24, .l a25])) (
 cond (a5 == 7) (
 (Lqbu none [.s a6, .i a1, .i a2, .i a3, .i a4, .l a20, .l a21, .l a22]).bind fun y15 =>
 cond (!(g y15 1).bool) (
 (Lq0 none [.i 2]).bind fun y16 =>
 some [.i ((g y16 0).int), .i ((g y16 1).int), .i ((g y16 2).int), .i ((g y16 3).int), .i ((g y16 4).int), .s ((g y16 5).str), .i ((g y16 6).int), .s ((g y16 7).str), .s ((g y16 8).str), .i a1, .i a2, .i a3, .i a4, .l ((g y16 9).list), .l ((g y16 10).list), .l ((g y16 11).list), .l a20, .l a21, .l a22]) (
 (Lqm none [.s a6, .i a1, .i a2, .i a3, .i a4, .l a20, .l a21, .l a22]).bind fun y17 =>
 cond ((g y17 0).bool) (
 Lqa (some 76) [.i a1, .i a2, .i a3, .i a4, .i a11, .i a12, .i a13, .i a14, .i a15, .s a16, .i a17, .s a18, .s a19, .l a20, .l a21, .l a22, .l a23, .l a24, .l a25]) (
 (Lqn none [.s a6, .i a1, .i a2, .i a3, .i a4, .l a20, .l a21, .l a22]).bind fun y18 =>
 cond ((g y18 0).bool) (
 Lqa (some 76) [.i a1, .i a2, .i a3, .i a4, .i a11, .i a12, .i a13, .i a14, .i a15, .s a16, .i a17, .s a18, .s a19, .l a20, .l a21, .l a22, .l a23, .l a24, .l a25]) (
 cond (decide (0 ≤ (g y15 0).int)) (
 cond (decide ((g y15 0).int ≤ (a20.length : Int))) (
 cond (decide (0 ≤ (IntKind.i64.wrap ((g y15 0).int + 1)))) (
 cond (decide ((IntKind.i64.wrap ((g y15 0).int + 1)) ≤ (a20.length : Int))) (
 cond (decide ((Eng.sub a20 0 (((g y15 0).int).toNat)).length + (Eng.sub a20 ((IntKind.i64.wrap ((g y15 0).int + 1)).toNat) a20.length).length ≤ most)) (
 cond (Nat.ble (((g y15 0).int).toNat) ((IntKind.i64.wrap ((g y15 0).int + 1)).toNat)) (
 Lqa (some 78) [.i a1, .i a2, .i a3, .i a4, .i a11, .i a12, .i a13, .i a14, .i a15, .s a16, .i a17, .s a18, .s a19, .l ((Eng.sub a20 0 (((g y15 0).int).toNat)) ++ (Eng.sub a20 ((IntKind.i64.wrap ((g y15 0).int + 1)).toNat) a20.length)), .l a21, .l a22, .l a23, .l a24, .l a25]) (
 none)) (
 none)) (
 none)) (
 none)) (
 none)) (
 none))))) (
 Lqa (some 78) [.i a1, .i a2, .i a3, .i a4, .i a11, .i a12, .i a13, .i a14, .i a15, .s a16, .i a17, .s a18, .s a19, .l a20, .l a21, .l a22, .l a23, .l a24, .l a25]))))))) := (zb _ _).trans (by kernel_rfl)
theorem eqa_7 (a0 : Bool) (a1 : Rw) (a2 a3 a4 a5 a6 a7 a8 : Int) (a9 a10 : ByteArray) (a11 : Int) (a12 : ByteArray) (a13 : Rw) (a14 a15 a16 a17 a18 : Int) (a19 : ByteArray) (a20 : Int) (a21 a22 : ByteArray) (a23 a24 a25 a26 a27 a28 : Rw) : Lqa (some 7) [.b a0, .l a1, .i a2, .i a3, .i a4, .i a5, .i a6, .i a7, .i a8, .s a9, .s a10, .i a11, .s a12, .l a13, .i a14, .i a15, .i a16, .i a17, .i a18, .s a19, .i a20, .s a21, .s a22, .l a23, .l a24, .l a25, .l a26, .l a27, .l a28] =
 cond (decide (a3 < a2)) (
 cond (inb a3 a1.length) (
 (Lqbu none [.s ((rd a1 a3.toNat 0).str), .i a4, .i a5, .i a6, .i a7, .l a23, .l a24, .l a25]).bind fun y1 =>
 cond (!(g y1 1).bool) (
 (Lq0 none [.i 2]).bind fun y2 =>
 some [.i ((g y2 0).int), .i ((g y2 1).int), .i ((g y2 2).int), .i ((g y2 3).int), .i ((g y2 4).int), .s ((g y2 5).str), .i ((g y2 6).int), .s ((g y2 7).str), .s ((g y2 8).str), .i a4, .i a5, .i a6, .i a7, .l ((g y2 9).list), .l ((g y2 10).list), .l ((g y2 11).list), .l a23, .l a24, .l a25]) (
 Lqa (some 7) [.b a0, .l a1, .i a2, .i (IntKind.i64.wrap (a3 + 1)), .i a4, .i a5, .i a6, .i a7, .i a8, .s a9, .s a10, .i a11, .s a12, .l a13, .i a14, .i a15, .i a16, .i a17, .i a18, .s a19, .i a20, .s a21, .s a22, .l a23, .l a24, .l a25, .l a26, .l a27, .l a28])) (
 none)) (
 (Lqz none [.s a12, .l a13]).bind fun y3 =>
 (Lqu none [.s ((g y3 0).str), .i a4]).bind fun y4 =>
 (Lqbu none [.s ((g y4 0).str), .i a4, .i a5, .i a6, .i a7, .l a23, .l a24, .l a25]).bind fun y5 =>
 cond ((g y5 1).bool) (
 cond (inb ((g y5 0).int) a23.length) (
 (Lqz none [.s ((rd a23 (((g y5 0).int).toNat) 2).str), .l ((rd a23 (((g y5 0).int).toNat) 3).list)]).bind fun y6 =>
 cond (!Eng.seq ((g y6 0).str) ((g y3 0).str)) (
 some [.i 3, .i 0, .i 0, .i 0, .i 0, .s (⟨#[]⟩ : ByteArray), .i 0, .s ((g y6 0).str), .s ((g y3 0).str), .i a4, .i a5, .i a6, .i a7, .l [], .l [], .l [], .l a23, .l a24, .l a25]) (
 cond (!a0) (
 Lqa (some 21) [.i a4, .i a5, .i a6, .i a7, .i a14, .i a15, .i a16, .i a17, .i a18, .s a19, .i a20, .s a21, .s a22, .l a23, .l a24, .l a25, .l a26, .l a27, .l a28]) (
 cond (!(g y5 1).bool) (
 cond ((a23.length : Int) == 600) (
 Lqa (some 21) [.i a4, .i a5, .i a6, .i a7, .i a14, .i a15, .i a16, .i a17, .i a18, .s a19, .i a20, .s a21, .s a22, .l a23, .l a24, .l a25, .l a26, .l a27, .l a28]) (
 cond (a7 == 1000000000) (
 Lqa (some 21) [.i a4, .i a5, .i a6, .i a7, .i a14, .i a15, .i a16, .i a17, .i a18, .s a19, .i a20, .s a21, .s a22, .l a23, .l a24, .l a25, .l a26, .l a27, .l a28]) (
 Lqa (some 22) [.s ((g y4 0).str), .i ((g y5 0).int), .b ((g y5 1).bool), .i a4, .i a5, .i a6, .i a7, .i a8, .s a9, .s a10, .i a11, .s a12, .l a13, .i a14, .i a15, .i a16, .i a17, .i a18, .s a19, .i a20, .s a21, .s a22, .l a23, .l a24, .l a25, .l a26, .l a27, .l a28]))) (
 Lqa (some 22) [.s ((g y4 0).str), .i ((g y5 0).int), .b ((g y5 1).bool), .i a4, .i a5, .i a6, .i a7, .i a8, .s a9, .s a10, .i a11, .s a12, .l a13, .i a14, .i a15, .i a16, .i a17, .i a18, .s a19, .i a20, .s a21, .s a22, .l a23, .l a24, .l a25, .l a26, .l a27, .l a28])))) (
 none)) (
 cond (!a0) (
 Lqa (some 21) [.i a4, .i a5, .i a6, .i a7, .i a14, .i a15, .i a16, .i a17, .i a18, .s a19, .i a20, .s a21, .s a22, .l a23, .l a24, .l a25, .l a26, .l a27, .l a28]) (
 cond (!(g y5 1).bool) (
 cond ((a23.length : Int) == 600) (
 Lqa (some 21) [.i a4, .i a5, .i a6, .i a7, .i a14, .i a15, .i a16, .i a17, .i a18, .s a19, .i a20, .s a21, .s a22, .l a23, .l a24, .l a25, .l a26, .l a27, .l a28]) (
 cond (a7 == 1000000000) (
 Lqa (some 21) [.i a4, .i a5, .i a6, .i a7, .i a14, .i a15, .i a16, .i a17, .i a18, .s a19, .i a20, .s a21, .s a22, .l a23, .l a24, .l a25, .l a26, .l a27, .l a28]) (
 Lqa (some 22) [.s ((g y4 0).str), .i ((g y5 0).int), .b ((g y5 1).bool), .i a4, .i a5, .i a6, .i a7, .i a8, .s a9, .s a10, .i a11, .s a12, .l a13, .i a14, .i a15, .i a16, .i a17, .i a18, .s a19, .i a20, .s a21, .s a22, .l a23, .l a24, .l a25, .l a26, .l a27, .l a28]))) (
 Lqa (some 22) [.s ((g y4 0).str), .i ((g y5 0).int), .b ((g y5 1).bool), .i a4, .i a5, .i a6, .i a7, .i a8, .s a9, .s a10, .i a11, .s a12, .l a13, .i a14, .i a15, .i a16, .i a17, .i a18, .s a19, .i a20, .s a21, .s a22, .l a23, .l a24, .l a25, .l a26, .l a27, .l a28])))) := (zb _ _).trans (by kernel_rfl)
theorem eqa_21 (a0 a1 a2 a3 a4 a5 a6 a7 a8 : Int) (a9 : ByteArray) (a10 : Int) (a11 a12 : ByteArray) (a13 a14 a15 a16 a17 a18 : Rw) : Lqa (some 21) [.i a0, .i a1, .i a2, .i a3, .i a4, .i a5, .i a6, .i a7, .i a8, .s a9, .i a10, .s a11, .s a12, .l a13, .l a14, .l a15, .l a16, .l a17, .l a18] =
 (Lq0 none [.i 4]).bind fun y1 =>
 some [.i ((g y1 0).int), .i ((g y1 1).int), .i ((g y1 2).int), .i ((g y1 3).int), .i ((g y1 4).int), .s ((g y1 5).str), .i ((g y1 6).int), .s ((g y1 7).str), .s ((g y1 8).str), .i a0, .i a1, .i a2, .i a3, .l ((g y1 9).list), .l ((g y1 10).list), .l ((g y1 11).list), .l a13, .l a14, .l a15] := (zb _ _).trans (by kernel_rfl)
theorem eqa_22 (a0 : ByteArray) (a1 : Int) (a2 : Bool) (a3 a4 a5 a6 a7 : Int) (a8 a9 : ByteArray) (a10 : Int) (a11 : ByteArray) (a12 : Rw) (a13 a14 a15 a16 a17 : Int) (a18 : ByteArray) (a19 : Int) (a20 a21 : ByteArray) (a22 a23 a24 a25 a26 a27 : Rw) : Lqa (some 22) [.s a0, .i a1, .b a2, .i a3, .i a4, .i a5, .i a6, .i a7, .s a8, .s a9, .i a10, .s a11, .l a12, .i a13, .i a14, .i a15, .i a16, .i a17, .s a18, .i a19, .s a20, .s a21, .l a22, .l a23, .l a24, .l a25, .l a26, .l a27] =
 cond (!a2) (
 cond (decide (0 ≤ a1)) (
 cond (decide (a1 ≤ (a22.length : Int))) (
 cond (decide ((Eng.sub a22 0 a1.toNat).length ≤ most)) (
 (Lqce none [.l a12]).bind fun y1 =>
 cond (decide ((Eng.sub a22 0 a1.toNat).length + ([[.s a0, .i (IntKind.i64.wrap (a6 + 1)), .s a11, .l ((g y1 0).list)]] : Rw).length ≤ most)) (
 cond (decide (0 ≤ a1)) (
 cond (decide (a1 ≤ (a22.length : Int))) (
 cond (decide (((Eng.sub a22 0 a1.toNat) ++ ([[.s a0, .i (IntKind.i64.wrap (a6 + 1)), .s a11, .l ((g y1 0).list)]] : Rw)).length + (Eng.sub a22 a1.toNat a22.length).length ≤ most)) (
 cond (Nat.beq a1.toNat a1.toNat) (
 cond (Nat.beq a22.length a22.length) (
 Lqa (some 27) [.s a0, .i a3, .i a4, .i a5, .i (IntKind.i64.wrap (a6 + 1)), .i a13, .i a14, .i a15, .i a16, .i a17, .s a18, .i a19, .s a20, .s a21, .i a7, .s a8, .s a9, .i a10, .s a11, .l a12, .l (((Eng.sub a22 0 a1.toNat) ++ ([[.s a0, .i (IntKind.i64.wrap (a6 + 1)), .s a11, .l ((g y1 0).list)]] : Rw)) ++ (Eng.sub a22 a1.toNat a22.length)), .l a23, .l a24, .l a25, .l a26, .l a27]) (
 none)) (
 none)) (
 none)) (
 none)) (
 none)) (
 none)) (
 none)) (
 none)) (
 none)) (
 Lqa (some 27) [.s a0, .i a3, .i a4, .i a5, .i a6, .i a13, .i a14, .i a15, .i a16, .i a17, .s a18, .i a19, .s a20, .s a21, .i a7, .s a8, .s a9, .i a10, .s a11, .l a12, .l a22, .l a23, .l a24, .l a25, .l a26, .l a27]) := (zb _ _).trans (by kernel_rfl)
theorem eqa_27 (a0 : ByteArray) (a1 a2 a3 a4 a5 a6 a7 a8 a9 : Int) (a10 : ByteArray) (a11 : Int) (a12 a13 : ByteArray) (a14 : Int) (a15 a16 : ByteArray) (a17 : Int) (a18 : ByteArray) (a19 a20 a21 a22 a23 a24 a25 : Rw) : Lqa (some 27) [.s a0, .i a1, .i a2, .i a3, .i a4, .i a5, .i a6, .i a7, .i a8, .i a9, .s a10, .i a11, .s a12, .s a13, .i a14, .s a15, .s a16, .i a17, .s a18, .l a19, .l a20, .l a21, .l a22, .l a23, .l a24, .l a25] =
 (Lqb4 none [.s a0, .i a1, .i a2, .i a3, .i a4, .i a14, .s a15, .s a16, .i a17, .s a18, .l a19, .l a20, .l a21, .l a22]).bind fun y1 =>
 some [.i ((g y1 0).int), .i ((g y1 1).int), .i ((g y1 2).int), .i ((g y1 3).int), .i ((g y1 4).int), .s a0, .i ((g y1 6).int), .s ((g y1 7).str), .s ((g y1 8).str), .i ((g y1 9).int), .i ((g y1 10).int), .i ((g y1 11).int), .i ((g y1 12).int), .l ((g y1 22).list), .l ((g y1 23).list), .l ((g y1 24).list), .l ((g y1 19).list), .l ((g y1 20).list), .l ((g y1 21).list)] := (zb _ _).trans (by kernel_rfl)
theorem eqa_65 (a0 a1 a2 a3 a4 a5 a6 a7 a8 a9 a10 : Int) (a11 : ByteArray) (a12 : Int) (a13 a14 : ByteArray) (a15 a16 a17 a18 a19 a20 a21 : Rw) : Lqa (some 65) [.i a0, .i a1, .i a2, .i a3, .i a4, .i a5, .i a6, .i a7, .i a8, .i a9, .i a10, .s a11, .i a12, .s a13, .s a14, .l a15, .l a16, .l a17, .l a18, .l a19, .l a20, .l a21] =
 cond (decide (a1 < a0)) (
 cond (inb a1 a16.length) (
 cond (decide (a3 < (rd a16 a1.toNat 2).int)) (
 cond (decide (a15.length + ([[.i ((rd a16 a1.toNat 0).int), .s ((rd a16 a1.toNat 1).str), .i ((rd a16 a1.toNat 2).int)]] : Rw).length ≤ most)) (
 Lqa (some 65) [.i a0, .i (IntKind.i64.wrap (a1 + 1)), .i a2, .i a3, .i a4, .i a5, .i a6, .i a7, .i a8, .i a9, .i a10, .s a11, .i a12, .s a13, .s a14, .l (a15 ++ ([[.i ((rd a16 a1.toNat 0).int), .s ((rd a16 a1.toNat 1).str), .i ((rd a16 a1.toNat 2).int)]] : Rw)), .l a16, .l a17, .l a18, .l a19, .l a20, .l a21]) (
 none)) (
 Lqa (some 65) [.i a0, .i (IntKind.i64.wrap (a1 + 1)), .i a2, .i a3, .i a4, .i a5, .i a6, .i a7, .i a8, .i a9, .i a10, .s a11, .i a12, .s a13, .s a14, .l a15, .l a16, .l a17, .l a18, .l a19, .l a20, .l a21])) (
 none)) (
 Lqa (some 78) [.i a2, .i a3, .i a4, .i a5, .i a6, .i a7, .i a8, .i a9, .i a10, .s a11, .i a12, .s a13, .s a14, .l a17, .l a18, .l a15, .l a19, .l a20, .l a21]) := (zb _ _).trans (by kernel_rfl)
theorem eqa_76 (a0 a1 a2 a3 a4 a5 a6 a7 a8 : Int) (a9 : ByteArray) (a10 : Int) (a11 a12 : ByteArray) (a13 a14 a15 a16 a17 a18 : Rw) : Lqa (some 76) [.i a0, .i a1, .i a2, .i a3, .i a4, .i a5, .i a6, .i a7, .i a8, .s a9, .i a10, .s a11, .s a12, .l a13, .l a14, .l a15, .l a16, .l a17, .l a18] =
 (Lq0 none [.i 6]).bind fun y1 =>
 some [.i ((g y1 0).int), .i ((g y1 1).int), .i ((g y1 2).int), .i ((g y1 3).int), .i ((g y1 4).int), .s ((g y1 5).str), .i ((g y1 6).int), .s ((g y1 7).str), .s ((g y1 8).str), .i a0, .i a1, .i a2, .i a3, .l ((g y1 9).list), .l ((g y1 10).list), .l ((g y1 11).list), .l a13, .l a14, .l a15] := (zb _ _).trans (by kernel_rfl)
theorem eqa_78 (a0 a1 a2 a3 a4 a5 a6 a7 a8 : Int) (a9 : ByteArray) (a10 : Int) (a11 a12 : ByteArray) (a13 a14 a15 a16 a17 a18 : Rw) : Lqa (some 78) [.i a0, .i a1, .i a2, .i a3, .i a4, .i a5, .i a6, .i a7, .i a8, .s a9, .i a10, .s a11, .s a12, .l a13, .l a14, .l a15, .l a16, .l a17, .l a18] =
 (Lq0 none [.i 0]).bind fun y1 =>
 some [.i ((g y1 0).int), .i ((g y1 1).int), .i ((g y1 2).int), .i ((g y1 3).int), .i ((g y1 4).int), .s ((g y1 5).str), .i ((g y1 6).int), .s ((g y1 7).str), .s ((g y1 8).str), .i a0, .i a1, .i a2, .i a3, .l ((g y1 9).list), .l ((g y1 10).list), .l ((g y1 11).list), .l a13, .l a14, .l a15] := (zb _ _).trans (by kernel_rfl)
theorem kqa : SigOk Try.prog (dqa.sig (Lqa none)) ∧ (dqa.sig (Lqa none)).ok = true := zf (zd kqbu (by kernel_rfl) (zd kqu (by kernel_rfl) (zd kqz (by kernel_rfl) (zd kqm (by kernel_rfl) (zd kqn (by kernel_rfl) (zd kq0 (by kernel_rfl) (zd kqb4 (by kernel_rfl) (zd kqb5 (by kernel_rfl) (zd kqcd (by kernel_rfl) (zd kqce (by kernel_rfl) zg)))))))))) (by kernel_rfl) (by kernel_rfl) (by kernel_rfl)
def dqv : FD := { fn := 125, nb := 0, pre := ⟨[.ag [.s 0, .fz 9 false 1], .sc (.i .i64 2)], []⟩, post := ⟨[.sc (.b 0)], []⟩, sh := false, cuts := [⟨4, [1, 2, 18, 19, 20], ⟨[.sc (.i .i64 0), .sc (.pt 0 0), .sc (.fz 9 false 1), .sc (.i .i64 2), .sc (.i .i64 3)], [.bx [.s 4, .fz 9 false 5]]⟩⟩] }
noncomputable def Lqv : Option Nat → Lv → Option Lv := Lim Try.prog [dqp.sig (Lqp none)] dqv Try.f125
theorem eqv_i (a0 : ByteArray) (a1 : Rw) (a2 : Int) : Lqv none [.s a0, .l a1, .i a2] =
 cond (decide (2000 < (a0.size : Int))) (
 some [.b false]) (
 cond (decide (30 < (a1.length : Int))) (
 some [.b false]) (
 Lqv (some 4) [.i a2, .l a1, .i (a1.length : Int), .i 0, .s a0, .l a1])) := (zb _ _).trans (by kernel_rfl)
theorem eqv_4 (a0 : Int) (a1 : Rw) (a2 a3 : Int) (a4 : ByteArray) (a5 : Rw) : Lqv (some 4) [.i a0, .l a1, .i a2, .i a3, .s a4, .l a5] =
 cond (decide (a3 < a2)) (
 cond (inb a3 a1.length) (
 cond ((((rd a1 a3.toNat 0).str).size : Int) != a0) (
 some [.b false]) (
 cond (decide (0 < a3)) (
 cond (inb (IntKind.i64.wrap (a3 - 1)) a5.length) (
 cond (!slt ((rd a5 ((IntKind.i64.wrap (a3 - 1)).toNat) 0).str) ((rd a1 a3.toNat 0).str)) (
 some [.b false]) (
 Lqv (some 4) [.i a0, .l a1, .i a2, .i (IntKind.i64.wrap (a3 + 1)), .s a4, .l a5])) (
 none)) (
 Lqv (some 4) [.i a0, .l a1, .i a2, .i (IntKind.i64.wrap (a3 + 1)), .s a4, .l a5]))) (
 none)) (
 (Lqp none [.i a0]).bind fun y1 =>
 some [.b ((g y1 0).bool)]) := (zb _ _).trans (by kernel_rfl)
theorem kqv : SigOk Try.prog (dqv.sig (Lqv none)) ∧ (dqv.sig (Lqv none)).ok = true := zf (zd kqp (by kernel_rfl) zg) (by kernel_rfl) (by kernel_rfl) (by kernel_rfl)
def dqbb : FD := { fn := 128, nb := 0, pre := ⟨[.sc (.s 0)], []⟩, post := ⟨[.sc (.b 0)], []⟩, sh := false, cuts := [⟨2, [0, 5, 6], ⟨[.sc (.s 0), .sc (.i .i64 1), .sc (.i .i64 2)], []⟩⟩] }
noncomputable def Lqbb : Option Nat → Lv → Option Lv := Lim Try.prog [] dqbb Try.f128
theorem eqbb_i (a0 : ByteArray) : Lqbb none [.s a0] =
 Lqbb (some 2) [.s a0, .i (a0.size : Int), .i 0] := (zb _ _).trans (by kernel_rfl)
theorem eqbb_2 (a0 : ByteArray) (a1 a2 : Int) : Lqbb (some 2) [.s a0, .i a1, .i a2] =
 cond (decide (a2 < a1)) (
 cond (inb a2 a0.size) (
 cond (decide ((byteAt a0 a2.toNat) < 33)) (
 some [.b false]) (
 cond (inb a2 a0.size) (
 cond (decide (126 < (byteAt a0 a2.toNat))) (
 some [.b false]) (
 Lqbb (some 2) [.s a0, .i a1, .i (IntKind.i64.wrap (a2 + 1))])) (
 none))) (
 none)) (
 cond (decide (1 ≤ (a0.size : Int))) (
 some [.b (decide ((a0.size : Int) ≤ 40))]) (
 some [.b false])) := (zb _ _).trans (by kernel_rfl)
theorem kqbb : SigOk Try.prog (dqbb.sig (Lqbb none)) ∧ (dqbb.sig (Lqbb none)).ok = true := zf zg (by kernel_rfl) (by kernel_rfl) (by kernel_rfl)
def dqby : FD := { fn := 166, nb := 0, pre := ⟨[.sc (.i .i64 0)], []⟩, post := ⟨[.sc (.b 0)], []⟩, sh := false, cuts := [] }
noncomputable def Lqby : Option Nat → Lv → Option Lv := Lim Try.prog [] dqby Try.f166
theorem eqby_i (a0 : Int) : Lqby none [.i a0] =
 cond (a0 == 2) (
 some [.b true]) (
 cond (a0 == 4) (
 some [.b true]) (
 some [.b (a0 == 7)])) := (zb _ _).trans (by kernel_rfl)
theorem kqby : SigOk Try.prog (dqby.sig (Lqby none)) ∧ (dqby.sig (Lqby none)).ok = true := zf zg (by kernel_rfl) (by kernel_rfl) (by kernel_rfl)
def dqbz : FD := { fn := 167, nb := 0, pre := ⟨[.sc (.i .i64 0)], []⟩, post := ⟨[.sc (.b 0)], []⟩, sh := false, cuts := [] }
noncomputable def Lqbz : Option Nat → Lv → Option Lv := Lim Try.prog [] dqbz Try.f167
theorem eqbz_i (a0 : Int) : Lqbz none [.i a0] =
 cond (a0 == 2) (
 some [.b true]) (
 some [.b (a0 == 3)]) := (zb _ _).trans (by kernel_rfl)
theorem kqbz : SigOk Try.prog (dqbz.sig (Lqbz none)) ∧ (dqbz.sig (Lqbz none)).ok = true := zf zg (by kernel_rfl) (by kernel_rfl) (by kernel_rfl)
end KV
end
section
set_option maxRecDepth 100000
namespace KV
open Go Go.Eng Go.Proofs
def dqc : FD := { fn := 113, nb := 0, pre := ⟨[.ag [.i .i64 0, .s 1, .s 2, .i .i64 3, .s 4, .fz 9 false 5], .sc (.i .i64 6)], []⟩, post := ⟨[.sc (.b 0)], []⟩, sh := false, cuts := [⟨5, [1, 2], ⟨[.sc (.i .i64 0), .sc (.pt 0 0)], [.bx [.i .i64 1, .s 2, .s 3, .i .i64 4, .s 5, .fz 9 false 6]]⟩⟩, ⟨7, [1, 2], ⟨[.sc (.i .i64 0), .sc (.pt 0 0)], [.bx [.i .i64 1, .s 2, .s 3, .i .i64 4, .s 5, .fz 9 false 6]]⟩⟩, ⟨13, [1, 2, 5, 6, 62], ⟨[.sc (.i .i64 0), .sc (.pt 0 0), .sc (.i .i64 1), .sc (.i .i64 2), .sc (.i .i64 3)], [.bx [.i .i64 4, .s 5, .s 6, .i .i64 7, .s 8, .fz 9 false 9]]⟩⟩, ⟨15, [1, 2, 5, 6], ⟨[.sc (.i .i64 0), .sc (.pt 0 0), .sc (.i .i64 1), .sc (.i .i64 2)], [.bx [.i .i64 3, .s 4, .s 5, .i .i64 6, .s 7, .fz 9 false 8]]⟩⟩] }
noncomputable def Lqc : Option Nat → Lv → Option Lv := Lim Try.prog [dqp.sig (Lqp none), dqv.sig (Lqv none), dqbb.sig (Lqbb none), dqby.sig (Lqby none), dqbz.sig (Lqbz none)] dqc Try.f113
theorem eqc_i (a0 : Int) (a1 a2 : ByteArray) (a3 : Int) (a4 : ByteArray) (a5 : Rw) (a6 : Int) : Lqc none [.i a0, .s a1, .s a2, .i a3, .s a4, .l a5, .i a6] =
 cond (decide (a0 < 1)) (
 some [.b false]) (
 cond (decide (7 < a0)) (
 some [.b false]) (
 (Lqp none [.i a6]).bind fun y1 =>
 cond (!(g y1 0).bool) (
 some [.b false]) (
 (Lqby none [.i a0]).bind fun y2 =>
 cond ((g y2 0).bool) (
 cond ((a1.size : Int) != a6) (
 some [.b false]) (
 (Lqby none [.i a0]).bind fun y3 =>
 cond (!(g y3 0).bool) (
 cond (!Eng.seq a1 (⟨#[]⟩ : ByteArray)) (
 some [.b false]) (
 Lqc (some 5) [.i a6, .i a0, .s a1, .s a2, .i a3, .s a4, .l a5])) (
 Lqc (some 5) [.i a6, .i a0, .s a1, .s a2, .i a3, .s a4, .l a5]))) (
 (Lqby none [.i a0]).bind fun y4 =>
 cond (!(g y4 0).bool) (
 cond (!Eng.seq a1 (⟨#[]⟩ : ByteArray)) (
 some [.b false]) (
 Lqc (some 5) [.i a6, .i a0, .s a1, .s a2, .i a3, .s a4, .l a5])) (
 Lqc (some 5) [.i a6, .i a0, .s a1, .s a2, .i a3, .s a4, .l a5]))))) := (zb _ _).trans (by kernel_rfl)
theorem eqc_5 (a0 a1 : Int) (a2 a3 : ByteArray) (a4 : Int) (a5 : ByteArray) (a6 : Rw) : Lqc (some 5) [.i a0, .i a1, .s a2, .s a3, .i a4, .s a5, .l a6] =
 (Lqbz none [.i a1]).bind fun y1 =>
 cond ((g y1 0).bool) (
 (Lqbb none [.s a3]).bind fun y2 =>
 cond (!(g y2 0).bool) (
 some [.b false]) (
 (Lqbz none [.i a1]).bind fun y3 =>
 cond (!(g y3 0).bool) (
 cond (!Eng.seq a3 (⟨#[]⟩ : ByteArray)) (
 some [.b false]) (
 Lqc (some 7) [.i a0, .i a1, .s a2, .s a3, .i a4, .s a5, .l a6])) (
 Lqc (some 7) [.i a0, .i a1, .s a2, .s a3, .i a4, .s a5, .l a6]))) (
 (Lqbz none [.i a1]).bind fun y4 =>
 cond (!(g y4 0).bool) (
 cond (!Eng.seq a3 (⟨#[]⟩ : ByteArray)) (
 some [.b false]) (
 Lqc (some 7) [.i a0, .i a1, .s a2, .s a3, .i a4, .s a5, .l a6])) (
 Lqc (some 7) [.i a0, .i a1, .s a2, .s a3, .i a4, .s a5, .l a6])) := (zb _ _).trans (by kernel_rfl)
theorem eqc_7 (a0 a1 : Int) (a2 a3 : ByteArray) (a4 : Int) (a5 : ByteArray) (a6 : Rw) : Lqc (some 7) [.i a0, .i a1, .s a2, .s a3, .i a4, .s a5, .l a6] =
 cond (a1 == 1) (
 cond (a1 == 1) (
 Lqc (some 15) [.i a0, .i 1, .i 100000, .i a1, .s a2, .s a3, .i a4, .s a5, .l a6]) (
 Lqc (some 13) [.i a0, .i 0, .i 0, .i a1, .i a1, .s a2, .s a3, .i a4, .s a5, .l a6])) (
 cond (a1 == 4) (
 cond (a1 == 4) (
 Lqc (some 15) [.i a0, .i 1, .i 100000, .i a1, .s a2, .s a3, .i a4, .s a5, .l a6]) (
 Lqc (some 13) [.i a0, .i 0, .i 0, .i a1, .i a1, .s a2, .s a3, .i a4, .s a5, .l a6])) (
 cond (a1 == 6) (
 Lqc (some 15) [.i a0, .i 1, .i 100000, .i a1, .s a2, .s a3, .i a4, .s a5, .l a6]) (
 Lqc (some 13) [.i a0, .i 0, .i 0, .i a1, .i a1, .s a2, .s a3, .i a4, .s a5, .l a6]))) := (zb _ _).trans (by kernel_rfl)
theorem eqc_13 (a0 a1 a2 a3 a4 : Int) (a5 a6 : ByteArray) (a7 : Int) (a8 : ByteArray) (a9 : Rw) : Lqc (some 13) [.i a0, .i a1, .i a2, .i a3, .i a4, .s a5, .s a6, .i a7, .s a8, .l a9] =
 cond (a3 == 5) (
 Lqc (some 15) [.i a0, .i 1, .i 1000000000, .i a4, .s a5, .s a6, .i a7, .s a8, .l a9]) (
 Lqc (some 15) [.i a0, .i a1, .i a2, .i a4, .s a5, .s a6, .i a7, .s a8, .l a9]) := (zb _ _).trans (by kernel_rfl)
theorem eqc_15 (a0 a1 a2 a3 : Int) (a4 a5 : ByteArray) (a6 : Int) (a7 : ByteArray) (a8 : Rw) : Lqc (some 15) [.i a0, .i a1, .i a2, .i a3, .s a4, .s a5, .i a6, .s a7, .l a8] =
 cond (decide (a6 < a1)) (
 some [.b false]) (
 cond (decide (a2 < a6)) (
 some [.b false]) (
 cond (a3 == 1) (
 (Lqv none [.s a7, .l a8, .i a0]).bind fun y1 =>
 some [.b ((g y1 0).bool)]) (
 cond (Eng.seq a7 (⟨#[]⟩ : ByteArray)) (
 some [.b ((a8.length : Int) == 0)]) (
 some [.b false])))) := (zb _ _).trans (by kernel_rfl)
theorem kqc : SigOk Try.prog (dqc.sig (Lqc none)) ∧ (dqc.sig (Lqc none)).ok = true := zf (zd kqp (by kernel_rfl) (zd kqv (by kernel_rfl) (zd kqbb (by kernel_rfl) (zd kqby (by kernel_rfl) (zd kqbz (by kernel_rfl) zg))))) (by kernel_rfl) (by kernel_rfl) (by kernel_rfl)
def dqcf : FD := { fn := 171, nb := 0, pre := ⟨[.ag [], .sc (.fz 5 false 0)], []⟩, post := ⟨[.sc (.i .u32 0)], []⟩, sh := false, cuts := [] }
noncomputable def Lqcf : Option Nat → Lv → Option Lv := Lim Try.prog [] dqcf Try.f171
theorem eqcf_i (a0 : Rw) : Lqcf none [.l a0] =
 cond (inb 3 a0.length) (
 cond (inb 3 a0.length) (
 cond (inb 2 a0.length) (
 cond (inb 1 a0.length) (
 cond (inb 0 a0.length) (
 some [.i (IntKind.u32.wrap (BitVec.ofInt (IntKind.u32).bits (IntKind.u32.wrap (BitVec.ofInt (IntKind.u32).bits (IntKind.u32.wrap (BitVec.ofInt (IntKind.u32).bits (IntKind.u32.wrap ((rd a0 3 0).int)) ||| BitVec.ofInt (IntKind.u32).bits (IntKind.u32.wrap ((IntKind.u32.wrap ((rd a0 2 0).int)) * 2 ^ 8))).toNat) ||| BitVec.ofInt (IntKind.u32).bits (IntKind.u32.wrap ((IntKind.u32.wrap ((rd a0 1 0).int)) * 2 ^ 16))).toNat) ||| BitVec.ofInt (IntKind.u32).bits (IntKind.u32.wrap ((IntKind.u32.wrap ((rd a0 0 0).int)) * 2 ^ 24))).toNat)]) (
 none)) (
 none)) (
 none)) (
 none)) (
 none) := (zb _ _).trans (by kernel_rfl)
theorem kqcf : SigOk Try.prog (dqcf.sig (Lqcf none)) ∧ (dqcf.sig (Lqcf none)).ok = true := zf zg (by kernel_rfl) (by kernel_rfl) (by kernel_rfl)
def dqbc : FD := { fn := 172, nb := 0, pre := ⟨[.sc (.s 0), .sc (.i .i64 1)], []⟩, post := ⟨[.tu [(true, [.s 0, .ow 0]), (false, [.b 1])]], [.rw 9 true 2]⟩, sh := false, cuts := [⟨6, [0, 1, 4, 6, 7], ⟨[.sc (.s 0), .sc (.i .i64 1), .sc (.pt 0 0), .sc (.pt 1 0), .sc (.i .i64 2)], [.bx [.s 3, .ow 2], .bx [.s 4, .ow 3], .rw 9 true 5, .rw 9 true 6]⟩⟩] }
noncomputable def Lqbc : Option Nat → Lv → Option Lv := Lim Try.prog [dqp.sig (Lqp none), dqv.sig (Lqv none)] dqbc Try.f172
theorem eqbc_i (a0 : ByteArray) (a1 : Int) : Lqbc none [.s a0, .i a1] =
 (Lqp none [.i a1]).bind fun y1 =>
 cond (!(g y1 0).bool) (
 some [.s (⟨#[]⟩ : ByteArray), .b false, .l []]) (
 cond (Eng.seq a0 (⟨#[]⟩ : ByteArray)) (
 some [.s (⟨#[]⟩ : ByteArray), .b false, .l []]) (
 cond (inb 0 a0.size) (
 cond (decide ((a0.size : Int) < (IntKind.i64.wrap (1 + (IntKind.i64.wrap ((IntKind.i64.wrap (byteAt a0 0)) * a1)))))) (
 some [.s (⟨#[]⟩ : ByteArray), .b false, .l []]) (
 cond (inb 0 a0.size) (
 cond (decide (1 ≤ (a0.size : Int))) (
 Lqbc (some 6) [.s (a0.extract 1 a0.size), .i a1, .i (IntKind.i64.wrap (byteAt a0 0)), .s (⟨#[]⟩ : ByteArray), .s (⟨#[]⟩ : ByteArray), .l [], .l []]) (
 none)) (
 none))) (
 none))) := (zb _ _).trans (by kernel_rfl)
theorem eqbc_6 (a0 : ByteArray) (a1 a2 : Int) (a3 a4 : ByteArray) (a5 a6 : Rw) : Lqbc (some 6) [.s a0, .i a1, .i a2, .s a3, .s a4, .l a5, .l a6] =
 cond (decide (0 < a2)) (
 cond (decide (0 ≤ a1)) (
 cond (decide (a1 ≤ (a0.size : Int))) (
 cond (decide (a6.length + ([[.s (a0.extract 0 a1.toNat)]] : Rw).length ≤ most)) (
 cond (decide (0 ≤ a1)) (
 cond (decide (a1 ≤ (a0.size : Int))) (
 Lqbc (some 6) [.s (a0.extract a1.toNat a0.size), .i a1, .i (IntKind.i64.wrap (a2 - 1)), .s a3, .s a4, .l a5, .l (a6 ++ ([[.s (a0.extract 0 a1.toNat)]] : Rw))]) (
 none)) (
 none)) (
 none)) (
 none)) (
 none)) (
 (Lqv none [.s a0, .l a6, .i a1]).bind fun y1 =>
 cond (!(g y1 0).bool) (
 some [.s (⟨#[]⟩ : ByteArray), .b false, .l []]) (
 some [.s a0, .b true, .l a6])) := (zb _ _).trans (by kernel_rfl)
theorem kqbc : SigOk Try.prog (dqbc.sig (Lqbc none)) ∧ (dqbc.sig (Lqbc none)).ok = true := zf (zd kqp (by kernel_rfl) (zd kqv (by kernel_rfl) zg)) (by kernel_rfl) (by kernel_rfl) (by kernel_rfl)
def dqcg : FD := { fn := 146, nb := 0, pre := ⟨[.sc (.s 0), .sc (.i .i64 1)], []⟩, post := ⟨[.tu [(true, [.i .i64 0, .s 1, .s 2, .i .i64 3, .s 4, .ow 0]), (false, [.b 5])]], [.rw 9 true 6]⟩, sh := false, cuts := [] }
noncomputable def Lqcg : Option Nat → Lv → Option Lv := Lim Try.prog [dqp.sig (Lqp none), dqc.sig (Lqc none), dqcf.sig (Lqcf none), dqbc.sig (Lqbc none)] dqcg Try.f146
theorem eqcg_i (a0 : ByteArray) (a1 : Int) : Lqcg none [.s a0, .i a1] =
 cond (decide ((a0.size : Int) < 6)) (
 some [.i 0, .s (⟨#[]⟩ : ByteArray), .s (⟨#[]⟩ : ByteArray), .i 0, .s (⟨#[]⟩ : ByteArray), .b false, .l []]) (
 (Lqp none [.i a1]).bind fun y1 =>
 cond (!(g y1 0).bool) (
 some [.i 0, .s (⟨#[]⟩ : ByteArray), .s (⟨#[]⟩ : ByteArray), .i 0, .s (⟨#[]⟩ : ByteArray), .b false, .l []]) (
 cond (inb 5 a0.size) (
 cond (inb 0 a0.size) (
 cond (decide (5 ≤ (a0.size : Int))) (
 (Lqcf none [.l (rowsOf (a0.extract 1 5))]).bind fun y2 =>
 cond (decide (6 ≤ (a0.size : Int))) (
 cond (decide (((a0.extract 6 a0.size).size : Int) < (IntKind.i64.wrap (byteAt a0 5)))) (
 some [.i 0, .s (⟨#[]⟩ : ByteArray), .s (⟨#[]⟩ : ByteArray), .i 0, .s (⟨#[]⟩ : ByteArray), .b false, .l []]) (
 cond (decide (0 ≤ (IntKind.i64.wrap (byteAt a0 5)))) (
 cond (decide ((IntKind.i64.wrap (byteAt a0 5)) ≤ ((a0.extract 6 a0.size).size : Int))) (
 cond (decide (0 ≤ (IntKind.i64.wrap (byteAt a0 5)))) (
 cond (decide ((IntKind.i64.wrap (byteAt a0 5)) ≤ ((a0.extract 6 a0.size).size : Int))) (
 cond ((IntKind.i64.wrap (byteAt a0 0)) == 1) (
 (Lqbc none [.s ((a0.extract 6 a0.size).extract ((IntKind.i64.wrap (byteAt a0 5)).toNat) ((a0.extract 6 a0.size).size)), .i a1]).bind fun y3 =>
 cond (!(g y3 1).bool) (
 some [.i 0, .s (⟨#[]⟩ : ByteArray), .s (⟨#[]⟩ : ByteArray), .i 0, .s (⟨#[]⟩ : ByteArray), .b false, .l []]) (
 (Lqc none [.i (IntKind.i64.wrap (byteAt a0 0)), .s (⟨#[]⟩ : ByteArray), .s ((a0.extract 6 a0.size).extract 0 ((IntKind.i64.wrap (byteAt a0 5)).toNat)), .i (IntKind.i64.wrap ((g y2 0).int)), .s ((g y3 0).str), .l ((g y3 2).list), .i a1]).bind fun y4 =>
 cond (!(g y4 0).bool) (
 some [.i 0, .s (⟨#[]⟩ : ByteArray), .s (⟨#[]⟩ : ByteArray), .i 0, .s (⟨#[]⟩ : ByteArray), .b false, .l []]) (
 some [.i (IntKind.i64.wrap (byteAt a0 0)), .s (⟨#[]⟩ : ByteArray), .s ((a0.extract 6 a0.size).extract 0 ((IntKind.i64.wrap (byteAt a0 5)).toNat)), .i (IntKind.i64.wrap ((g y2 0).int)), .s ((g y3 0).str), .b true, .l ((g y3 2).list)]))) (
 (Lqc none [.i (IntKind.i64.wrap (byteAt a0 0)), .s ((a0.extract 6 a0.size).extract ((IntKind.i64.wrap (byteAt a0 5)).toNat) ((a0.extract 6 a0.size).size)), .s ((a0.extract 6 a0.size).extract 0 ((IntKind.i64.wrap (byteAt a0 5)).toNat)), .i (IntKind.i64.wrap ((g y2 0).int)), .s (⟨#[]⟩ : ByteArray), .l ([]), .i a1]).bind fun y5 =>
 cond (!(g y5 0).bool) (
 some [.i 0, .s (⟨#[]⟩ : ByteArray), .s (⟨#[]⟩ : ByteArray), .i 0, .s (⟨#[]⟩ : ByteArray), .b false, .l []]) (
 some [.i (IntKind.i64.wrap (byteAt a0 0)), .s ((a0.extract 6 a0.size).extract ((IntKind.i64.wrap (byteAt a0 5)).toNat) ((a0.extract 6 a0.size).size)), .s ((a0.extract 6 a0.size).extract 0 ((IntKind.i64.wrap (byteAt a0 5)).toNat)), .i (IntKind.i64.wrap ((g y2 0).int)), .s (⟨#[]⟩ : ByteArray), .b true, .l []]))) (
 none)) (
 none)) (
 none)) (
 none))) (
 none)) (
 none)) (
 none)) (
 none))) := (zb _ _).trans (by kernel_rfl)
theorem kqcg : SigOk Try.prog (dqcg.sig (Lqcg none)) ∧ (dqcg.sig (Lqcg none)).ok = true := zf (zd kqp (by kernel_rfl) (zd kqc (by kernel_rfl) (zd kqcf (by kernel_rfl) (zd kqbc (by kernel_rfl) zg)))) (by kernel_rfl) (by kernel_rfl) (by kernel_rfl)
def dqbo : FD := { fn := 91, nb := 0, pre := ⟨[.sc (.i .i64 0), .sc (.fz 9 false 1)], []⟩, post := ⟨[.tu [(true, [.i .i64 0, .i .i64 1, .i .i64 2, .i .i64 3, .ow 0, .ow 1, .ow 2]), (false, [.i .i64 4])]], [.dw 116 (some (3, 9)) 5, .dw 127 none 6, .dw 129 none 7]⟩, sh := false, cuts := [⟨3, [0, 4, 6, 13, 14, 15], ⟨[.sc (.i .i64 0), .sc (.pt 0 0), .sc (.pt 1 0), .sc (.fz 9 false 1), .sc (.i .i64 2), .sc (.i .i64 3)], [.bx [.i .i64 4, .i .i64 5, .i .i64 6, .i .i64 7, .ow 2, .ow 3, .ow 4], .bx [.i .i64 8, .i .i64 9, .i .i64 10, .i .i64 11, .ow 5, .ow 6, .ow 7], .dw 116 (some (3, 9)) 12, .rw 127 true 13, .rw 129 true 14, .dw 116 (some (3, 9)) 15, .dw 127 none 16, .dw 129 none 17]⟩⟩] }
noncomputable def Lqbo : Option Nat → Lv → Option Lv := Lim Try.prog [dqa.sig (Lqa none), dqcg.sig (Lqcg none)] dqbo Try.f91
theorem eqbo_i (a0 : Int) (a1 : Rw) : Lqbo none [.i a0, .l a1] =
 Lqbo (some 3) [.i a0, .l a1, .i (a1.length : Int), .i 0, .i 0, .i 0, .i 0, .i 0, .i a0, .i 0, .i 0, .i 0, .l [], .l [], .l [], .l [], .l [], .l []] := (zb _ _).trans (by kernel_rfl)
theorem eqbo_3 (a0 : Int) (a1 : Rw) (a2 a3 a4 a5 a6 a7 a8 a9 a10 a11 : Int) (a12 a13 a14 a15 a16 a17 : Rw) : Lqbo (some 3) [.i a0, .l a1, .i a2, .i a3, .i a4, .i a5, .i a6, .i a7, .i a8, .i a9, .i a10, .i a11, .l a12, .l a13, .l a14, .l a15, .l a16, .l a17] =
 cond (decide (a3 < a2)) (
 cond (inb a3 a1.length) (
 (Lqcg none [.s ((rd a1 a3.toNat 0).str), .i a0]).bind fun y1 =>
 cond (!(g y1 5).bool) (
 some [.i 0, .i 0, .i 0, .i 0, .i (IntKind.i64.wrap (a3 + 1)), .l [], .l [], .l []]) (
 (Lqa none [.i ((g y1 0).int), .s ((g y1 1).str), .s ((g y1 2).str), .i ((g y1 3).int), .s ((g y1 4).str), .l ((g y1 6).list), .i a8, .i a9, .i a10, .i a11, .l a15, .l a16, .l a17]).bind fun y2 =>
 cond ((g y2 0).int != 0) (
 some [.i 0, .i 0, .i 0, .i 0, .i (IntKind.i64.wrap (a3 + 1)), .l [], .l [], .l []]) (
 Lqbo (some 3) [.i a0, .l a1, .i a2, .i (IntKind.i64.wrap (a3 + 1)), .i a4, .i a5, .i a6, .i a7, .i ((g y2 9).int), .i ((g y2 10).int), .i ((g y2 11).int), .i ((g y2 12).int), .l a12, .l a13, .l a14, .l ((g y2 16).list), .l ((g y2 17).list), .l ((g y2 18).list)]))) (
 none)) (
 some [.i a8, .i a9, .i a10, .i a11, .i 0, .l a15, .l a16, .l a17]) := (zb _ _).trans (by kernel_rfl)
theorem kqbo : SigOk Try.prog (dqbo.sig (Lqbo none)) ∧ (dqbo.sig (Lqbo none)).ok = true := zf (zd kqa (by kernel_rfl) (zd kqcg (by kernel_rfl) zg)) (by kernel_rfl) (by kernel_rfl) (by kernel_rfl)
def dqch : FD := { fn := 154, nb := 0, pre := ⟨[.sc (.s 0)], []⟩, post := ⟨[.sc (.b 0)], []⟩, sh := false, cuts := [] }
noncomputable def Lqch : Option Nat → Lv → Option Lv := Lim Try.prog [] dqch Try.f154
theorem eqch_i (a0 : ByteArray) : Lqch none [.s a0] =
 some [.b (decide ((a0.size : Int) ≤ 5000))] := (zb _ _).trans (by kernel_rfl)
theorem kqch : SigOk Try.prog (dqch.sig (Lqch none)) ∧ (dqch.sig (Lqch none)).ok = true := zf zg (by kernel_rfl) (by kernel_rfl) (by kernel_rfl)
def dqi : FD := { fn := 101, nb := 0, pre := ⟨[.ag [.fz 9 false 0, .fz 9 false 1]], []⟩, post := ⟨[.sc (.b 0)], []⟩, sh := false, cuts := [⟨2, [1, 11, 12, 13], ⟨[.sc (.pt 0 0), .sc (.ow 1), .sc (.i .i64 0), .sc (.i .i64 1)], [.bx [.fz 9 false 2, .fz 9 false 3], .rw 28 false 4]⟩⟩, ⟨5, [1, 11, 12, 13, 17, 18, 19], ⟨[.sc (.pt 0 0), .sc (.ow 1), .sc (.i .i64 0), .sc (.i .i64 1), .sc (.fz 9 false 2), .sc (.i .i64 3), .sc (.i .i64 4)], [.bx [.fz 9 false 5, .fz 9 false 6], .rw 28 false 7]⟩⟩] }
noncomputable def Lqi : Option Nat → Lv → Option Lv := Lim Try.prog [dqch.sig (Lqch none)] dqi Try.f101
theorem eqi_i (a0 a1 : Rw) : Lqi none [.l a0, .l a1] =
 Lqi (some 2) [.i (([[.l a0], [.l a1]] : Rw).length : Int), .i 0, .l a0, .l a1, .l ([[.l a0], [.l a1]] : Rw)] := (zb _ _).trans (by kernel_rfl)
theorem eqi_2 (a0 a1 : Int) (a2 a3 a4 : Rw) : Lqi (some 2) [.i a0, .i a1, .l a2, .l a3, .l a4] =
 cond (decide (a1 < a0)) (
 cond (inb a1 a4.length) (
 Lqi (some 5) [.i a0, .i a1, .l ((rd a4 a1.toNat 0).list), .i (((rd a4 a1.toNat 0).list).length : Int), .i 0, .l a2, .l a3, .l a4]) (
 none)) (
 some [.b (decide ((IntKind.i64.wrap ((a2.length : Int) + (a3.length : Int))) ≤ 4000))]) := (zb _ _).trans (by kernel_rfl)
theorem eqi_5 (a0 a1 : Int) (a2 : Rw) (a3 a4 : Int) (a5 a6 a7 : Rw) : Lqi (some 5) [.i a0, .i a1, .l a2, .i a3, .i a4, .l a5, .l a6, .l a7] =
 cond (decide (a4 < a3)) (
 cond (inb a4 a2.length) (
 (Lqch none [.s ((rd a2 a4.toNat 0).str)]).bind fun y1 =>
 cond (!(g y1 0).bool) (
 some [.b false]) (
 Lqi (some 5) [.i a0, .i a1, .l a2, .i a3, .i (IntKind.i64.wrap (a4 + 1)), .l a5, .l a6, .l a7])) (
 none)) (
 Lqi (some 2) [.i a0, .i (IntKind.i64.wrap (a1 + 1)), .l a5, .l a6, .l a7]) := (zb _ _).trans (by kernel_rfl)
theorem kqi : SigOk Try.prog (dqi.sig (Lqi none)) ∧ (dqi.sig (Lqi none)).ok = true := zf (zd kqch (by kernel_rfl) zg) (by kernel_rfl) (by kernel_rfl) (by kernel_rfl)
def dqbr : FD := { fn := 152, nb := 0, pre := ⟨[.sc (.fz 9 false 0)], []⟩, post := ⟨[.sc (.ow 0)], [.rw 9 true 0]⟩, sh := false, cuts := [] }
noncomputable def Lqbr : Option Nat → Lv → Option Lv := Lim Try.prog [] dqbr Try.f152
theorem eqbr_i (a0 : Rw) : Lqbr none [.l a0] =
 cond (decide (a0.length ≤ most)) (
 some [.l a0]) (
 none) := (zb _ _).trans (by kernel_rfl)
theorem kqbr : SigOk Try.prog (dqbr.sig (Lqbr none)) ∧ (dqbr.sig (Lqbr none)).ok = true := zf zg (by kernel_rfl) (by kernel_rfl) (by kernel_rfl)
def dqci : FD := { fn := 102, nb := 0, pre := ⟨[.ag [.fz 9 false 0, .fz 9 false 1]], []⟩, post := ⟨[.sc (.ow 0)], [.rw 9 true 0]⟩, sh := false, cuts := [] }
noncomputable def Lqci : Option Nat → Lv → Option Lv := Lim Try.prog [dqbr.sig (Lqbr none)] dqci Try.f102
theorem eqci_i (a0 a1 : Rw) : Lqci none [.l a0, .l a1] =
 (Lqbr none [.l a0]).bind fun y1 =>
 cond (decide (((g y1 0).list).length + a1.length ≤ most)) (
 some [.l ((g y1 0).list ++ a1)]) (
 none) := (zb _ _).trans (by kernel_rfl)
theorem kqci : SigOk Try.prog (dqci.sig (Lqci none)) ∧ (dqci.sig (Lqci none)).ok = true := zf (zd kqbr (by kernel_rfl) zg) (by kernel_rfl) (by kernel_rfl) (by kernel_rfl)
def dqcj : FD := { fn := 103, nb := 0, pre := ⟨[.ag [.fz 9 false 0, .fz 9 false 1]], []⟩, post := ⟨[.ag [.ow 0, .ow 1]], [.rw 9 true 0, .rw 9 true 1]⟩, sh := false, cuts := [] }
noncomputable def Lqcj : Option Nat → Lv → Option Lv := Lim Try.prog [dqbr.sig (Lqbr none)] dqcj Try.f103
theorem eqcj_i (a0 a1 : Rw) : Lqcj none [.l a0, .l a1] =
 (Lqbr none [.l a0]).bind fun y1 =>
 (Lqbr none [.l a1]).bind fun y2 =>
 some [.l ((g y1 0).list), .l ((g y2 0).list)] := (zb _ _).trans (by kernel_rfl)
theorem kqcj : SigOk Try.prog (dqcj.sig (Lqcj none)) ∧ (dqcj.sig (Lqcj none)).ok = true := zf (zd kqbr (by kernel_rfl) zg) (by kernel_rfl) (by kernel_rfl) (by kernel_rfl)
def dqb0 : FD := { fn := 44, nb := 0, pre := ⟨[.sc (.i .i64 0), .sc (.i .i64 1), .ag [.fz 9 false 2, .fz 9 false 3]], []⟩, post := ⟨[.tu [(true, [.i .i64 0, .i .i64 1, .ow 0, .ow 1, .i .i64 2, .i .i64 3, .i .i64 4, .i .i64 5, .ow 2, .ow 3, .ow 4, .i .i64 6, .ow 5, .ow 6, .i .i64 7, .i .i64 8, .i .i64 9]), (false, [.i .i64 10])]], [.rw 9 true 11, .rw 9 true 12, .dw 116 (some (3, 9)) 13, .dw 127 none 14, .dw 129 none 15, .rw 9 true 16, .rw 9 true 17]⟩, sh := false, cuts := [] }
noncomputable def Lqb0 : Option Nat → Lv → Option Lv := Lim Try.prog [dqp.sig (Lqp none), dqbo.sig (Lqbo none), dqi.sig (Lqi none), dqci.sig (Lqci none), dqcj.sig (Lqcj none)] dqb0 Try.f44
theorem eqb0_i (a0 a1 : Int) (a2 a3 : Rw) : Lqb0 none [.i a0, .i a1, .l a2, .l a3] =
 (Lqp none [.i a0]).bind fun y1 =>
 cond (!(g y1 0).bool) (
 some [.i 0, .i 0, .i 0, .i 0, .i 0, .i 0, .i 0, .i 0, .i 0, .i 0, .i 1, .l [], .l [], .l [], .l [], .l [], .l [], .l []]) (
 cond (decide (a1 < 0)) (
 some [.i 0, .i 0, .i 0, .i 0, .i 0, .i 0, .i 0, .i 0, .i 0, .i 0, .i 1, .l [], .l [], .l [], .l [], .l [], .l [], .l []]) (
 cond (decide (1000000 < a1)) (
 some [.i 0, .i 0, .i 0, .i 0, .i 0, .i 0, .i 0, .i 0, .i 0, .i 0, .i 1, .l [], .l [], .l [], .l [], .l [], .l [], .l []]) (
 (Lqi none [.l a2, .l a3]).bind fun y2 =>
 cond (!(g y2 0).bool) (
 some [.i 0, .i 0, .i 0, .i 0, .i 0, .i 0, .i 0, .i 0, .i 0, .i 0, .i 1, .l [], .l [], .l [], .l [], .l [], .l [], .l []]) (
 (Lqci none [.l a2, .l a3]).bind fun y3 =>
 (Lqbo none [.i a0, .l ((g y3 0).list)]).bind fun y4 =>
 cond (decide (0 < (g y4 4).int)) (
 some [.i 0, .i 0, .i 0, .i 0, .i 0, .i 0, .i 0, .i 0, .i 0, .i 0, .i 2, .l [], .l [], .l [], .l [], .l [], .l [], .l []]) (
 (Lqcj none [.l a2, .l a3]).bind fun y5 =>
 some [.i a0, .i a1, .i ((g y4 0).int), .i ((g y4 1).int), .i ((g y4 2).int), .i ((g y4 3).int), .i 0, .i 0, .i 0, .i 0, .i 0, .l ((g y5 0).list), .l ((g y5 1).list), .l ((g y4 5).list), .l ((g y4 6).list), .l ((g y4 7).list), .l [], .l []]))))) := (zb _ _).trans (by kernel_rfl)
theorem kqb0 : SigOk Try.prog (dqb0.sig (Lqb0 none)) ∧ (dqb0.sig (Lqb0 none)).ok = true := zf (zd kqp (by kernel_rfl) (zd kqbo (by kernel_rfl) (zd kqi (by kernel_rfl) (zd kqci (by kernel_rfl) (zd kqcj (by kernel_rfl) zg))))) (by kernel_rfl) (by kernel_rfl) (by kernel_rfl)
def dqq : FD := { fn := 15, nb := 0, pre := ⟨[.sc (.fz 9 false 0), .sc (.fz 9 false 1)], []⟩, post := ⟨[.sc (.b 0)], []⟩, sh := false, cuts := [⟨4, [0, 1, 5], ⟨[.sc (.fz 9 false 0), .sc (.fz 9 false 1), .sc (.i .i64 2)], []⟩⟩] }
noncomputable def Lqq : Option Nat → Lv → Option Lv := Lim Try.prog [] dqq Try.f15
theorem eqq_i (a0 a1 : Rw) : Lqq none [.l a0, .l a1] =
 cond ((a0.length : Int) != (a1.length : Int)) (
 some [.b false]) (
 Lqq (some 4) [.l a0, .l a1, .i 0]) := (zb _ _).trans (by kernel_rfl)
theorem eqq_4 (a0 a1 : Rw) (a2 : Int) : Lqq (some 4) [.l a0, .l a1, .i a2] =
 cond (decide (a2 < (a0.length : Int))) (
 cond (inb a2 a0.length) (
 cond (inb a2 a1.length) (
 cond (!Eng.seq ((rd a0 a2.toNat 0).str) ((rd a1 a2.toNat 0).str)) (
 some [.b false]) (
 Lqq (some 4) [.l a0, .l a1, .i (IntKind.i64.wrap (a2 + 1))])) (
 none)) (
 none)) (
 some [.b true]) := (zb _ _).trans (by kernel_rfl)
theorem kqq : SigOk Try.prog (dqq.sig (Lqq none)) ∧ (dqq.sig (Lqq none)).ok = true := zf zg (by kernel_rfl) (by kernel_rfl) (by kernel_rfl)
def dqbq : FD := { fn := 46, nb := 0, pre := ⟨[.ag [.fz 9 false 0, .fz 9 false 1], .ag [.fz 9 false 2, .fz 9 false 3]], []⟩, post := ⟨[.sc (.b 0)], []⟩, sh := false, cuts := [] }
noncomputable def Lqbq : Option Nat → Lv → Option Lv := Lim Try.prog [dqq.sig (Lqq none)] dqbq Try.f46
theorem eqbq_i (a0 a1 a2 a3 : Rw) : Lqbq none [.l a0, .l a1, .l a2, .l a3] =
 (Lqq none [.l a0, .l a2]).bind fun y1 =>
 cond (!(g y1 0).bool) (
 some [.b false]) (
 (Lqq none [.l a1, .l a3]).bind fun y2 =>
 cond (!(g y2 0).bool) (
 some [.b false]) (
 some [.b true])) := (zb _ _).trans (by kernel_rfl)
theorem kqbq : SigOk Try.prog (dqbq.sig (Lqbq none)) ∧ (dqbq.sig (Lqbq none)).ok = true := zf (zd kqq (by kernel_rfl) zg) (by kernel_rfl) (by kernel_rfl) (by kernel_rfl)
def dqcu : FD := { fn := 114, nb := 0, pre := ⟨[.ag [.s 0, .fz 9 false 1], .ag [.s 2, .fz 9 false 3]], []⟩, post := ⟨[.sc (.b 0)], []⟩, sh := false, cuts := [] }
noncomputable def Lqcu : Option Nat → Lv → Option Lv := Lim Try.prog [dqq.sig (Lqq none)] dqcu Try.f114
theorem eqcu_i (a0 : ByteArray) (a1 : Rw) (a2 : ByteArray) (a3 : Rw) : Lqcu none [.s a0, .l a1, .s a2, .l a3] =
 cond (!Eng.seq a0 a2) (
 some [.b false]) (
 (Lqq none [.l a1, .l a3]).bind fun y1 =>
 cond (!(g y1 0).bool) (
 some [.b false]) (
 some [.b true])) := (zb _ _).trans (by kernel_rfl)
theorem kqcu : SigOk Try.prog (dqcu.sig (Lqcu none)) ∧ (dqcu.sig (Lqcu none)).ok = true := zf (zd kqq (by kernel_rfl) zg) (by kernel_rfl) (by kernel_rfl) (by kernel_rfl)
end KV
end
section
set_option maxRecDepth 100000
namespace KV
open Go Go.Eng Go.Proofs
def dqcv : FD := { fn := 129, nb := 0, pre := ⟨[.ag [.s 0, .i .i64 1, .s 2, .fz 9 false 3], .ag [.s 4, .i .i64 5, .s 6, .fz 9 false 7]], []⟩, post := ⟨[.sc (.b 0)], []⟩, sh := false, cuts := [] }
noncomputable def Lqcv : Option Nat → Lv → Option Lv := Lim Try.prog [dqcu.sig (Lqcu none)] dqcv Try.f129
theorem eqcv_i (a0 : ByteArray) (a1 : Int) (a2 : ByteArray) (a3 : Rw) (a4 : ByteArray) (a5 : Int) (a6 : ByteArray) (a7 : Rw) : Lqcv none [.s a0, .i a1, .s a2, .l a3, .s a4, .i a5, .s a6, .l a7] =
 cond (!Eng.seq a0 a4) (
 some [.b false]) (
 cond (a1 != a5) (
 some [.b false]) (
 (Lqcu none [.s a2, .l a3, .s a6, .l a7]).bind fun y1 =>
 cond (!(g y1 0).bool) (
 some [.b false]) (
 some [.b true]))) := (zb _ _).trans (by kernel_rfl)
theorem kqcv : SigOk Try.prog (dqcv.sig (Lqcv none)) ∧ (dqcv.sig (Lqcv none)).ok = true := zf (zd kqcu (by kernel_rfl) zg) (by kernel_rfl) (by kernel_rfl) (by kernel_rfl)
def dqbd : FD := { fn := 74, nb := 0, pre := ⟨[.sc (.fz 116 false 0), .sc (.fz 116 false 1)], []⟩, post := ⟨[.sc (.b 0)], []⟩, sh := false, cuts := [⟨4, [0, 1, 5], ⟨[.sc (.fz 116 false 0), .sc (.fz 116 false 1), .sc (.i .i64 2)], []⟩⟩] }
noncomputable def Lqbd : Option Nat → Lv → Option Lv := Lim Try.prog [dqcv.sig (Lqcv none)] dqbd Try.f74
theorem eqbd_i (a0 a1 : Rw) : Lqbd none [.l a0, .l a1] =
 cond ((a0.length : Int) != (a1.length : Int)) (
 some [.b false]) (
 Lqbd (some 4) [.l a0, .l a1, .i 0]) := (zb _ _).trans (by kernel_rfl)
theorem eqbd_4 (a0 a1 : Rw) (a2 : Int) : Lqbd (some 4) [.l a0, .l a1, .i a2] =
 cond (decide (a2 < (a0.length : Int))) (
 cond (inb a2 a0.length) (
 cond (inb a2 a1.length) (
 (Lqcv none [.s ((rd a0 a2.toNat 0).str), .i ((rd a0 a2.toNat 1).int), .s ((rd a0 a2.toNat 2).str), .l ((rd a0 a2.toNat 3).list), .s ((rd a1 a2.toNat 0).str), .i ((rd a1 a2.toNat 1).int), .s ((rd a1 a2.toNat 2).str), .l ((rd a1 a2.toNat 3).list)]).bind fun y1 =>
 cond (!(g y1 0).bool) (
 some [.b false]) (
 Lqbd (some 4) [.l a0, .l a1, .i (IntKind.i64.wrap (a2 + 1))])) (
 none)) (
 none)) (
 some [.b true]) := (zb _ _).trans (by kernel_rfl)
theorem kqbd : SigOk Try.prog (dqbd.sig (Lqbd none)) ∧ (dqbd.sig (Lqbd none)).ok = true := zf (zd kqcv (by kernel_rfl) zg) (by kernel_rfl) (by kernel_rfl) (by kernel_rfl)
def dqcw : FD := { fn := 130, nb := 0, pre := ⟨[.ag [.s 0, .s 1], .ag [.s 2, .s 3]], []⟩, post := ⟨[.sc (.b 0)], []⟩, sh := false, cuts := [] }
noncomputable def Lqcw : Option Nat → Lv → Option Lv := Lim Try.prog [] dqcw Try.f130
theorem eqcw_i (a0 a1 a2 a3 : ByteArray) : Lqcw none [.s a0, .s a1, .s a2, .s a3] =
 cond (!Eng.seq a0 a2) (
 some [.b false]) (
 cond (!Eng.seq a1 a3) (
 some [.b false]) (
 some [.b true])) := (zb _ _).trans (by kernel_rfl)
theorem kqcw : SigOk Try.prog (dqcw.sig (Lqcw none)) ∧ (dqcw.sig (Lqcw none)).ok = true := zf zg (by kernel_rfl) (by kernel_rfl) (by kernel_rfl)
def dqbe : FD := { fn := 75, nb := 0, pre := ⟨[.sc (.fz 127 false 0), .sc (.fz 127 false 1)], []⟩, post := ⟨[.sc (.b 0)], []⟩, sh := false, cuts := [⟨4, [0, 1, 5], ⟨[.sc (.fz 127 false 0), .sc (.fz 127 false 1), .sc (.i .i64 2)], []⟩⟩] }
noncomputable def Lqbe : Option Nat → Lv → Option Lv := Lim Try.prog [dqcw.sig (Lqcw none)] dqbe Try.f75
theorem eqbe_i (a0 a1 : Rw) : Lqbe none [.l a0, .l a1] =
 cond ((a0.length : Int) != (a1.length : Int)) (
 some [.b false]) (
 Lqbe (some 4) [.l a0, .l a1, .i 0]) := (zb _ _).trans (by kernel_rfl)
theorem eqbe_4 (a0 a1 : Rw) (a2 : Int) : Lqbe (some 4) [.l a0, .l a1, .i a2] =
 cond (decide (a2 < (a0.length : Int))) (
 cond (inb a2 a0.length) (
 cond (inb a2 a1.length) (
 (Lqcw none [.s ((rd a0 a2.toNat 0).str), .s ((rd a0 a2.toNat 1).str), .s ((rd a1 a2.toNat 0).str), .s ((rd a1 a2.toNat 1).str)]).bind fun y1 =>
 cond (!(g y1 0).bool) (
 some [.b false]) (
 Lqbe (some 4) [.l a0, .l a1, .i (IntKind.i64.wrap (a2 + 1))])) (
 none)) (
 none)) (
 some [.b true]) := (zb _ _).trans (by kernel_rfl)
theorem kqbe : SigOk Try.prog (dqbe.sig (Lqbe none)) ∧ (dqbe.sig (Lqbe none)).ok = true := zf (zd kqcw (by kernel_rfl) zg) (by kernel_rfl) (by kernel_rfl) (by kernel_rfl)
def dqcx : FD := { fn := 131, nb := 0, pre := ⟨[.ag [.i .i64 0, .s 1, .i .i64 2], .ag [.i .i64 3, .s 4, .i .i64 5]], []⟩, post := ⟨[.sc (.b 0)], []⟩, sh := false, cuts := [] }
noncomputable def Lqcx : Option Nat → Lv → Option Lv := Lim Try.prog [] dqcx Try.f131
theorem eqcx_i (a0 : Int) (a1 : ByteArray) (a2 a3 : Int) (a4 : ByteArray) (a5 : Int) : Lqcx none [.i a0, .s a1, .i a2, .i a3, .s a4, .i a5] =
 cond (a0 != a3) (
 some [.b false]) (
 cond (!Eng.seq a1 a4) (
 some [.b false]) (
 cond (a2 != a5) (
 some [.b false]) (
 some [.b true]))) := (zb _ _).trans (by kernel_rfl)
theorem kqcx : SigOk Try.prog (dqcx.sig (Lqcx none)) ∧ (dqcx.sig (Lqcx none)).ok = true := zf zg (by kernel_rfl) (by kernel_rfl) (by kernel_rfl)
def dqbf : FD := { fn := 76, nb := 0, pre := ⟨[.sc (.fz 129 false 0), .sc (.fz 129 false 1)], []⟩, post := ⟨[.sc (.b 0)], []⟩, sh := false, cuts := [⟨4, [0, 1, 5], ⟨[.sc (.fz 129 false 0), .sc (.fz 129 false 1), .sc (.i .i64 2)], []⟩⟩] }
noncomputable def Lqbf : Option Nat → Lv → Option Lv := Lim Try.prog [dqcx.sig (Lqcx none)] dqbf Try.f76
theorem eqbf_i (a0 a1 : Rw) : Lqbf none [.l a0, .l a1] =
 cond ((a0.length : Int) != (a1.length : Int)) (
 some [.b false]) (
 Lqbf (some 4) [.l a0, .l a1, .i 0]) := (zb _ _).trans (by kernel_rfl)
theorem eqbf_4 (a0 a1 : Rw) (a2 : Int) : Lqbf (some 4) [.l a0, .l a1, .i a2] =
 cond (decide (a2 < (a0.length : Int))) (
 cond (inb a2 a0.length) (
 cond (inb a2 a1.length) (
 (Lqcx none [.i ((rd a0 a2.toNat 0).int), .s ((rd a0 a2.toNat 1).str), .i ((rd a0 a2.toNat 2).int), .i ((rd a1 a2.toNat 0).int), .s ((rd a1 a2.toNat 1).str), .i ((rd a1 a2.toNat 2).int)]).bind fun y1 =>
 cond (!(g y1 0).bool) (
 some [.b false]) (
 Lqbf (some 4) [.l a0, .l a1, .i (IntKind.i64.wrap (a2 + 1))])) (
 none)) (
 none)) (
 some [.b true]) := (zb _ _).trans (by kernel_rfl)
theorem kqbf : SigOk Try.prog (dqbf.sig (Lqbf none)) ∧ (dqbf.sig (Lqbf none)).ok = true := zf (zd kqcx (by kernel_rfl) zg) (by kernel_rfl) (by kernel_rfl) (by kernel_rfl)
def dqb1 : FD := { fn := 16, nb := 0, pre := ⟨[.ag [.i .i64 0, .i .i64 1, .i .i64 2, .i .i64 3, .fz 116 false 4, .fz 127 false 5, .fz 129 false 6], .ag [.i .i64 7, .i .i64 8, .i .i64 9, .i .i64 10, .fz 116 false 11, .fz 127 false 12, .fz 129 false 13]], []⟩, post := ⟨[.sc (.b 0)], []⟩, sh := false, cuts := [] }
noncomputable def Lqb1 : Option Nat → Lv → Option Lv := Lim Try.prog [dqbd.sig (Lqbd none), dqbe.sig (Lqbe none), dqbf.sig (Lqbf none)] dqb1 Try.f16
theorem eqb1_i (a0 a1 a2 a3 : Int) (a4 a5 a6 : Rw) (a7 a8 a9 a10 : Int) (a11 a12 a13 : Rw) : Lqb1 none [.i a0, .i a1, .i a2, .i a3, .l a4, .l a5, .l a6, .i a7, .i a8, .i a9, .i a10, .l a11, .l a12, .l a13] =
 cond (a0 != a7) (
 some [.b false]) (
 cond (a1 != a8) (
 some [.b false]) (
 cond (a2 != a9) (
 some [.b false]) (
 cond (a3 != a10) (
 some [.b false]) (
 (Lqbd none [.l a4, .l a11]).bind fun y1 =>
 cond (!(g y1 0).bool) (
 some [.b false]) (
 (Lqbe none [.l a5, .l a12]).bind fun y2 =>
 cond (!(g y2 0).bool) (
 some [.b false]) (
 (Lqbf none [.l a6, .l a13]).bind fun y3 =>
 cond (!(g y3 0).bool) (
 some [.b false]) (
 some [.b true]))))))) := (zb _ _).trans (by kernel_rfl)
theorem kqb1 : SigOk Try.prog (dqb1.sig (Lqb1 none)) ∧ (dqb1.sig (Lqb1 none)).ok = true := zf (zd kqbd (by kernel_rfl) (zd kqbe (by kernel_rfl) (zd kqbf (by kernel_rfl) zg))) (by kernel_rfl) (by kernel_rfl) (by kernel_rfl)
def dqck : FD := { fn := 26, nb := 0, pre := ⟨[.ag [.i .i64 0, .fz 9 false 1, .fz 9 false 2, .i .i64 3, .i .i64 4, .i .i64 5], .ag [.i .i64 6, .fz 9 false 7, .fz 9 false 8, .i .i64 9, .i .i64 10, .i .i64 11]], []⟩, post := ⟨[.sc (.b 0)], []⟩, sh := false, cuts := [] }
noncomputable def Lqck : Option Nat → Lv → Option Lv := Lim Try.prog [dqq.sig (Lqq none)] dqck Try.f26
theorem eqck_i (a0 : Int) (a1 a2 : Rw) (a3 a4 a5 a6 : Int) (a7 a8 : Rw) (a9 a10 a11 : Int) : Lqck none [.i a0, .l a1, .l a2, .i a3, .i a4, .i a5, .i a6, .l a7, .l a8, .i a9, .i a10, .i a11] =
 cond (a0 != a6) (
 some [.b false]) (
 (Lqq none [.l a1, .l a7]).bind fun y1 =>
 cond (!(g y1 0).bool) (
 some [.b false]) (
 (Lqq none [.l a2, .l a8]).bind fun y2 =>
 cond (!(g y2 0).bool) (
 some [.b false]) (
 cond (a3 != a9) (
 some [.b false]) (
 cond (a4 != a10) (
 some [.b false]) (
 cond (a5 != a11) (
 some [.b false]) (
 some [.b true])))))) := (zb _ _).trans (by kernel_rfl)
theorem kqck : SigOk Try.prog (dqck.sig (Lqck none)) ∧ (dqck.sig (Lqck none)).ok = true := zf (zd kqq (by kernel_rfl) zg) (by kernel_rfl) (by kernel_rfl) (by kernel_rfl)
def dqb2 : FD := { fn := 45, nb := 0, pre := ⟨[.ag [.i .i64 0, .i .i64 1, .fz 9 false 2, .fz 9 false 3, .i .i64 4, .i .i64 5, .i .i64 6, .i .i64 7, .fz 116 false 8, .fz 127 false 9, .fz 129 false 10, .i .i64 11, .fz 9 false 12, .fz 9 false 13, .i .i64 14, .i .i64 15, .i .i64 16], .ag [.i .i64 17, .i .i64 18, .fz 9 false 19, .fz 9 false 20, .i .i64 21, .i .i64 22, .i .i64 23, .i .i64 24, .fz 116 false 25, .fz 127 false 26, .fz 129 false 27, .i .i64 28, .fz 9 false 29, .fz 9 false 30, .i .i64 31, .i .i64 32, .i .i64 33]], []⟩, post := ⟨[.sc (.b 0)], []⟩, sh := false, cuts := [] }
noncomputable def Lqb2 : Option Nat → Lv → Option Lv := Lim Try.prog [dqb1.sig (Lqb1 none), dqck.sig (Lqck none), dqbq.sig (Lqbq none)] dqb2 Try.f45
theorem eqb2_i (a0 a1 : Int) (a2 a3 : Rw) (a4 a5 a6 a7 : Int) (a8 a9 a10 : Rw) (a11 : Int) (a12 a13 : Rw) (a14 a15 a16 a17 a18 : Int) (a19 a20 : Rw) (a21 a22 a23 a24 : Int) (a25 a26 a27 : Rw) (a28 : Int) (a29 a30 : Rw) (a31 a32 a33 : Int) : Lqb2 none [.i a0, .i a1, .l a2, .l a3, .i a4, .i a5, .i a6, .i a7, .l a8, .l a9, .l a10, .i a11, .l a12, .l a13, .i a14, .i a15, .i a16, .i a17, .i a18, .l a19, .l a20, .i a21, .i a22, .i a23, .i a24, .l a25, .l a26, .l a27, .i a28, .l a29, .l a30, .i a31, .i a32, .i a33] =
 cond (a0 != a17) (
 some [.b false]) (
 cond (a1 != a18) (
 some [.b false]) (
 (Lqbq none [.l a2, .l a3, .l a19, .l a20]).bind fun y1 =>
 cond (!(g y1 0).bool) (
 some [.b false]) (
 (Lqb1 none [.i a4, .i a5, .i a6, .i a7, .l a8, .l a9, .l a10, .i a21, .i a22, .i a23, .i a24, .l a25, .l a26, .l a27]).bind fun y2 =>
 cond (!(g y2 0).bool) (
 some [.b false]) (
 (Lqck none [.i a11, .l a12, .l a13, .i a14, .i a15, .i a16, .i a28, .l a29, .l a30, .i a31, .i a32, .i a33]).bind fun y3 =>
 cond (!(g y3 0).bool) (
 some [.b false]) (
 some [.b true]))))) := (zb _ _).trans (by kernel_rfl)
theorem kqb2 : SigOk Try.prog (dqb2.sig (Lqb2 none)) ∧ (dqb2.sig (Lqb2 none)).ok = true := zf (zd kqb1 (by kernel_rfl) (zd kqck (by kernel_rfl) (zd kqbq (by kernel_rfl) zg))) (by kernel_rfl) (by kernel_rfl) (by kernel_rfl)
def dqb : FD := { fn := 80, nb := 0, pre := ⟨[.sc (.i .i64 0)], []⟩, post := ⟨[.sc (.s 0)], []⟩, sh := false, cuts := [⟨4, [0, 3], ⟨[.sc (.i .i64 0), .sc (.s 1)], []⟩⟩] }
noncomputable def Lqb : Option Nat → Lv → Option Lv := Lim Try.prog [] dqb Try.f80
theorem eqb_i (a0 : Int) : Lqb none [.i a0] =
 cond (decide (a0 ≤ 0)) (
 some [.s (⟨#[109, 48]⟩ : ByteArray)]) (
 Lqb (some 4) [.i a0, .s (⟨#[]⟩ : ByteArray)]) := (zb _ _).trans (by kernel_rfl)
theorem eqb_4 (a0 : Int) (a1 : ByteArray) : Lqb (some 4) [.i a0, .s a1] =
 cond (decide (0 < a0)) (
 cond (decide ((bytesOf ([[.i (IntKind.u8.wrap (IntKind.i64.wrap (48 + (a0.tmod 10))))]] : Rw)).size + a1.size ≤ most)) (
 Lqb (some 4) [.i (IntKind.i64.wrap (a0.tdiv 10)), .s ((bytesOf ([[.i (IntKind.u8.wrap (IntKind.i64.wrap (48 + (a0.tmod 10))))]] : Rw)) ++ a1)]) (
 none)) (
 cond (decide ((⟨#[109]⟩ : ByteArray).size + a1.size ≤ most)) (
 some [.s ((⟨#[109]⟩ : ByteArray) ++ a1)]) (
 none)) := (zb _ _).trans (by kernel_rfl)
theorem kqb : SigOk Try.prog (dqb.sig (Lqb none)) ∧ (dqb.sig (Lqb none)).ok = true := zf zg (by kernel_rfl) (by kernel_rfl) (by kernel_rfl)
def dqr : FD := { fn := 18, nb := 1, pre := ⟨[.sc (.ow 0), .sc (.i .i64 0)], [.rw 9 false 1]⟩, post := ⟨[.sc (.i .i64 0)], [.rw 9 false 1]⟩, sh := true, cuts := [⟨2, [0, 1, 5], ⟨[.sc (.ow 0), .sc (.i .i64 0), .sc (.i .i64 1)], [.rw 9 false 2]⟩⟩] }
noncomputable def Lqr : Option Nat → Lv → Option Lv := Lim Try.prog [dqb.sig (Lqb none)] dqr Try.f18
theorem eqr_i (a0 : Int) (a1 : Rw) : Lqr none [.i a0, .l a1] =
 Lqr (some 2) [.i a0, .i 0, .l a1] := (zb _ _).trans (by kernel_rfl)
theorem eqr_2 (a0 a1 : Int) (a2 : Rw) : Lqr (some 2) [.i a0, .i a1, .l a2] =
 cond (decide (a1 < (a2.length : Int))) (
 (Lqb none [.i a0]).bind fun y1 =>
 cond (inb a1 a2.length) (
 Lqr (some 2) [.i (IntKind.i64.wrap (a0 + 1)), .i (IntKind.i64.wrap (a1 + 1)), .l (wrs a2 a1.toNat 0 ([.s ((g y1 0).str)] : List C))]) (
 none)) (
 some [.i a0, .l a2]) := (zb _ _).trans (by kernel_rfl)
theorem kqr : SigOk Try.prog (dqr.sig (Lqr none)) ∧ (dqr.sig (Lqr none)).ok = true := zf (zd kqb (by kernel_rfl) zg) (by kernel_rfl) (by kernel_rfl) (by kernel_rfl)
def dqbv : FD := { fn := 47, nb := 2, pre := ⟨[.ag [.ow 0, .ow 1], .sc (.i .i64 0)], [.rw 9 false 1, .rw 9 false 2]⟩, post := ⟨[.sc (.i .i64 0)], [.rw 9 false 1, .rw 9 false 2]⟩, sh := true, cuts := [] }
noncomputable def Lqbv : Option Nat → Lv → Option Lv := Lim Try.prog [dqr.sig (Lqr none)] dqbv Try.f47
theorem eqbv_i (a0 : Int) (a1 a2 : Rw) : Lqbv none [.i a0, .l a1, .l a2] =
 (Lqr none [.i a0, .l a1]).bind fun y1 =>
 (Lqr none [.i ((g y1 0).int), .l a2]).bind fun y2 =>
 some [.i ((g y2 0).int), .l ((g y1 1).list), .l ((g y2 1).list)] := (zb _ _).trans (by kernel_rfl)
theorem kqbv : SigOk Try.prog (dqbv.sig (Lqbv none)) ∧ (dqbv.sig (Lqbv none)).ok = true := zf (zd kqr (by kernel_rfl) zg) (by kernel_rfl) (by kernel_rfl) (by kernel_rfl)
def dqbg : FD := { fn := 77, nb := 1, pre := ⟨[.sc (.ow 0), .sc (.i .i64 0)], [.dw 116 (some (3, 9)) 1]⟩, post := ⟨[.sc (.i .i64 0)], [.dw 116 (some (3, 9)) 1]⟩, sh := false, cuts := [⟨2, [0, 1, 5], ⟨[.sc (.ow 0), .sc (.i .i64 0), .sc (.i .i64 1)], [.dw 116 (some (3, 9)) 2]⟩⟩] }
noncomputable def Lqbg : Option Nat → Lv → Option Lv := Lim Try.prog [dqb.sig (Lqb none), dqr.sig (Lqr none)] dqbg Try.f77
theorem eqbg_i (a0 : Int) (a1 : Rw) : Lqbg none [.i a0, .l a1] =
 Lqbg (some 2) [.i a0, .i 0, .l a1] := (zb _ _).trans (by kernel_rfl)
theorem eqbg_2 (a0 a1 : Int) (a2 : Rw) : Lqbg (some 2) [.i a0, .i a1, .l a2] =
 cond (decide (a1 < (a2.length : Int))) (
 (Lqb none [.i a0]).bind fun y1 =>
 cond (inb a1 a2.length) (
 cond (inb a1 ((wrs a2 a1.toNat 0 ([.s ((g y1 0).str)] : List C)).length)) (
 (Lqb none [.i (IntKind.i64.wrap ((IntKind.i64.wrap (a0 + 1)) + 1))]).bind fun y2 =>
 cond (inb a1 ((wrs (wrs a2 a1.toNat 0 ([.s ((g y1 0).str)] : List C)) a1.toNat 1 ([.i (IntKind.i64.wrap (a0 + 1))] : List C)).length)) (
 cond (inb a1 ((wrs (wrs (wrs a2 a1.toNat 0 ([.s ((g y1 0).str)] : List C)) a1.toNat 1 ([.i (IntKind.i64.wrap (a0 + 1))] : List C)) a1.toNat 2 ([.s ((g y2 0).str)] : List C)).length)) (
 (Lqr none [.i (IntKind.i64.wrap ((IntKind.i64.wrap ((IntKind.i64.wrap (a0 + 1)) + 1)) + 1)), .l (rd (wrs (wrs (wrs a2 a1.toNat 0 ([.s ((g y1 0).str)] : List C)) a1.toNat 1 ([.i (IntKind.i64.wrap (a0 + 1))] : List C)) a1.toNat 2 ([.s ((g y2 0).str)] : List C)) a1.toNat 3).list]).bind fun y3 =>
 Lqbg (some 2) [.i ((g y3 0).int), .i (IntKind.i64.wrap (a1 + 1)), .l (wr (wrs (wrs (wrs a2 a1.toNat 0 ([.s ((g y1 0).str)] : List C)) a1.toNat 1 ([.i (IntKind.i64.wrap (a0 + 1))] : List C)) a1.toNat 2 ([.s ((g y2 0).str)] : List C)) a1.toNat 3 (C.l (g y3 1).list))]) (
 none)) (
 none)) (
 none)) (
 none)) (
 some [.i a0, .l a2]) := (zb _ _).trans (by kernel_rfl)
theorem kqbg : SigOk Try.prog (dqbg.sig (Lqbg none)) ∧ (dqbg.sig (Lqbg none)).ok = true := zf (zd kqb (by kernel_rfl) (zd kqr (by kernel_rfl) zg)) (by kernel_rfl) (by kernel_rfl) (by kernel_rfl)
def dqbh : FD := { fn := 78, nb := 1, pre := ⟨[.sc (.ow 0), .sc (.i .i64 0)], [.dw 127 none 1]⟩, post := ⟨[.sc (.i .i64 0)], [.dw 127 none 1]⟩, sh := false, cuts := [⟨2, [0, 1, 5], ⟨[.sc (.ow 0), .sc (.i .i64 0), .sc (.i .i64 1)], [.dw 127 none 2]⟩⟩] }
noncomputable def Lqbh : Option Nat → Lv → Option Lv := Lim Try.prog [dqb.sig (Lqb none)] dqbh Try.f78
theorem eqbh_i (a0 : Int) (a1 : Rw) : Lqbh none [.i a0, .l a1] =
 Lqbh (some 2) [.i a0, .i 0, .l a1] := (zb _ _).trans (by kernel_rfl)
theorem eqbh_2 (a0 a1 : Int) (a2 : Rw) : Lqbh (some 2) [.i a0, .i a1, .l a2] =
 cond (decide (a1 < (a2.length : Int))) (
 (Lqb none [.i a0]).bind fun y1 =>
 cond (inb a1 a2.length) (
 (Lqb none [.i (IntKind.i64.wrap (a0 + 1))]).bind fun y2 =>
 cond (inb a1 ((wrs a2 a1.toNat 0 ([.s ((g y1 0).str)] : List C)).length)) (
 Lqbh (some 2) [.i (IntKind.i64.wrap ((IntKind.i64.wrap (a0 + 1)) + 1)), .i (IntKind.i64.wrap (a1 + 1)), .l (wrs (wrs a2 a1.toNat 0 ([.s ((g y1 0).str)] : List C)) a1.toNat 1 ([.s ((g y2 0).str)] : List C))]) (
 none)) (
 none)) (
 some [.i a0, .l a2]) := (zb _ _).trans (by kernel_rfl)
theorem kqbh : SigOk Try.prog (dqbh.sig (Lqbh none)) ∧ (dqbh.sig (Lqbh none)).ok = true := zf (zd kqb (by kernel_rfl) zg) (by kernel_rfl) (by kernel_rfl) (by kernel_rfl)
end KV
end
section
set_option maxRecDepth 100000
namespace KV
open Go Go.Eng Go.Proofs
def dqbi : FD := { fn := 79, nb := 1, pre := ⟨[.sc (.ow 0), .sc (.i .i64 0)], [.dw 129 none 1]⟩, post := ⟨[.sc (.i .i64 0)], [.dw 129 none 1]⟩, sh := false, cuts := [⟨2, [0, 1, 5], ⟨[.sc (.ow 0), .sc (.i .i64 0), .sc (.i .i64 1)], [.dw 129 none 2]⟩⟩] }
noncomputable def Lqbi : Option Nat → Lv → Option Lv := Lim Try.prog [dqb.sig (Lqb none)] dqbi Try.f79
theorem eqbi_i (a0 : Int) (a1 : Rw) : Lqbi none [.i a0, .l a1] =
 Lqbi (some 2) [.i a0, .i 0, .l a1] := (zb _ _).trans (by kernel_rfl)
theorem eqbi_2 (a0 a1 : Int) (a2 : Rw) : Lqbi (some 2) [.i a0, .i a1, .l a2] =
 cond (decide (a1 < (a2.length : Int))) (
 cond (inb a1 a2.length) (
 (Lqb none [.i (IntKind.i64.wrap (a0 + 1))]).bind fun y1 =>
 cond (inb a1 ((wrs a2 a1.toNat 0 ([.i a0] : List C)).length)) (
 cond (inb a1 ((wrs (wrs a2 a1.toNat 0 ([.i a0] : List C)) a1.toNat 1 ([.s ((g y1 0).str)] : List C)).length)) (
 Lqbi (some 2) [.i (IntKind.i64.wrap ((IntKind.i64.wrap ((IntKind.i64.wrap (a0 + 1)) + 1)) + 1)), .i (IntKind.i64.wrap (a1 + 1)), .l (wrs (wrs (wrs a2 a1.toNat 0 ([.i a0] : List C)) a1.toNat 1 ([.s ((g y1 0).str)] : List C)) a1.toNat 2 ([.i (IntKind.i64.wrap ((IntKind.i64.wrap (a0 + 1)) + 1))] : List C))]) (
 none)) (
 none)) (
 none)) (
 some [.i a0, .l a2]) := (zb _ _).trans (by kernel_rfl)
theorem kqbi : SigOk Try.prog (dqbi.sig (Lqbi none)) ∧ (dqbi.sig (Lqbi none)).ok = true := zf (zd kqb (by kernel_rfl) zg) (by kernel_rfl) (by kernel_rfl) (by kernel_rfl)
def dqcl : FD := { fn := 17, nb := 3, pre := ⟨[.ag [.i .i64 0, .i .i64 1, .i .i64 2, .i .i64 3, .ow 0, .ow 1, .ow 2], .sc (.i .i64 4)], [.dw 116 (some (3, 9)) 5, .dw 127 none 6, .dw 129 none 7]⟩, post := ⟨[.sc (.i .i64 0)], [.dw 116 (some (3, 9)) 1, .dw 127 none 2, .dw 129 none 3]⟩, sh := false, cuts := [] }
noncomputable def Lqcl : Option Nat → Lv → Option Lv := Lim Try.prog [dqbg.sig (Lqbg none), dqbh.sig (Lqbh none), dqbi.sig (Lqbi none)] dqcl Try.f17
theorem eqcl_i (a0 a1 a2 a3 a4 : Int) (a5 a6 a7 : Rw) : Lqcl none [.i a0, .i a1, .i a2, .i a3, .i a4, .l a5, .l a6, .l a7] =
 (Lqbg none [.i a4, .l a5]).bind fun y1 =>
 (Lqbh none [.i ((g y1 0).int), .l a6]).bind fun y2 =>
 (Lqbi none [.i ((g y2 0).int), .l a7]).bind fun y3 =>
 some [.i ((g y3 0).int), .l ((g y1 1).list), .l ((g y2 1).list), .l ((g y3 1).list)] := (zb _ _).trans (by kernel_rfl)
theorem kqcl : SigOk Try.prog (dqcl.sig (Lqcl none)) ∧ (dqcl.sig (Lqcl none)).ok = true := zf (zd kqbg (by kernel_rfl) (zd kqbh (by kernel_rfl) (zd kqbi (by kernel_rfl) zg))) (by kernel_rfl) (by kernel_rfl) (by kernel_rfl)
def dqcm : FD := { fn := 27, nb := 2, pre := ⟨[.ag [.i .i64 0, .ow 0, .ow 1, .i .i64 1, .i .i64 2, .i .i64 3], .sc (.i .i64 4)], [.rw 9 false 5, .rw 9 false 6]⟩, post := ⟨[.sc (.i .i64 0)], [.rw 9 false 1, .rw 9 false 2]⟩, sh := true, cuts := [] }
noncomputable def Lqcm : Option Nat → Lv → Option Lv := Lim Try.prog [dqr.sig (Lqr none)] dqcm Try.f27
theorem eqcm_i (a0 a1 a2 a3 a4 : Int) (a5 a6 : Rw) : Lqcm none [.i a0, .i a1, .i a2, .i a3, .i a4, .l a5, .l a6] =
 (Lqr none [.i a4, .l a5]).bind fun y1 =>
 (Lqr none [.i ((g y1 0).int), .l a6]).bind fun y2 =>
 some [.i ((g y2 0).int), .l ((g y1 1).list), .l ((g y2 1).list)] := (zb _ _).trans (by kernel_rfl)
theorem kqcm : SigOk Try.prog (dqcm.sig (Lqcm none)) ∧ (dqcm.sig (Lqcm none)).ok = true := zf (zd kqr (by kernel_rfl) zg) (by kernel_rfl) (by kernel_rfl) (by kernel_rfl)
def dqcn : FD := { fn := 48, nb := 7, pre := ⟨[.ag [.i .i64 0, .i .i64 1, .ow 0, .ow 1, .i .i64 2, .i .i64 3, .i .i64 4, .i .i64 5, .ow 2, .ow 3, .ow 4, .i .i64 6, .ow 5, .ow 6, .i .i64 7, .i .i64 8, .i .i64 9], .sc (.i .i64 10)], [.rw 9 false 11, .rw 9 false 12, .dw 116 (some (3, 9)) 13, .dw 127 none 14, .dw 129 none 15, .rw 9 false 16, .rw 9 false 17]⟩, post := ⟨[.sc (.i .i64 0)], [.rw 9 false 1, .rw 9 false 2, .dw 116 (some (3, 9)) 3, .dw 127 none 4, .dw 129 none 5, .rw 9 false 6, .rw 9 false 7]⟩, sh := true, cuts := [] }
noncomputable def Lqcn : Option Nat → Lv → Option Lv := Lim Try.prog [dqcl.sig (Lqcl none), dqcm.sig (Lqcm none), dqbv.sig (Lqbv none)] dqcn Try.f48
theorem eqcn_i (a0 a1 a2 a3 a4 a5 a6 a7 a8 a9 a10 : Int) (a11 a12 a13 a14 a15 a16 a17 : Rw) : Lqcn none [.i a0, .i a1, .i a2, .i a3, .i a4, .i a5, .i a6, .i a7, .i a8, .i a9, .i a10, .l a11, .l a12, .l a13, .l a14, .l a15, .l a16, .l a17] =
 (Lqbv none [.i a10, .l a11, .l a12]).bind fun y1 =>
 (Lqcl none [.i a2, .i a3, .i a4, .i a5, .i ((g y1 0).int), .l a13, .l a14, .l a15]).bind fun y2 =>
 (Lqcm none [.i a6, .i a7, .i a8, .i a9, .i ((g y2 0).int), .l a16, .l a17]).bind fun y3 =>
 some [.i ((g y3 0).int), .l ((g y1 1).list), .l ((g y1 2).list), .l ((g y2 1).list), .l ((g y2 2).list), .l ((g y2 3).list), .l ((g y3 1).list), .l ((g y3 2).list)] := (zb _ _).trans (by kernel_rfl)
theorem kqcn : SigOk Try.prog (dqcn.sig (Lqcn none)) ∧ (dqcn.sig (Lqcn none)).ok = true := zf (zd kqcl (by kernel_rfl) (zd kqcm (by kernel_rfl) (zd kqbv (by kernel_rfl) zg))) (by kernel_rfl) (by kernel_rfl) (by kernel_rfl)
def dqs : FD := { fn := 19, nb := 0, pre := ⟨[.sc (.fz 9 false 0), .sc (.i .i64 1)], []⟩, post := ⟨[.sc (.i .i64 0)], []⟩, sh := false, cuts := [⟨2, [0, 1, 5], ⟨[.sc (.fz 9 false 0), .sc (.i .i64 1), .sc (.i .i64 2)], []⟩⟩] }
noncomputable def Lqs : Option Nat → Lv → Option Lv := Lim Try.prog [dqb.sig (Lqb none)] dqs Try.f19
theorem eqs_i (a0 : Rw) (a1 : Int) : Lqs none [.l a0, .i a1] =
 Lqs (some 2) [.l a0, .i a1, .i 0] := (zb _ _).trans (by kernel_rfl)
theorem eqs_2 (a0 : Rw) (a1 a2 : Int) : Lqs (some 2) [.l a0, .i a1, .i a2] =
 cond (decide (a2 < (a0.length : Int))) (
 cond (inb a2 a0.length) (
 (Lqb none [.i a1]).bind fun y1 =>
 cond (!Eng.seq ((rd a0 a2.toNat 0).str) ((g y1 0).str)) (
 some [.i (-1)]) (
 Lqs (some 2) [.l a0, .i (IntKind.i64.wrap (a1 + 1)), .i (IntKind.i64.wrap (a2 + 1))])) (
 none)) (
 some [.i a1]) := (zb _ _).trans (by kernel_rfl)
theorem kqs : SigOk Try.prog (dqs.sig (Lqs none)) ∧ (dqs.sig (Lqs none)).ok = true := zf (zd kqb (by kernel_rfl) zg) (by kernel_rfl) (by kernel_rfl) (by kernel_rfl)
def dqco : FD := { fn := 28, nb := 0, pre := ⟨[.ag [.i .i64 0, .fz 9 false 1, .fz 9 false 2, .i .i64 3, .i .i64 4, .i .i64 5], .sc (.i .i64 6)], []⟩, post := ⟨[.sc (.i .i64 0)], []⟩, sh := false, cuts := [] }
noncomputable def Lqco : Option Nat → Lv → Option Lv := Lim Try.prog [dqs.sig (Lqs none)] dqco Try.f28
theorem eqco_i (a0 : Int) (a1 a2 : Rw) (a3 a4 a5 a6 : Int) : Lqco none [.i a0, .l a1, .l a2, .i a3, .i a4, .i a5, .i a6] =
 (Lqs none [.l a1, .i a6]).bind fun y1 =>
 cond (decide ((g y1 0).int < 0)) (
 some [.i (-1)]) (
 (Lqs none [.l a2, .i ((g y1 0).int)]).bind fun y2 =>
 cond (decide ((g y2 0).int < 0)) (
 some [.i (-1)]) (
 some [.i ((g y2 0).int)])) := (zb _ _).trans (by kernel_rfl)
theorem kqco : SigOk Try.prog (dqco.sig (Lqco none)) ∧ (dqco.sig (Lqco none)).ok = true := zf (zd kqs (by kernel_rfl) zg) (by kernel_rfl) (by kernel_rfl) (by kernel_rfl)
def dqbj : FD := { fn := 147, nb := 0, pre := ⟨[.sc (.fz 116 false 0), .sc (.i .i64 1)], []⟩, post := ⟨[.sc (.i .i64 0)], []⟩, sh := false, cuts := [⟨2, [0, 1, 5], ⟨[.sc (.fz 116 false 0), .sc (.i .i64 1), .sc (.i .i64 2)], []⟩⟩] }
noncomputable def Lqbj : Option Nat → Lv → Option Lv := Lim Try.prog [dqb.sig (Lqb none), dqs.sig (Lqs none)] dqbj Try.f147
theorem eqbj_i (a0 : Rw) (a1 : Int) : Lqbj none [.l a0, .i a1] =
 Lqbj (some 2) [.l a0, .i a1, .i 0] := (zb _ _).trans (by kernel_rfl)
theorem eqbj_2 (a0 : Rw) (a1 a2 : Int) : Lqbj (some 2) [.l a0, .i a1, .i a2] =
 cond (decide (a2 < (a0.length : Int))) (
 cond (inb a2 a0.length) (
 (Lqb none [.i a1]).bind fun y1 =>
 cond (!Eng.seq ((rd a0 a2.toNat 0).str) ((g y1 0).str)) (
 some [.i (-1)]) (
 cond (inb a2 a0.length) (
 cond ((rd a0 a2.toNat 1).int != (IntKind.i64.wrap (a1 + 1))) (
 some [.i (-1)]) (
 cond (inb a2 a0.length) (
 (Lqb none [.i (IntKind.i64.wrap ((IntKind.i64.wrap (a1 + 1)) + 1))]).bind fun y2 =>
 cond (!Eng.seq ((rd a0 a2.toNat 2).str) ((g y2 0).str)) (
 some [.i (-1)]) (
 cond (inb a2 a0.length) (
 (Lqs none [.l ((rd a0 a2.toNat 3).list), .i (IntKind.i64.wrap ((IntKind.i64.wrap ((IntKind.i64.wrap (a1 + 1)) + 1)) + 1))]).bind fun y3 =>
 cond (decide ((g y3 0).int < 0)) (
 some [.i (-1)]) (
 Lqbj (some 2) [.l a0, .i ((g y3 0).int), .i (IntKind.i64.wrap (a2 + 1))])) (
 none))) (
 none))) (
 none))) (
 none)) (
 some [.i a1]) := (zb _ _).trans (by kernel_rfl)
theorem kqbj : SigOk Try.prog (dqbj.sig (Lqbj none)) ∧ (dqbj.sig (Lqbj none)).ok = true := zf (zd kqb (by kernel_rfl) (zd kqs (by kernel_rfl) zg)) (by kernel_rfl) (by kernel_rfl) (by kernel_rfl)
def dqbk : FD := { fn := 148, nb := 0, pre := ⟨[.sc (.fz 127 false 0), .sc (.i .i64 1)], []⟩, post := ⟨[.sc (.i .i64 0)], []⟩, sh := false, cuts := [⟨2, [0, 1, 5], ⟨[.sc (.fz 127 false 0), .sc (.i .i64 1), .sc (.i .i64 2)], []⟩⟩] }
noncomputable def Lqbk : Option Nat → Lv → Option Lv := Lim Try.prog [dqb.sig (Lqb none)] dqbk Try.f148
theorem eqbk_i (a0 : Rw) (a1 : Int) : Lqbk none [.l a0, .i a1] =
 Lqbk (some 2) [.l a0, .i a1, .i 0] := (zb _ _).trans (by kernel_rfl)
theorem eqbk_2 (a0 : Rw) (a1 a2 : Int) : Lqbk (some 2) [.l a0, .i a1, .i a2] =
 cond (decide (a2 < (a0.length : Int))) (
 cond (inb a2 a0.length) (
 (Lqb none [.i a1]).bind fun y1 =>
 cond (!Eng.seq ((rd a0 a2.toNat 0).str) ((g y1 0).str)) (
 some [.i (-1)]) (
 cond (inb a2 a0.length) (
 (Lqb none [.i (IntKind.i64.wrap (a1 + 1))]).bind fun y2 =>
 cond (!Eng.seq ((rd a0 a2.toNat 1).str) ((g y2 0).str)) (
 some [.i (-1)]) (
 Lqbk (some 2) [.l a0, .i (IntKind.i64.wrap ((IntKind.i64.wrap (a1 + 1)) + 1)), .i (IntKind.i64.wrap (a2 + 1))])) (
 none))) (
 none)) (
 some [.i a1]) := (zb _ _).trans (by kernel_rfl)
theorem kqbk : SigOk Try.prog (dqbk.sig (Lqbk none)) ∧ (dqbk.sig (Lqbk none)).ok = true := zf (zd kqb (by kernel_rfl) zg) (by kernel_rfl) (by kernel_rfl) (by kernel_rfl)
def dqbl : FD := { fn := 149, nb := 0, pre := ⟨[.sc (.fz 129 false 0), .sc (.i .i64 1)], []⟩, post := ⟨[.sc (.i .i64 0)], []⟩, sh := false, cuts := [⟨2, [0, 1, 5], ⟨[.sc (.fz 129 false 0), .sc (.i .i64 1), .sc (.i .i64 2)], []⟩⟩] }
noncomputable def Lqbl : Option Nat → Lv → Option Lv := Lim Try.prog [dqb.sig (Lqb none)] dqbl Try.f149
theorem eqbl_i (a0 : Rw) (a1 : Int) : Lqbl none [.l a0, .i a1] =
 Lqbl (some 2) [.l a0, .i a1, .i 0] := (zb _ _).trans (by kernel_rfl)
theorem eqbl_2 (a0 : Rw) (a1 a2 : Int) : Lqbl (some 2) [.l a0, .i a1, .i a2] =
 cond (decide (a2 < (a0.length : Int))) (
 cond (inb a2 a0.length) (
 cond ((rd a0 a2.toNat 0).int != a1) (
 some [.i (-1)]) (
 cond (inb a2 a0.length) (
 (Lqb none [.i (IntKind.i64.wrap (a1 + 1))]).bind fun y1 =>
 cond (!Eng.seq ((rd a0 a2.toNat 1).str) ((g y1 0).str)) (
 some [.i (-1)]) (
 cond (inb a2 a0.length) (
 cond ((rd a0 a2.toNat 2).int != (IntKind.i64.wrap ((IntKind.i64.wrap (a1 + 1)) + 1))) (
 some [.i (-1)]) (
 Lqbl (some 2) [.l a0, .i (IntKind.i64.wrap ((IntKind.i64.wrap ((IntKind.i64.wrap (a1 + 1)) + 1)) + 1)), .i (IntKind.i64.wrap (a2 + 1))])) (
 none))) (
 none))) (
 none)) (
 some [.i a1]) := (zb _ _).trans (by kernel_rfl)
theorem kqbl : SigOk Try.prog (dqbl.sig (Lqbl none)) ∧ (dqbl.sig (Lqbl none)).ok = true := zf (zd kqb (by kernel_rfl) zg) (by kernel_rfl) (by kernel_rfl) (by kernel_rfl)
def dqcp : FD := { fn := 92, nb := 0, pre := ⟨[.ag [.i .i64 0, .i .i64 1, .i .i64 2, .i .i64 3, .fz 116 false 4, .fz 127 false 5, .fz 129 false 6], .sc (.i .i64 7)], []⟩, post := ⟨[.sc (.i .i64 0)], []⟩, sh := false, cuts := [] }
noncomputable def Lqcp : Option Nat → Lv → Option Lv := Lim Try.prog [dqbj.sig (Lqbj none), dqbk.sig (Lqbk none), dqbl.sig (Lqbl none)] dqcp Try.f92
theorem eqcp_i (a0 a1 a2 a3 : Int) (a4 a5 a6 : Rw) (a7 : Int) : Lqcp none [.i a0, .i a1, .i a2, .i a3, .l a4, .l a5, .l a6, .i a7] =
 (Lqbj none [.l a4, .i a7]).bind fun y1 =>
 cond (decide ((g y1 0).int < 0)) (
 some [.i (-1)]) (
 (Lqbk none [.l a5, .i ((g y1 0).int)]).bind fun y2 =>
 cond (decide ((g y2 0).int < 0)) (
 some [.i (-1)]) (
 (Lqbl none [.l a6, .i ((g y2 0).int)]).bind fun y3 =>
 cond (decide ((g y3 0).int < 0)) (
 some [.i (-1)]) (
 some [.i ((g y3 0).int)]))) := (zb _ _).trans (by kernel_rfl)
theorem kqcp : SigOk Try.prog (dqcp.sig (Lqcp none)) ∧ (dqcp.sig (Lqcp none)).ok = true := zf (zd kqbj (by kernel_rfl) (zd kqbk (by kernel_rfl) (zd kqbl (by kernel_rfl) zg))) (by kernel_rfl) (by kernel_rfl) (by kernel_rfl)
def dqcq : FD := { fn := 104, nb := 0, pre := ⟨[.ag [.fz 9 false 0, .fz 9 false 1], .sc (.i .i64 2)], []⟩, post := ⟨[.sc (.i .i64 0)], []⟩, sh := false, cuts := [] }
noncomputable def Lqcq : Option Nat → Lv → Option Lv := Lim Try.prog [dqs.sig (Lqs none)] dqcq Try.f104
theorem eqcq_i (a0 a1 : Rw) (a2 : Int) : Lqcq none [.l a0, .l a1, .i a2] =
 (Lqs none [.l a0, .i a2]).bind fun y1 =>
 cond (decide ((g y1 0).int < 0)) (
 some [.i (-1)]) (
 (Lqs none [.l a1, .i ((g y1 0).int)]).bind fun y2 =>
 cond (decide ((g y2 0).int < 0)) (
 some [.i (-1)]) (
 some [.i ((g y2 0).int)])) := (zb _ _).trans (by kernel_rfl)
theorem kqcq : SigOk Try.prog (dqcq.sig (Lqcq none)) ∧ (dqcq.sig (Lqcq none)).ok = true := zf (zd kqs (by kernel_rfl) zg) (by kernel_rfl) (by kernel_rfl) (by kernel_rfl)
def dqb6 : FD := { fn := 49, nb := 0, pre := ⟨[.ag [.i .i64 0, .i .i64 1, .fz 9 false 2, .fz 9 false 3, .i .i64 4, .i .i64 5, .i .i64 6, .i .i64 7, .fz 116 false 8, .fz 127 false 9, .fz 129 false 10, .i .i64 11, .fz 9 false 12, .fz 9 false 13, .i .i64 14, .i .i64 15, .i .i64 16], .sc (.i .i64 17)], []⟩, post := ⟨[.sc (.i .i64 0)], []⟩, sh := false, cuts := [] }
noncomputable def Lqb6 : Option Nat → Lv → Option Lv := Lim Try.prog [dqco.sig (Lqco none), dqcp.sig (Lqcp none), dqcq.sig (Lqcq none)] dqb6 Try.f49
theorem eqb6_i (a0 a1 : Int) (a2 a3 : Rw) (a4 a5 a6 a7 : Int) (a8 a9 a10 : Rw) (a11 : Int) (a12 a13 : Rw) (a14 a15 a16 a17 : Int) : Lqb6 none [.i a0, .i a1, .l a2, .l a3, .i a4, .i a5, .i a6, .i a7, .l a8, .l a9, .l a10, .i a11, .l a12, .l a13, .i a14, .i a15, .i a16, .i a17] =
 (Lqcq none [.l a2, .l a3, .i a17]).bind fun y1 =>
 cond (decide ((g y1 0).int < 0)) (
 some [.i (-1)]) (
 (Lqcp none [.i a4, .i a5, .i a6, .i a7, .l a8, .l a9, .l a10, .i ((g y1 0).int)]).bind fun y2 =>
 cond (decide ((g y2 0).int < 0)) (
 some [.i (-1)]) (
 (Lqco none [.i a11, .l a12, .l a13, .i a14, .i a15, .i a16, .i ((g y2 0).int)]).bind fun y3 =>
 cond (decide ((g y3 0).int < 0)) (
 some [.i (-1)]) (
 some [.i ((g y3 0).int)]))) := (zb _ _).trans (by kernel_rfl)
theorem kqb6 : SigOk Try.prog (dqb6.sig (Lqb6 none)) ∧ (dqb6.sig (Lqb6 none)).ok = true := zf (zd kqco (by kernel_rfl) (zd kqcp (by kernel_rfl) (zd kqcq (by kernel_rfl) zg))) (by kernel_rfl) (by kernel_rfl) (by kernel_rfl)
def dqcy : FD := { fn := 8, nb := 0, pre := ⟨[.sc (.i .i64 0), .sc (.i .i64 1), .ag [.fz 9 false 2, .fz 9 false 3]], []⟩, post := ⟨[.sc (.b 0)], []⟩, sh := false, cuts := [] }
noncomputable def Lqcy : Option Nat → Lv → Option Lv := Lim Try.prog [dqb7.sig (Lqb7 none), dqb3.sig (Lqb3 none), dqbw.sig (Lqbw none), dqb0.sig (Lqb0 none), dqbq.sig (Lqbq none), dqb2.sig (Lqb2 none), dqbv.sig (Lqbv none), dqcn.sig (Lqcn none), dqb6.sig (Lqb6 none)] dqcy Try.f8
theorem eqcy_i (a0 a1 : Int) (a2 a3 : Rw) : Lqcy none [.i a0, .i a1, .l a2, .l a3] =
 (Lqb7 none [.l a2, .l a3, .i 1048576]).bind fun y1 =>
 cond (decide ((g y1 0).int < 0)) (
 some [.b true]) (
 (Lqbw none [.l a2, .l a3]).bind fun y2 =>
 (Lqb3 none [.i a0, .i a1, .l ((g y2 0).list), .l ((g y2 1).list)]).bind fun y3 =>
 (Lqbw none [.l a2, .l a3]).bind fun y4 =>
 (Lqb0 none [.i a0, .i a1, .l ((g y4 0).list), .l ((g y4 1).list)]).bind fun y5 =>
 (Lqb2 none [.i ((g y5 0).int), .i ((g y5 1).int), .l ((g y5 11).list), .l ((g y5 12).list), .i ((g y5 2).int), .i ((g y5 3).int), .i ((g y5 4).int), .i ((g y5 5).int), .l ((g y5 13).list), .l ((g y5 14).list), .l ((g y5 15).list), .i ((g y5 6).int), .l ((g y5 16).list), .l ((g y5 17).list), .i ((g y5 7).int), .i ((g y5 8).int), .i ((g y5 9).int), .i ((g y3 0).int), .i ((g y3 1).int), .l ((g y3 13).list), .l ((g y3 14).list), .i ((g y3 2).int), .i ((g y3 3).int), .i ((g y3 4).int), .i ((g y3 5).int), .l ((g y3 15).list), .l ((g y3 16).list), .l ((g y3 17).list), .i ((g y3 6).int), .l ((g y3 7).list), .l ((g y3 8).list), .i ((g y3 9).int), .i ((g y3 10).int), .i ((g y3 11).int)]).bind fun y6 =>
 cond (!(g y6 0).bool) (
 some [.b false]) (
 cond ((g y5 10).int != (g y3 12).int) (
 some [.b false]) (
 (Lqbw none [.l a2, .l a3]).bind fun y7 =>
 (Lqbq none [.l ((g y4 0).list), .l ((g y4 1).list), .l ((g y7 0).list), .l ((g y7 1).list)]).bind fun y8 =>
 cond (!(g y8 0).bool) (
 some [.b false]) (
 (Lqbv none [.i 1, .l ((g y4 0).list), .l ((g y4 1).list)]).bind fun y9 =>
 cond (decide ((g y9 0).int < 0)) (
 some [.b false]) (
 (Lqb2 none [.i ((g y5 0).int), .i ((g y5 1).int), .l ((g y5 11).list), .l ((g y5 12).list), .i ((g y5 2).int), .i ((g y5 3).int), .i ((g y5 4).int), .i ((g y5 5).int), .l ((g y5 13).list), .l ((g y5 14).list), .l ((g y5 15).list), .i ((g y5 6).int), .l ((g y5 16).list), .l ((g y5 17).list), .i ((g y5 7).int), .i ((g y5 8).int), .i ((g y5 9).int), .i ((g y3 0).int), .i ((g y3 1).int), .l ((g y3 13).list), .l ((g y3 14).list), .i ((g y3 2).int), .i ((g y3 3).int), .i ((g y3 4).int), .i ((g y3 5).int), .l ((g y3 15).list), .l ((g y3 16).list), .l ((g y3 17).list), .i ((g y3 6).int), .l ((g y3 7).list), .l ((g y3 8).list), .i ((g y3 9).int), .i ((g y3 10).int), .i ((g y3 11).int)]).bind fun y10 =>
 cond (!(g y10 0).bool) (
 some [.b false]) (
 cond ((g y5 10).int != (g y3 12).int) (
 some [.b false]) (
 (Lqcn none [.i ((g y5 0).int), .i ((g y5 1).int), .i ((g y5 2).int), .i ((g y5 3).int), .i ((g y5 4).int), .i ((g y5 5).int), .i ((g y5 6).int), .i ((g y5 7).int), .i ((g y5 8).int), .i ((g y5 9).int), .i 1, .l ((g y5 11).list), .l ((g y5 12).list), .l ((g y5 13).list), .l ((g y5 14).list), .l ((g y5 15).list), .l ((g y5 16).list), .l ((g y5 17).list)]).bind fun y11 =>
 (Lqb6 none [.i ((g y5 0).int), .i ((g y5 1).int), .l ((g y11 1).list), .l ((g y11 2).list), .i ((g y5 2).int), .i ((g y5 3).int), .i ((g y5 4).int), .i ((g y5 5).int), .l ((g y11 3).list), .l ((g y11 4).list), .l ((g y11 5).list), .i ((g y5 6).int), .l ((g y11 6).list), .l ((g y11 7).list), .i ((g y5 7).int), .i ((g y5 8).int), .i ((g y5 9).int), .i 1]).bind fun y12 =>
 cond (decide ((g y12 0).int < 0)) (
 some [.b false]) (
 cond ((g y12 0).int != (g y11 0).int) (
 some [.b false]) (
 (Lqbw none [.l a2, .l a3]).bind fun y13 =>
 (Lqb0 none [.i a0, .i a1, .l ((g y13 0).list), .l ((g y13 1).list)]).bind fun y14 =>
 (Lqb2 none [.i ((g y14 0).int), .i ((g y14 1).int), .l ((g y14 11).list), .l ((g y14 12).list), .i ((g y14 2).int), .i ((g y14 3).int), .i ((g y14 4).int), .i ((g y14 5).int), .l ((g y14 13).list), .l ((g y14 14).list), .l ((g y14 15).list), .i ((g y14 6).int), .l ((g y14 16).list), .l ((g y14 17).list), .i ((g y14 7).int), .i ((g y14 8).int), .i ((g y14 9).int), .i ((g y3 0).int), .i ((g y3 1).int), .l ((g y3 13).list), .l ((g y3 14).list), .i ((g y3 2).int), .i ((g y3 3).int), .i ((g y3 4).int), .i ((g y3 5).int), .l ((g y3 15).list), .l ((g y3 16).list), .l ((g y3 17).list), .i ((g y3 6).int), .l ((g y3 7).list), .l ((g y3 8).list), .i ((g y3 9).int), .i ((g y3 10).int), .i ((g y3 11).int)]).bind fun y15 =>
 cond (!(g y15 0).bool) (
 some [.b false]) (
 cond ((g y14 10).int != (g y3 12).int) (
 some [.b false]) (
 (Lqb6 none [.i ((g y5 0).int), .i ((g y5 1).int), .l ((g y11 1).list), .l ((g y11 2).list), .i ((g y5 2).int), .i ((g y5 3).int), .i ((g y5 4).int), .i ((g y5 5).int), .l ((g y11 3).list), .l ((g y11 4).list), .l ((g y11 5).list), .i ((g y5 6).int), .l ((g y11 6).list), .l ((g y11 7).list), .i ((g y5 7).int), .i ((g y5 8).int), .i ((g y5 9).int), .i 1]).bind fun y16 =>
 cond (decide ((g y16 0).int < 0)) (
 some [.b false]) (
 cond ((g y16 0).int != (g y11 0).int) (
 some [.b false]) (
 some [.b true]))))))))))))) := (zb _ _).trans (by kernel_rfl)
theorem kqcy : SigOk Try.prog (dqcy.sig (Lqcy none)) ∧ (dqcy.sig (Lqcy none)).ok = true := zf (zd kqb7 (by kernel_rfl) (zd kqb3 (by kernel_rfl) (zd kqbw (by kernel_rfl) (zd kqb0 (by kernel_rfl) (zd kqbq (by kernel_rfl) (zd kqb2 (by kernel_rfl) (zd kqbv (by kernel_rfl) (zd kqcn (by kernel_rfl) (zd kqb6 (by kernel_rfl) zg))))))))) (by kernel_rfl) (by kernel_rfl) (by kernel_rfl)
end KV
end
