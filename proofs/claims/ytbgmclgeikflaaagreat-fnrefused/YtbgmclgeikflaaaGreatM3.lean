/- Walks of Go functions, printed by a program of ours. -/
import Derived.Test.YtbgmclgeikflaaaGreatProg
import Derived.Test.YtbgmclgeikflaaaGreatM1
import Derived.Test.YtbgmclgeikflaaaGreatM2
set_option linter.unusedSimpArgs false
set_option linter.unusedVariables false
set_option linter.unusedSectionVars false
section
set_option maxRecDepth 100000
namespace KV
open Go Go.Eng Go.Proofs
def dq0 : FD := { fn := 97, nb := 0, pre := ⟨[.sc (.fz 9 false 0)], []⟩, post := ⟨[.sc (.ow 0)], [.rw 9 true 0]⟩, sh := false, cuts := [] }
noncomputable def Lq0 : Option Nat → Lv → Option Lv := Lim Tryz.prog [] dq0 Tryz.f97
theorem eq0_i (a0 : Rw) : Lq0 none [.l a0] =
 cond (decide (a0.length ≤ most)) (
 some [.l a0]) (
 none) := (Lim_eq _ _).trans (by kernel_rfl)
theorem kq0 : SigOk Tryz.prog (dq0.sig (Lq0 none)) ∧ (dq0.sig (Lq0 none)).ok = true := sound_lim known_nil (by kernel_rfl) (by kernel_rfl) (by kernel_rfl)
def dq3 : FD := { fn := 111, nb := 0, pre := ⟨[.sc (.i .i64 0)], []⟩, post := ⟨[.sc (.b 0)], []⟩, sh := false, cuts := [] }
noncomputable def Lq3 : Option Nat → Lv → Option Lv := Lim Tryz.prog [] dq3 Tryz.f111
theorem eq3_i (a0 : Int) : Lq3 none [.i a0] =
 cond (decide (1 ≤ a0)) (
 some [.b (decide (a0 ≤ 8))]) (
 some [.b false]) := (Lim_eq _ _).trans (by kernel_rfl)
theorem kq3 : SigOk Tryz.prog (dq3.sig (Lq3 none)) ∧ (dq3.sig (Lq3 none)).ok = true := sound_lim known_nil (by kernel_rfl) (by kernel_rfl) (by kernel_rfl)
def dqba : FD := { fn := 141, nb := 0, pre := ⟨[.ag [.s 0, .fz 9 false 1], .sc (.i .i64 2)], []⟩, post := ⟨[.sc (.b 0)], []⟩, sh := false, cuts := [⟨4, [1, 2, 18, 19, 20], ⟨[.sc (.i .i64 0), .sc (.pt 0 0), .sc (.fz 9 false 1), .sc (.i .i64 2), .sc (.i .i64 3)], [.bx [.s 4, .fz 9 false 5]]⟩⟩] }
noncomputable def Lqba : Option Nat → Lv → Option Lv := Lim Tryz.prog [dq3.sig (Lq3 none)] dqba Tryz.f141
theorem eqba_i (a0 : ByteArray) (a1 : Rw) (a2 : Int) : Lqba none [.s a0, .l a1, .i a2] =
 cond (decide (2000 < (a0.size : Int))) (
 some [.b false]) (
 cond (decide (30 < (a1.length : Int))) (
 some [.b false]) (
 Lqba (some 4) [.i a2, .l a1, .i (a1.length : Int), .i 0, .s a0, .l a1])) := (Lim_eq _ _).trans (by kernel_rfl)
theorem eqba_4 (a0 : Int) (a1 : Rw) (a2 : Int) (a3 : Int) (a4 : ByteArray) (a5 : Rw) : Lqba (some 4) [.i a0, .l a1, .i a2, .i a3, .s a4, .l a5] =
 cond (decide (a3 < a2)) (
 cond (inb a3 a1.length) (
 cond ((((rd a1 a3.toNat 0).str).size : Int) != a0) (
 some [.b false]) (
 cond (decide (0 < a3)) (
 cond (inb (IntKind.i64.wrap (a3 - 1)) a5.length) (
 cond (!slt ((rd a5 ((IntKind.i64.wrap (a3 - 1)).toNat) 0).str) ((rd a1 a3.toNat 0).str)) (
 some [.b false]) (
 Lqba (some 4) [.i a0, .l a1, .i a2, .i (IntKind.i64.wrap (a3 + 1)), .s a4, .l a5])) (
 none)) (
 Lqba (some 4) [.i a0, .l a1, .i a2, .i (IntKind.i64.wrap (a3 + 1)), .s a4, .l a5]))) (
 none)) (
 (Lq3 none [.i a0]).bind fun y1 =>
 some [.b ((g y1 0).bool)]) := (Lim_eq _ _).trans (by kernel_rfl)
theorem kqba : SigOk Tryz.prog (dqba.sig (Lqba none)) ∧ (dqba.sig (Lqba none)).ok = true := sound_lim (known_cons kq3 (by kernel_rfl) known_nil) (by kernel_rfl) (by kernel_rfl) (by kernel_rfl)
def dqbo : FD := { fn := 142, nb := 0, pre := ⟨[.sc (.s 0)], []⟩, post := ⟨[.sc (.b 0)], []⟩, sh := false, cuts := [⟨2, [0, 5, 6], ⟨[.sc (.s 0), .sc (.i .i64 1), .sc (.i .i64 2)], []⟩⟩] }
noncomputable def Lqbo : Option Nat → Lv → Option Lv := Lim Tryz.prog [] dqbo Tryz.f142
theorem eqbo_i (a0 : ByteArray) : Lqbo none [.s a0] =
 Lqbo (some 2) [.s a0, .i (a0.size : Int), .i 0] := (Lim_eq _ _).trans (by kernel_rfl)
theorem eqbo_2 (a0 : ByteArray) (a1 : Int) (a2 : Int) : Lqbo (some 2) [.s a0, .i a1, .i a2] =
 cond (decide (a2 < a1)) (
 cond (inb a2 a0.size) (
 cond (decide ((byteAt a0 a2.toNat) < 33)) (
 some [.b false]) (
 cond (inb a2 a0.size) (
 cond (decide (126 < (byteAt a0 a2.toNat))) (
 some [.b false]) (
 Lqbo (some 2) [.s a0, .i a1, .i (IntKind.i64.wrap (a2 + 1))])) (
 none))) (
 none)) (
 cond (decide (1 ≤ (a0.size : Int))) (
 some [.b (decide ((a0.size : Int) ≤ 40))]) (
 some [.b false])) := (Lim_eq _ _).trans (by kernel_rfl)
theorem kqbo : SigOk Tryz.prog (dqbo.sig (Lqbo none)) ∧ (dqbo.sig (Lqbo none)).ok = true := sound_lim known_nil (by kernel_rfl) (by kernel_rfl) (by kernel_rfl)
def dqc4 : FD := { fn := 184, nb := 0, pre := ⟨[.sc (.i .i64 0)], []⟩, post := ⟨[.sc (.b 0)], []⟩, sh := false, cuts := [] }
noncomputable def Lqc4 : Option Nat → Lv → Option Lv := Lim Tryz.prog [] dqc4 Tryz.f184
theorem eqc4_i (a0 : Int) : Lqc4 none [.i a0] =
 cond (a0 == 2) (
 some [.b true]) (
 cond (a0 == 4) (
 some [.b true]) (
 some [.b (a0 == 7)])) := (Lim_eq _ _).trans (by kernel_rfl)
theorem kqc4 : SigOk Tryz.prog (dqc4.sig (Lqc4 none)) ∧ (dqc4.sig (Lqc4 none)).ok = true := sound_lim known_nil (by kernel_rfl) (by kernel_rfl) (by kernel_rfl)
def dqc5 : FD := { fn := 185, nb := 0, pre := ⟨[.sc (.i .i64 0)], []⟩, post := ⟨[.sc (.b 0)], []⟩, sh := false, cuts := [] }
noncomputable def Lqc5 : Option Nat → Lv → Option Lv := Lim Tryz.prog [] dqc5 Tryz.f185
theorem eqc5_i (a0 : Int) : Lqc5 none [.i a0] =
 cond (a0 == 2) (
 some [.b true]) (
 some [.b (a0 == 3)]) := (Lim_eq _ _).trans (by kernel_rfl)
theorem kqc5 : SigOk Tryz.prog (dqc5.sig (Lqc5 none)) ∧ (dqc5.sig (Lqc5 none)).ok = true := sound_lim known_nil (by kernel_rfl) (by kernel_rfl) (by kernel_rfl)
def dqf : FD := { fn := 118, nb := 0, pre := ⟨[.ag [.i .i64 0, .s 1, .s 2, .i .i64 3, .s 4, .fz 9 false 5], .sc (.i .i64 6)], []⟩, post := ⟨[.sc (.b 0)], []⟩, sh := false, cuts := [⟨5, [1, 2], ⟨[.sc (.i .i64 0), .sc (.pt 0 0)], [.bx [.i .i64 1, .s 2, .s 3, .i .i64 4, .s 5, .fz 9 false 6]]⟩⟩, ⟨7, [1, 2], ⟨[.sc (.i .i64 0), .sc (.pt 0 0)], [.bx [.i .i64 1, .s 2, .s 3, .i .i64 4, .s 5, .fz 9 false 6]]⟩⟩, ⟨13, [1, 2, 5, 6, 62], ⟨[.sc (.i .i64 0), .sc (.pt 0 0), .sc (.i .i64 1), .sc (.i .i64 2), .sc (.i .i64 3)], [.bx [.i .i64 4, .s 5, .s 6, .i .i64 7, .s 8, .fz 9 false 9]]⟩⟩, ⟨15, [1, 2, 5, 6], ⟨[.sc (.i .i64 0), .sc (.pt 0 0), .sc (.i .i64 1), .sc (.i .i64 2)], [.bx [.i .i64 3, .s 4, .s 5, .i .i64 6, .s 7, .fz 9 false 8]]⟩⟩] }
noncomputable def Lqf : Option Nat → Lv → Option Lv := Lim Tryz.prog [dq3.sig (Lq3 none), dqba.sig (Lqba none), dqbo.sig (Lqbo none), dqc4.sig (Lqc4 none), dqc5.sig (Lqc5 none)] dqf Tryz.f118
theorem eqf_i (a0 : Int) (a1 : ByteArray) (a2 : ByteArray) (a3 : Int) (a4 : ByteArray) (a5 : Rw) (a6 : Int) : Lqf none [.i a0, .s a1, .s a2, .i a3, .s a4, .l a5, .i a6] =
 cond (decide (a0 < 1)) (
 some [.b false]) (
 cond (decide (7 < a0)) (
 some [.b false]) (
 (Lq3 none [.i a6]).bind fun y1 =>
 cond (!(g y1 0).bool) (
 some [.b false]) (
 (Lqc4 none [.i a0]).bind fun y2 =>
 cond ((g y2 0).bool) (
 cond ((a1.size : Int) != a6) (
 some [.b false]) (
 (Lqc4 none [.i a0]).bind fun y3 =>
 cond (!(g y3 0).bool) (
 cond (!Eng.seq a1 (⟨#[]⟩ : ByteArray)) (
 some [.b false]) (
 Lqf (some 5) [.i a6, .i a0, .s a1, .s a2, .i a3, .s a4, .l a5])) (
 Lqf (some 5) [.i a6, .i a0, .s a1, .s a2, .i a3, .s a4, .l a5]))) (
 (Lqc4 none [.i a0]).bind fun y4 =>
 cond (!(g y4 0).bool) (
 cond (!Eng.seq a1 (⟨#[]⟩ : ByteArray)) (
 some [.b false]) (
 Lqf (some 5) [.i a6, .i a0, .s a1, .s a2, .i a3, .s a4, .l a5])) (
 Lqf (some 5) [.i a6, .i a0, .s a1, .s a2, .i a3, .s a4, .l a5]))))) := (Lim_eq _ _).trans (by kernel_rfl)
theorem eqf_5 (a0 : Int) (a1 : Int) (a2 : ByteArray) (a3 : ByteArray) (a4 : Int) (a5 : ByteArray) (a6 : Rw) : Lqf (some 5) [.i a0, .i a1, .s a2, .s a3, .i a4, .s a5, .l a6] =
 (Lqc5 none [.i a1]).bind fun y1 =>
 cond ((g y1 0).bool) (
 (Lqbo none [.s a3]).bind fun y2 =>
 cond (!(g y2 0).bool) (
 some [.b false]) (
 (Lqc5 none [.i a1]).bind fun y3 =>
 cond (!(g y3 0).bool) (
 cond (!Eng.seq a3 (⟨#[]⟩ : ByteArray)) (
 some [.b false]) (
 Lqf (some 7) [.i a0, .i a1, .s a2, .s a3, .i a4, .s a5, .l a6])) (
 Lqf (some 7) [.i a0, .i a1, .s a2, .s a3, .i a4, .s a5, .l a6]))) (
 (Lqc5 none [.i a1]).bind fun y4 =>
 cond (!(g y4 0).bool) (
 cond (!Eng.seq a3 (⟨#[]⟩ : ByteArray)) (
 some [.b false]) (
 Lqf (some 7) [.i a0, .i a1, .s a2, .s a3, .i a4, .s a5, .l a6])) (
 Lqf (some 7) [.i a0, .i a1, .s a2, .s a3, .i a4, .s a5, .l a6])) := (Lim_eq _ _).trans (by kernel_rfl)
theorem eqf_7 (a0 : Int) (a1 : Int) (a2 : ByteArray) (a3 : ByteArray) (a4 : Int) (a5 : ByteArray) (a6 : Rw) : Lqf (some 7) [.i a0, .i a1, .s a2, .s a3, .i a4, .s a5, .l a6] =
 cond (a1 == 1) (
 cond (a1 == 1) (
 Lqf (some 15) [.i a0, .i 1, .i 100000, .i a1, .s a2, .s a3, .i a4, .s a5, .l a6]) (
 Lqf (some 13) [.i a0, .i 0, .i 0, .i a1, .i a1, .s a2, .s a3, .i a4, .s a5, .l a6])) (
 cond (a1 == 4) (
 cond (a1 == 4) (
 Lqf (some 15) [.i a0, .i 1, .i 100000, .i a1, .s a2, .s a3, .i a4, .s a5, .l a6]) (
 Lqf (some 13) [.i a0, .i 0, .i 0, .i a1, .i a1, .s a2, .s a3, .i a4, .s a5, .l a6])) (
 cond (a1 == 6) (
 Lqf (some 15) [.i a0, .i 1, .i 100000, .i a1, .s a2, .s a3, .i a4, .s a5, .l a6]) (
 Lqf (some 13) [.i a0, .i 0, .i 0, .i a1, .i a1, .s a2, .s a3, .i a4, .s a5, .l a6]))) := (Lim_eq _ _).trans (by kernel_rfl)
theorem eqf_13 (a0 : Int) (a1 : Int) (a2 : Int) (a3 : Int) (a4 : Int) (a5 : ByteArray) (a6 : ByteArray) (a7 : Int) (a8 : ByteArray) (a9 : Rw) : Lqf (some 13) [.i a0, .i a1, .i a2, .i a3, .i a4, .s a5, .s a6, .i a7, .s a8, .l a9] =
 cond (a3 == 5) (
 Lqf (some 15) [.i a0, .i 1, .i 1000000000, .i a4, .s a5, .s a6, .i a7, .s a8, .l a9]) (
 Lqf (some 15) [.i a0, .i a1, .i a2, .i a4, .s a5, .s a6, .i a7, .s a8, .l a9]) := (Lim_eq _ _).trans (by kernel_rfl)
theorem eqf_15 (a0 : Int) (a1 : Int) (a2 : Int) (a3 : Int) (a4 : ByteArray) (a5 : ByteArray) (a6 : Int) (a7 : ByteArray) (a8 : Rw) : Lqf (some 15) [.i a0, .i a1, .i a2, .i a3, .s a4, .s a5, .i a6, .s a7, .l a8] =
 cond (decide (a6 < a1)) (
 some [.b false]) (
 cond (decide (a2 < a6)) (
 some [.b false]) (
 cond (a3 == 1) (
 (Lqba none [.s a7, .l a8, .i a0]).bind fun y1 =>
 some [.b ((g y1 0).bool)]) (
 cond (Eng.seq a7 (⟨#[]⟩ : ByteArray)) (
 some [.b ((a8.length : Int) == 0)]) (
 some [.b false])))) := (Lim_eq _ _).trans (by kernel_rfl)
theorem kqf : SigOk Tryz.prog (dqf.sig (Lqf none)) ∧ (dqf.sig (Lqf none)).ok = true := sound_lim (known_cons kq3 (by kernel_rfl) (known_cons kqba (by kernel_rfl) (known_cons kqbo (by kernel_rfl) (known_cons kqc4 (by kernel_rfl) (known_cons kqc5 (by kernel_rfl) known_nil))))) (by kernel_rfl) (by kernel_rfl) (by kernel_rfl)
def dqbb : FD := { fn := 71, nb := 0, pre := ⟨[.sc (.s 0), .sc (.i .i64 1)], []⟩, post := ⟨[.sc (.s 0)], []⟩, sh := false, cuts := [⟨5, [0, 1, 5, 13, 14], ⟨[.sc (.s 0), .sc (.i .i64 1), .sc (.i .u64 2), .sc (.i .i64 3), .sc (.i .i64 4)], []⟩⟩, ⟨12, [5, 7, 8], ⟨[.sc (.i .u64 0), .sc (.ow 0), .sc (.i .i64 1)], [.rw 5 true 2]⟩⟩] }
noncomputable def Lqbb : Option Nat → Lv → Option Lv := Lim Tryz.prog [dq3.sig (Lq3 none)] dqbb Tryz.f71
theorem eqbb_i (a0 : ByteArray) (a1 : Int) : Lqbb none [.s a0, .i a1] =
 (Lq3 none [.i a1]).bind fun y1 =>
 cond (!(g y1 0).bool) (
 some [.s (⟨#[]⟩ : ByteArray)]) (
 Lqbb (some 5) [.s a0, .i a1, .i 14695981039346656037, .i (a0.size : Int), .i 0]) := (Lim_eq _ _).trans (by kernel_rfl)
theorem eqbb_5 (a0 : ByteArray) (a1 : Int) (a2 : Int) (a3 : Int) (a4 : Int) : Lqbb (some 5) [.s a0, .i a1, .i a2, .i a3, .i a4] =
 cond (decide (a4 < a3)) (
 cond (inb a4 a0.size) (
 Lqbb (some 5) [.s a0, .i a1, .i (IntKind.u64.wrap ((IntKind.u64.wrap (BitVec.ofInt (IntKind.u64).bits a2 ^^^ BitVec.ofInt (IntKind.u64).bits (IntKind.u64.wrap (byteAt a0 a4.toNat))).toNat) * 1099511628211)), .i a3, .i (IntKind.i64.wrap (a4 + 1))]) (
 none)) (
 cond (decide (0 ≤ a1)) (
 cond (a1 == a1) (
 cond (decide (a1 ≤ (most : Int))) (
 Lqbb (some 12) [.i a2, .i (IntKind.i64.wrap (a1 - 1)), .l (List.replicate a1.toNat ([.i 0] : List C))]) (
 none)) (
 none)) (
 none)) := (Lim_eq _ _).trans (by kernel_rfl)
theorem eqbb_12 (a0 : Int) (a1 : Int) (a2 : Rw) : Lqbb (some 12) [.i a0, .i a1, .l a2] =
 cond (decide (0 ≤ a1)) (
 cond (inb a1 a2.length) (
 Lqbb (some 12) [.i (a0.fdiv (2 ^ 8)), .i (IntKind.i64.wrap (a1 - 1)), .l (wrs a2 a1.toNat 0 ([.i (IntKind.u8.wrap a0)] : List C))]) (
 none)) (
 some [.s (bytesOf a2)]) := (Lim_eq _ _).trans (by kernel_rfl)
theorem kqbb : SigOk Tryz.prog (dqbb.sig (Lqbb none)) ∧ (dqbb.sig (Lqbb none)).ok = true := sound_lim (known_cons kq3 (by kernel_rfl) known_nil) (by kernel_rfl) (by kernel_rfl) (by kernel_rfl)
def dqd0 : FD := { fn := 160, nb := 0, pre := ⟨[.sc (.i .i64 0), .sc (.pt 0 0), .sc (.pt 2 0)], [.rb [.pt 1 0], .rb [.i .i64 1, .i .i64 2, .i .i64 3, .i .i64 4, .fz 90 false 5, .fz 156 false 6, .fz 158 false 7], .rb [.s 8]]⟩, post := ⟨[.sc (.b 0)], []⟩, sh := false, cuts := [] }
noncomputable def Lqd0 : Option Nat → Lv → Option Lv := Lim Tryz.prog [] dqd0 Tryz.f160
theorem eqd0_i (a0 : Int) (a1 : Int) (a2 : Int) (a3 : Int) (a4 : Int) (a5 : Rw) (a6 : Rw) (a7 : Rw) (a8 : ByteArray) : Lqd0 none [.i a0, .i a1, .i a2, .i a3, .i a4, .l a5, .l a6, .l a7, .s a8] =
 cond (inb a0 a5.length) (
 some [.b (!slt ((rd a5 a0.toNat 0).str) a8)]) (
 none) := (Lim_eq _ _).trans (by kernel_rfl)
theorem kqd0 : SigOk Tryz.prog (dqd0.sig (Lqd0 none)) ∧ (dqd0.sig (Lqd0 none)).ok = true := sound_lim known_nil (by kernel_rfl) (by kernel_rfl) (by kernel_rfl)
def dqb3 : FD := { fn := 159, nb := 0, pre := ⟨[.sc (.i .i64 0), .sc (.fn 160 [(0, 0), (2, 0)])], [.rb [.pt 1 0], .rb [.i .i64 1, .i .i64 2, .i .i64 3, .i .i64 4, .fz 90 false 5, .fz 156 false 6, .fz 158 false 7], .rb [.s 8]]⟩, post := ⟨[.sc (.i .i64 0)], []⟩, sh := false, cuts := [⟨2, [1, 5, 6], ⟨[.sc (.fn 160 [(0, 0), (1, 0)]), .sc (.i .i64 0), .sc (.i .i64 1)], [.rb [.pt 2 0], .rb [.s 2], .rb [.i .i64 3, .i .i64 4, .i .i64 5, .i .i64 6, .fz 90 false 7, .fz 156 false 8, .fz 158 false 9]]⟩⟩] }
noncomputable def Lqb3 : Option Nat → Lv → Option Lv := Lim Tryz.prog [dqd0.sig (Lqd0 none)] dqb3 Tryz.f159
theorem eqb3_i (a0 : Int) (a1 : Int) (a2 : Int) (a3 : Int) (a4 : Int) (a5 : Rw) (a6 : Rw) (a7 : Rw) (a8 : ByteArray) : Lqb3 none [.i a0, .i a1, .i a2, .i a3, .i a4, .l a5, .l a6, .l a7, .s a8] =
 Lqb3 (some 2) [.i 0, .i a0, .s a8, .i a1, .i a2, .i a3, .i a4, .l a5, .l a6, .l a7] := (Lim_eq _ _).trans (by kernel_rfl)
theorem eqb3_2 (a0 : Int) (a1 : Int) (a2 : ByteArray) (a3 : Int) (a4 : Int) (a5 : Int) (a6 : Int) (a7 : Rw) (a8 : Rw) (a9 : Rw) : Lqb3 (some 2) [.i a0, .i a1, .s a2, .i a3, .i a4, .i a5, .i a6, .l a7, .l a8, .l a9] =
 cond (decide (a0 < a1)) (
 (Lqd0 none [.i (IntKind.i64.wrap ((IntKind.u64.wrap (IntKind.i64.wrap (a0 + a1))).fdiv (2 ^ 1))), .i a3, .i a4, .i a5, .i a6, .l a7, .l a8, .l a9, .s a2]).bind fun y1 =>
 cond (!(g y1 0).bool) (
 Lqb3 (some 2) [.i (IntKind.i64.wrap ((IntKind.i64.wrap ((IntKind.u64.wrap (IntKind.i64.wrap (a0 + a1))).fdiv (2 ^ 1))) + 1)), .i a1, .s a2, .i a3, .i a4, .i a5, .i a6, .l a7, .l a8, .l a9]) (
 Lqb3 (some 2) [.i a0, .i (IntKind.i64.wrap ((IntKind.u64.wrap (IntKind.i64.wrap (a0 + a1))).fdiv (2 ^ 1))), .s a2, .i a3, .i a4, .i a5, .i a6, .l a7, .l a8, .l a9])) (
 some [.i a0]) := (Lim_eq _ _).trans (by kernel_rfl)
theorem kqb3 : SigOk Tryz.prog (dqb3.sig (Lqb3 none)) ∧ (dqb3.sig (Lqb3 none)).ok = true := sound_lim (known_cons kqd0 (by kernel_rfl) known_nil) (by kernel_rfl) (by kernel_rfl) (by kernel_rfl)
def dqbj : FD := { fn := 96, nb := 0, pre := ⟨[.sc (.pt 0 0), .sc (.s 0)], [.rb [.i .i64 1, .i .i64 2, .i .i64 3, .i .i64 4, .fz 90 false 5, .fz 156 false 6, .fz 158 false 7]]⟩, post := ⟨[.tu [(false, [.i .i64 0]), (false, [.b 1])]], []⟩, sh := false, cuts := [] }
noncomputable def Lqbj : Option Nat → Lv → Option Lv := Lim Tryz.prog [dqb3.sig (Lqb3 none)] dqbj Tryz.f96
theorem eqbj_i (a0 : ByteArray) (a1 : Int) (a2 : Int) (a3 : Int) (a4 : Int) (a5 : Rw) (a6 : Rw) (a7 : Rw) : Lqbj none [.s a0, .i a1, .i a2, .i a3, .i a4, .l a5, .l a6, .l a7] =
 (Lqb3 none [.i (a5.length : Int), .i a1, .i a2, .i a3, .i a4, .l a5, .l a6, .l a7, .s a0]).bind fun y1 =>
 cond (decide ((g y1 0).int < (a5.length : Int))) (
 cond (inb ((g y1 0).int) a5.length) (
 some [.i ((g y1 0).int), .b (Eng.seq ((rd a5 (((g y1 0).int).toNat) 0).str) a0)]) (
 none)) (
 some [.i ((g y1 0).int), .b false]) := (Lim_eq _ _).trans (by kernel_rfl)
theorem kqbj : SigOk Tryz.prog (dqbj.sig (Lqbj none)) ∧ (dqbj.sig (Lqbj none)).ok = true := sound_lim (known_cons kqb3 (by kernel_rfl) known_nil) (by kernel_rfl) (by kernel_rfl) (by kernel_rfl)
def dqs : FD := { fn := 122, nb := 0, pre := ⟨[.ag [.s 0, .fz 9 false 1]], []⟩, post := ⟨[.sc (.s 0)], []⟩, sh := false, cuts := [⟨3, [1, 3, 13, 14, 15], ⟨[.sc (.pt 0 0), .sc (.s 0), .sc (.fz 9 false 1), .sc (.i .i64 2), .sc (.i .i64 3)], [.bx [.s 4, .fz 9 false 5]]⟩⟩] }
noncomputable def Lqs : Option Nat → Lv → Option Lv := Lim Tryz.prog [] dqs Tryz.f122
theorem eqs_i (a0 : ByteArray) (a1 : Rw) : Lqs none [.s a0, .l a1] =
 Lqs (some 3) [.s (bytesOf ([[.i (IntKind.u8.wrap (a1.length : Int))]] : Rw)), .l a1, .i (a1.length : Int), .i 0, .s a0, .l a1] := (Lim_eq _ _).trans (by kernel_rfl)
theorem eqs_3 (a0 : ByteArray) (a1 : Rw) (a2 : Int) (a3 : Int) (a4 : ByteArray) (a5 : Rw) : Lqs (some 3) [.s a0, .l a1, .i a2, .i a3, .s a4, .l a5] =
 cond (decide (a3 < a2)) (
 cond (inb a3 a1.length) (
 cond (decide (a0.size + ((rd a1 a3.toNat 0).str).size ≤ most)) (
 Lqs (some 3) [.s (a0 ++ ((rd a1 a3.toNat 0).str)), .l a1, .i a2, .i (IntKind.i64.wrap (a3 + 1)), .s a4, .l a5]) (
 none)) (
 none)) (
 cond (decide (a0.size + a4.size ≤ most)) (
 some [.s (a0 ++ a4)]) (
 none)) := (Lim_eq _ _).trans (by kernel_rfl)
theorem kqs : SigOk Tryz.prog (dqs.sig (Lqs none)) ∧ (dqs.sig (Lqs none)).ok = true := sound_lim known_nil (by kernel_rfl) (by kernel_rfl) (by kernel_rfl)
def dqbt : FD := { fn := 186, nb := 0, pre := ⟨[.sc (.i .i64 0)], []⟩, post := ⟨[.ag [.i .i64 0, .i .i64 1, .i .i64 2, .i .i64 3, .i .i64 4, .fz 90 true 5, .fz 156 true 6, .fz 158 true 7, .s 8, .i .i64 9, .s 10, .s 11]], []⟩, sh := false, cuts := [] }
noncomputable def Lqbt : Option Nat → Lv → Option Lv := Lim Tryz.prog [] dqbt Tryz.f186
theorem eqbt_i (a0 : Int) : Lqbt none [.i a0] =
 some [.i a0, .i 0, .i 0, .i 0, .i 0, .l ([]), .l ([]), .l ([]), .s (⟨#[]⟩ : ByteArray), .i 0, .s (⟨#[]⟩ : ByteArray), .s (⟨#[]⟩ : ByteArray)] := (Lim_eq _ _).trans (by kernel_rfl)
theorem kqbt : SigOk Tryz.prog (dqbt.sig (Lqbt none)) ∧ (dqbt.sig (Lqbt none)).ok = true := sound_lim known_nil (by kernel_rfl) (by kernel_rfl) (by kernel_rfl)
def dqdj : FD := { fn := 187, nb := 3, pre := ⟨[.sc (.s 0), .sc (.pt 0 0), .sc (.pt 2 0)], [.bx [.pt 1 0], .bx [.i .i64 1, .i .i64 2, .i .i64 3, .i .i64 4, .ow 3, .ow 4, .ow 5], .bx [.i .i64 5, .s 6, .s 7, .i .i64 8, .s 9, .fz 9 false 10], .rw 90 false 11, .rw 156 false 12, .rw 158 false 13]⟩, post := ⟨[.ag [.i .i64 0, .i .i64 1, .i .i64 2, .i .i64 3, .i .i64 4, .fz 90 true 5, .fz 156 true 6, .fz 158 true 7, .s 8, .i .i64 9, .s 10, .s 11]], [.bx [.pt 1 0], .bx [.i .i64 12, .i .i64 13, .i .i64 14, .i .i64 15, .ow 3, .ow 4, .ow 5], .bx [.i .i64 16, .s 17, .s 18, .i .i64 19, .s 20, .fz 9 false 21], .rw 90 false 22, .rw 156 false 23, .rw 158 false 24]⟩, sh := true, cuts := [] }
noncomputable def Lqdj : Option Nat → Lv → Option Lv := Lim Tryz.prog [] dqdj Tryz.f187
theorem eqdj_i (a0 : ByteArray) (a1 : Int) (a2 : Int) (a3 : Int) (a4 : Int) (a5 : Int) (a6 : ByteArray) (a7 : ByteArray) (a8 : Int) (a9 : ByteArray) (a10 : Rw) (a11 : Rw) (a12 : Rw) (a13 : Rw) : Lqdj none [.s a0, .i a1, .i a2, .i a3, .i a4, .i a5, .s a6, .s a7, .i a8, .s a9, .l a10, .l a11, .l a12, .l a13] =
 cond (decide (a13.length + ([[.i (IntKind.i64.wrap (a3 + 1)), .s a0, .i (IntKind.i64.wrap (a2 + a8))]] : Rw).length ≤ most)) (
 some [.i 0, .i 0, .i 0, .i 0, .i 0, .l ([]), .l ([]), .l ([]), .s (⟨#[]⟩ : ByteArray), .i (IntKind.i64.wrap (a3 + 1)), .s (⟨#[]⟩ : ByteArray), .s (⟨#[]⟩ : ByteArray), .i a1, .i a2, .i (IntKind.i64.wrap (a3 + 1)), .i a4, .i a5, .s a6, .s a7, .i a8, .s a9, .l a10, .l a11, .l a12, .l (a13 ++ ([[.i (IntKind.i64.wrap (a3 + 1)), .s a0, .i (IntKind.i64.wrap (a2 + a8))]] : Rw))]) (
 none) := (Lim_eq _ _).trans (by kernel_rfl)
theorem kqdj : SigOk Tryz.prog (dqdj.sig (Lqdj none)) ∧ (dqdj.sig (Lqdj none)).ok = true := sound_lim known_nil (by kernel_rfl) (by kernel_rfl) (by kernel_rfl)
end KV
end
section
set_option maxRecDepth 100000
namespace KV
open Go Go.Eng Go.Proofs
def dqd1 : FD := { fn := 221, nb := 0, pre := ⟨[.sc (.i .i64 0), .sc (.pt 0 0), .sc (.pt 2 0)], [.rb [.pt 1 0], .rb [.i .i64 1, .i .i64 2, .i .i64 3, .i .i64 4, .fz 90 false 5, .fz 156 false 6, .fz 158 false 7], .rb [.s 8]]⟩, post := ⟨[.sc (.b 0)], []⟩, sh := false, cuts := [] }
noncomputable def Lqd1 : Option Nat → Lv → Option Lv := Lim Tryz.prog [] dqd1 Tryz.f221
theorem eqd1_i (a0 : Int) (a1 : Int) (a2 : Int) (a3 : Int) (a4 : Int) (a5 : Rw) (a6 : Rw) (a7 : Rw) (a8 : ByteArray) : Lqd1 none [.i a0, .i a1, .i a2, .i a3, .i a4, .l a5, .l a6, .l a7, .s a8] =
 cond (inb a0 a6.length) (
 some [.b (!slt ((rd a6 a0.toNat 0).str) a8)]) (
 none) := (Lim_eq _ _).trans (by kernel_rfl)
theorem kqd1 : SigOk Tryz.prog (dqd1.sig (Lqd1 none)) ∧ (dqd1.sig (Lqd1 none)).ok = true := sound_lim known_nil (by kernel_rfl) (by kernel_rfl) (by kernel_rfl)
def dqb4 : FD := { fn := 159, nb := 0, pre := ⟨[.sc (.i .i64 0), .sc (.fn 221 [(0, 0), (2, 0)])], [.rb [.pt 1 0], .rb [.i .i64 1, .i .i64 2, .i .i64 3, .i .i64 4, .fz 90 false 5, .fz 156 false 6, .fz 158 false 7], .rb [.s 8]]⟩, post := ⟨[.sc (.i .i64 0)], []⟩, sh := false, cuts := [⟨2, [1, 5, 6], ⟨[.sc (.fn 221 [(0, 0), (1, 0)]), .sc (.i .i64 0), .sc (.i .i64 1)], [.rb [.pt 2 0], .rb [.s 2], .rb [.i .i64 3, .i .i64 4, .i .i64 5, .i .i64 6, .fz 90 false 7, .fz 156 false 8, .fz 158 false 9]]⟩⟩] }
noncomputable def Lqb4 : Option Nat → Lv → Option Lv := Lim Tryz.prog [dqd1.sig (Lqd1 none)] dqb4 Tryz.f159
theorem eqb4_i (a0 : Int) (a1 : Int) (a2 : Int) (a3 : Int) (a4 : Int) (a5 : Rw) (a6 : Rw) (a7 : Rw) (a8 : ByteArray) : Lqb4 none [.i a0, .i a1, .i a2, .i a3, .i a4, .l a5, .l a6, .l a7, .s a8] =
 Lqb4 (some 2) [.i 0, .i a0, .s a8, .i a1, .i a2, .i a3, .i a4, .l a5, .l a6, .l a7] := (Lim_eq _ _).trans (by kernel_rfl)
theorem eqb4_2 (a0 : Int) (a1 : Int) (a2 : ByteArray) (a3 : Int) (a4 : Int) (a5 : Int) (a6 : Int) (a7 : Rw) (a8 : Rw) (a9 : Rw) : Lqb4 (some 2) [.i a0, .i a1, .s a2, .i a3, .i a4, .i a5, .i a6, .l a7, .l a8, .l a9] =
 cond (decide (a0 < a1)) (
 (Lqd1 none [.i (IntKind.i64.wrap ((IntKind.u64.wrap (IntKind.i64.wrap (a0 + a1))).fdiv (2 ^ 1))), .i a3, .i a4, .i a5, .i a6, .l a7, .l a8, .l a9, .s a2]).bind fun y1 =>
 cond (!(g y1 0).bool) (
 Lqb4 (some 2) [.i (IntKind.i64.wrap ((IntKind.i64.wrap ((IntKind.u64.wrap (IntKind.i64.wrap (a0 + a1))).fdiv (2 ^ 1))) + 1)), .i a1, .s a2, .i a3, .i a4, .i a5, .i a6, .l a7, .l a8, .l a9]) (
 Lqb4 (some 2) [.i a0, .i (IntKind.i64.wrap ((IntKind.u64.wrap (IntKind.i64.wrap (a0 + a1))).fdiv (2 ^ 1))), .s a2, .i a3, .i a4, .i a5, .i a6, .l a7, .l a8, .l a9])) (
 some [.i a0]) := (Lim_eq _ _).trans (by kernel_rfl)
theorem kqb4 : SigOk Tryz.prog (dqb4.sig (Lqb4 none)) ∧ (dqb4.sig (Lqb4 none)).ok = true := sound_lim (known_cons kqd1 (by kernel_rfl) known_nil) (by kernel_rfl) (by kernel_rfl) (by kernel_rfl)
def dqdk : FD := { fn := 188, nb := 0, pre := ⟨[.sc (.pt 0 0), .sc (.s 0)], [.rb [.i .i64 1, .i .i64 2, .i .i64 3, .i .i64 4, .fz 90 false 5, .fz 156 false 6, .fz 158 false 7]]⟩, post := ⟨[.tu [(false, [.i .i64 0]), (false, [.b 1])]], []⟩, sh := false, cuts := [] }
noncomputable def Lqdk : Option Nat → Lv → Option Lv := Lim Tryz.prog [dqb4.sig (Lqb4 none)] dqdk Tryz.f188
theorem eqdk_i (a0 : ByteArray) (a1 : Int) (a2 : Int) (a3 : Int) (a4 : Int) (a5 : Rw) (a6 : Rw) (a7 : Rw) : Lqdk none [.s a0, .i a1, .i a2, .i a3, .i a4, .l a5, .l a6, .l a7] =
 (Lqb4 none [.i (a6.length : Int), .i a1, .i a2, .i a3, .i a4, .l a5, .l a6, .l a7, .s a0]).bind fun y1 =>
 cond (decide ((g y1 0).int < (a6.length : Int))) (
 cond (inb ((g y1 0).int) a6.length) (
 some [.i ((g y1 0).int), .b (Eng.seq ((rd a6 (((g y1 0).int).toNat) 0).str) a0)]) (
 none)) (
 some [.i ((g y1 0).int), .b false]) := (Lim_eq _ _).trans (by kernel_rfl)
theorem kqdk : SigOk Tryz.prog (dqdk.sig (Lqdk none)) ∧ (dqdk.sig (Lqdk none)).ok = true := sound_lim (known_cons kqb4 (by kernel_rfl) known_nil) (by kernel_rfl) (by kernel_rfl) (by kernel_rfl)
def dqd2 : FD := { fn := 222, nb := 0, pre := ⟨[.sc (.i .i64 0), .sc (.pt 0 0), .sc (.pt 2 0)], [.rb [.pt 1 0], .rb [.i .i64 1, .i .i64 2, .i .i64 3, .i .i64 4, .fz 90 false 5, .fz 156 false 6, .fz 158 false 7], .rb [.i .i64 8]]⟩, post := ⟨[.sc (.b 0)], []⟩, sh := false, cuts := [] }
noncomputable def Lqd2 : Option Nat → Lv → Option Lv := Lim Tryz.prog [] dqd2 Tryz.f222
theorem eqd2_i (a0 : Int) (a1 : Int) (a2 : Int) (a3 : Int) (a4 : Int) (a5 : Rw) (a6 : Rw) (a7 : Rw) (a8 : Int) : Lqd2 none [.i a0, .i a1, .i a2, .i a3, .i a4, .l a5, .l a6, .l a7, .i a8] =
 cond (inb a0 a7.length) (
 some [.b (decide (a8 ≤ (rd a7 a0.toNat 0).int))]) (
 none) := (Lim_eq _ _).trans (by kernel_rfl)
theorem kqd2 : SigOk Tryz.prog (dqd2.sig (Lqd2 none)) ∧ (dqd2.sig (Lqd2 none)).ok = true := sound_lim known_nil (by kernel_rfl) (by kernel_rfl) (by kernel_rfl)
def dqb5 : FD := { fn := 159, nb := 0, pre := ⟨[.sc (.i .i64 0), .sc (.fn 222 [(0, 0), (2, 0)])], [.rb [.pt 1 0], .rb [.i .i64 1, .i .i64 2, .i .i64 3, .i .i64 4, .fz 90 false 5, .fz 156 false 6, .fz 158 false 7], .rb [.i .i64 8]]⟩, post := ⟨[.sc (.i .i64 0)], []⟩, sh := false, cuts := [⟨2, [1, 5, 6], ⟨[.sc (.fn 222 [(0, 0), (1, 0)]), .sc (.i .i64 0), .sc (.i .i64 1)], [.rb [.pt 2 0], .rb [.i .i64 2], .rb [.i .i64 3, .i .i64 4, .i .i64 5, .i .i64 6, .fz 90 false 7, .fz 156 false 8, .fz 158 false 9]]⟩⟩] }
noncomputable def Lqb5 : Option Nat → Lv → Option Lv := Lim Tryz.prog [dqd2.sig (Lqd2 none)] dqb5 Tryz.f159
theorem eqb5_i (a0 : Int) (a1 : Int) (a2 : Int) (a3 : Int) (a4 : Int) (a5 : Rw) (a6 : Rw) (a7 : Rw) (a8 : Int) : Lqb5 none [.i a0, .i a1, .i a2, .i a3, .i a4, .l a5, .l a6, .l a7, .i a8] =
 Lqb5 (some 2) [.i 0, .i a0, .i a8, .i a1, .i a2, .i a3, .i a4, .l a5, .l a6, .l a7] := (Lim_eq _ _).trans (by kernel_rfl)
theorem eqb5_2 (a0 : Int) (a1 : Int) (a2 : Int) (a3 : Int) (a4 : Int) (a5 : Int) (a6 : Int) (a7 : Rw) (a8 : Rw) (a9 : Rw) : Lqb5 (some 2) [.i a0, .i a1, .i a2, .i a3, .i a4, .i a5, .i a6, .l a7, .l a8, .l a9] =
 cond (decide (a0 < a1)) (
 (Lqd2 none [.i (IntKind.i64.wrap ((IntKind.u64.wrap (IntKind.i64.wrap (a0 + a1))).fdiv (2 ^ 1))), .i a3, .i a4, .i a5, .i a6, .l a7, .l a8, .l a9, .i a2]).bind fun y1 =>
 cond (!(g y1 0).bool) (
 Lqb5 (some 2) [.i (IntKind.i64.wrap ((IntKind.i64.wrap ((IntKind.u64.wrap (IntKind.i64.wrap (a0 + a1))).fdiv (2 ^ 1))) + 1)), .i a1, .i a2, .i a3, .i a4, .i a5, .i a6, .l a7, .l a8, .l a9]) (
 Lqb5 (some 2) [.i a0, .i (IntKind.i64.wrap ((IntKind.u64.wrap (IntKind.i64.wrap (a0 + a1))).fdiv (2 ^ 1))), .i a2, .i a3, .i a4, .i a5, .i a6, .l a7, .l a8, .l a9])) (
 some [.i a0]) := (Lim_eq _ _).trans (by kernel_rfl)
theorem kqb5 : SigOk Tryz.prog (dqb5.sig (Lqb5 none)) ∧ (dqb5.sig (Lqb5 none)).ok = true := sound_lim (known_cons kqd2 (by kernel_rfl) known_nil) (by kernel_rfl) (by kernel_rfl) (by kernel_rfl)
def dqdl : FD := { fn := 189, nb := 0, pre := ⟨[.sc (.pt 0 0), .sc (.i .i64 0)], [.rb [.i .i64 1, .i .i64 2, .i .i64 3, .i .i64 4, .fz 90 false 5, .fz 156 false 6, .fz 158 false 7]]⟩, post := ⟨[.tu [(false, [.i .i64 0]), (false, [.b 1])]], []⟩, sh := false, cuts := [] }
noncomputable def Lqdl : Option Nat → Lv → Option Lv := Lim Tryz.prog [dqb5.sig (Lqb5 none)] dqdl Tryz.f189
theorem eqdl_i (a0 : Int) (a1 : Int) (a2 : Int) (a3 : Int) (a4 : Int) (a5 : Rw) (a6 : Rw) (a7 : Rw) : Lqdl none [.i a0, .i a1, .i a2, .i a3, .i a4, .l a5, .l a6, .l a7] =
 (Lqb5 none [.i (a7.length : Int), .i a1, .i a2, .i a3, .i a4, .l a5, .l a6, .l a7, .i a0]).bind fun y1 =>
 cond (decide ((g y1 0).int < (a7.length : Int))) (
 cond (inb ((g y1 0).int) a7.length) (
 some [.i ((g y1 0).int), .b ((rd a7 (((g y1 0).int).toNat) 0).int == a0)]) (
 none)) (
 some [.i ((g y1 0).int), .b false]) := (Lim_eq _ _).trans (by kernel_rfl)
theorem kqdl : SigOk Tryz.prog (dqdl.sig (Lqdl none)) ∧ (dqdl.sig (Lqdl none)).ok = true := sound_lim (known_cons kqb5 (by kernel_rfl) known_nil) (by kernel_rfl) (by kernel_rfl) (by kernel_rfl)
def dqbc : FD := { fn := 190, nb := 0, pre := ⟨[.sc (.pt 0 0), .sc (.s 0)], [.rb [.i .i64 1, .i .i64 2, .i .i64 3, .i .i64 4, .fz 90 false 5, .fz 156 false 6, .fz 158 false 7]]⟩, post := ⟨[.sc (.b 0)], []⟩, sh := false, cuts := [⟨2, [0, 1, 12, 13, 14], ⟨[.sc (.pt 0 0), .sc (.s 0), .sc (.fz 156 false 1), .sc (.i .i64 2), .sc (.i .i64 3)], [.rb [.i .i64 4, .i .i64 5, .i .i64 6, .i .i64 7, .fz 90 false 8, .fz 156 false 9, .fz 158 false 10]]⟩⟩, ⟨8, [1, 26, 27, 28], ⟨[.sc (.s 0), .sc (.fz 158 false 1), .sc (.i .i64 2), .sc (.i .i64 3)], []⟩⟩] }
noncomputable def Lqbc : Option Nat → Lv → Option Lv := Lim Tryz.prog [] dqbc Tryz.f190
theorem eqbc_i (a0 : ByteArray) (a1 : Int) (a2 : Int) (a3 : Int) (a4 : Int) (a5 : Rw) (a6 : Rw) (a7 : Rw) : Lqbc none [.s a0, .i a1, .i a2, .i a3, .i a4, .l a5, .l a6, .l a7] =
 Lqbc (some 2) [.s a0, .l a6, .i (a6.length : Int), .i 0, .i a1, .i a2, .i a3, .i a4, .l a5, .l a6, .l a7] := (Lim_eq _ _).trans (by kernel_rfl)
theorem eqbc_2 (a0 : ByteArray) (a1 : Rw) (a2 : Int) (a3 : Int) (a4 : Int) (a5 : Int) (a6 : Int) (a7 : Int) (a8 : Rw) (a9 : Rw) (a10 : Rw) : Lqbc (some 2) [.s a0, .l a1, .i a2, .i a3, .i a4, .i a5, .i a6, .i a7, .l a8, .l a9, .l a10] =
 cond (decide (a3 < a2)) (
 cond (inb a3 a1.length) (
 cond (Eng.seq ((rd a1 a3.toNat 1).str) a0) (
 some [.b true]) (
 Lqbc (some 2) [.s a0, .l a1, .i a2, .i (IntKind.i64.wrap (a3 + 1)), .i a4, .i a5, .i a6, .i a7, .l a8, .l a9, .l a10])) (
 none)) (
 Lqbc (some 8) [.s a0, .l a10, .i (a10.length : Int), .i 0]) := (Lim_eq _ _).trans (by kernel_rfl)
theorem eqbc_8 (a0 : ByteArray) (a1 : Rw) (a2 : Int) (a3 : Int) : Lqbc (some 8) [.s a0, .l a1, .i a2, .i a3] =
 cond (decide (a3 < a2)) (
 cond (inb a3 a1.length) (
 cond (Eng.seq ((rd a1 a3.toNat 1).str) a0) (
 some [.b true]) (
 Lqbc (some 8) [.s a0, .l a1, .i a2, .i (IntKind.i64.wrap (a3 + 1))])) (
 none)) (
 some [.b false]) := (Lim_eq _ _).trans (by kernel_rfl)
theorem kqbc : SigOk Tryz.prog (dqbc.sig (Lqbc none)) ∧ (dqbc.sig (Lqbc none)).ok = true := sound_lim known_nil (by kernel_rfl) (by kernel_rfl) (by kernel_rfl)
def dqbd : FD := { fn := 191, nb := 0, pre := ⟨[.sc (.pt 0 0), .sc (.s 0)], [.rb [.i .i64 1, .i .i64 2, .i .i64 3, .i .i64 4, .fz 90 false 5, .fz 156 false 6, .fz 158 false 7]]⟩, post := ⟨[.sc (.b 0)], []⟩, sh := false, cuts := [⟨2, [1, 12, 13, 14], ⟨[.sc (.s 0), .sc (.fz 90 false 1), .sc (.i .i64 2), .sc (.i .i64 3)], []⟩⟩, ⟨5, [1, 12, 13, 14, 20, 21, 22], ⟨[.sc (.s 0), .sc (.fz 90 false 1), .sc (.i .i64 2), .sc (.i .i64 3), .sc (.fz 9 false 4), .sc (.i .i64 5), .sc (.i .i64 6)], []⟩⟩] }
noncomputable def Lqbd : Option Nat → Lv → Option Lv := Lim Tryz.prog [] dqbd Tryz.f191
theorem eqbd_i (a0 : ByteArray) (a1 : Int) (a2 : Int) (a3 : Int) (a4 : Int) (a5 : Rw) (a6 : Rw) (a7 : Rw) : Lqbd none [.s a0, .i a1, .i a2, .i a3, .i a4, .l a5, .l a6, .l a7] =
 Lqbd (some 2) [.s a0, .l a5, .i (a5.length : Int), .i 0] := (Lim_eq _ _).trans (by kernel_rfl)
theorem eqbd_2 (a0 : ByteArray) (a1 : Rw) (a2 : Int) (a3 : Int) : Lqbd (some 2) [.s a0, .l a1, .i a2, .i a3] =
 cond (decide (a3 < a2)) (
 cond (inb a3 a1.length) (
 Lqbd (some 5) [.s a0, .l a1, .i a2, .i a3, .l ((rd a1 a3.toNat 3).list), .i (((rd a1 a3.toNat 3).list).length : Int), .i 0]) (
 none)) (
 some [.b false]) := (Lim_eq _ _).trans (by kernel_rfl)
theorem eqbd_5 (a0 : ByteArray) (a1 : Rw) (a2 : Int) (a3 : Int) (a4 : Rw) (a5 : Int) (a6 : Int) : Lqbd (some 5) [.s a0, .l a1, .i a2, .i a3, .l a4, .i a5, .i a6] =
 cond (decide (a6 < a5)) (
 cond (inb a6 a4.length) (
 cond (Eng.seq ((rd a4 a6.toNat 0).str) a0) (
 some [.b true]) (
 Lqbd (some 5) [.s a0, .l a1, .i a2, .i a3, .l a4, .i a5, .i (IntKind.i64.wrap (a6 + 1))])) (
 none)) (
 Lqbd (some 2) [.s a0, .l a1, .i a2, .i (IntKind.i64.wrap (a3 + 1))]) := (Lim_eq _ _).trans (by kernel_rfl)
theorem kqbd : SigOk Tryz.prog (dqbd.sig (Lqbd none)) ∧ (dqbd.sig (Lqbd none)).ok = true := sound_lim known_nil (by kernel_rfl) (by kernel_rfl) (by kernel_rfl)
def dqa : FD := { fn := 120, nb := 1, pre := ⟨[.sc (.pt 0 0), .ag [.i .i64 0, .s 1, .s 2, .i .i64 3, .s 4, .fz 9 false 5]], [.bx [.i .i64 6, .i .i64 7, .i .i64 8, .i .i64 9, .ow 1, .ow 2, .ow 3], .rw 90 false 10, .rw 156 false 11, .rw 158 false 12]⟩, post := ⟨[.ag [.i .i64 0, .i .i64 1, .i .i64 2, .i .i64 3, .i .i64 4, .fz 90 true 5, .fz 156 true 6, .fz 158 true 7, .s 8, .i .i64 9, .s 10, .s 11]], [.bx [.i .i64 12, .i .i64 13, .i .i64 14, .i .i64 15, .ow 1, .ow 2, .ow 3], .rw 90 false 16, .rw 156 false 17, .rw 158 false 18]⟩, sh := true, cuts := [⟨4, [2, 3, 4, 5, 6, 7], ⟨[.sc (.pt 1 0), .sc (.pt 2 0), .sc (.pt 3 0), .sc (.fn 186 []), .sc (.fn 187 [(1, 0), (2, 0)]), .sc (.b 0)], [.bx [.i .i64 1, .i .i64 2, .i .i64 3, .i .i64 4, .ow 4, .ow 5, .ow 6], .bx [.pt 0 0], .bx [.i .i64 5, .s 6, .s 7, .i .i64 8, .s 9, .fz 9 false 10], .bx [.i .i64 11, .i .i64 12, .i .i64 13, .i .i64 14, .i .i64 15, .ow 7, .ow 8, .ow 9, .s 16, .i .i64 17, .s 18, .s 19], .rw 90 false 20, .rw 156 false 21, .rw 158 false 22, .rw 90 true 23, .rw 156 true 24, .rw 158 true 25]⟩⟩, ⟨7, [2, 3, 4, 5, 6, 7, 55, 56, 57], ⟨[.sc (.pt 1 0), .sc (.pt 2 0), .sc (.pt 3 0), .sc (.fn 186 []), .sc (.fn 187 [(1, 0), (2, 0)]), .sc (.b 0), .sc (.fz 9 false 1), .sc (.i .i64 2), .sc (.i .i64 3)], [.bx [.i .i64 4, .i .i64 5, .i .i64 6, .i .i64 7, .ow 4, .ow 5, .ow 6], .bx [.pt 0 0], .bx [.i .i64 8, .s 9, .s 10, .i .i64 11, .s 12, .fz 9 false 13], .bx [.i .i64 14, .i .i64 15, .i .i64 16, .i .i64 17, .i .i64 18, .ow 7, .ow 8, .ow 9, .s 19, .i .i64 20, .s 21, .s 22], .rw 90 false 23, .rw 156 false 24, .rw 158 false 25, .rw 90 true 26, .rw 156 true 27, .rw 158 true 28]⟩⟩, ⟨21, [4, 5], ⟨[.sc (.pt 1 0), .sc (.fn 186 [])], [.bx [.i .i64 0, .i .i64 1, .i .i64 2, .i .i64 3, .ow 2, .ow 3, .ow 4], .bx [.i .i64 4, .i .i64 5, .i .i64 6, .i .i64 7, .i .i64 8, .ow 5, .ow 6, .ow 7, .s 9, .i .i64 10, .s 11, .s 12], .rw 90 false 13, .rw 156 false 14, .rw 158 false 15, .rw 90 true 16, .rw 156 true 17, .rw 158 true 18]⟩⟩, ⟨22, [2, 3, 4, 6, 13, 14, 15], ⟨[.sc (.pt 1 0), .sc (.pt 2 0), .sc (.pt 3 0), .sc (.fn 187 [(1, 0), (2, 0)]), .sc (.s 0), .sc (.i .i64 1), .sc (.b 2)], [.bx [.i .i64 3, .i .i64 4, .i .i64 5, .i .i64 6, .ow 4, .ow 5, .ow 6], .bx [.pt 0 0], .bx [.i .i64 7, .s 8, .s 9, .i .i64 10, .s 11, .fz 9 false 12], .bx [.i .i64 13, .i .i64 14, .i .i64 15, .i .i64 16, .i .i64 17, .ow 7, .ow 8, .ow 9, .s 18, .i .i64 19, .s 20, .s 21], .rw 90 false 22, .rw 156 false 23, .rw 158 false 24, .rw 90 true 25, .rw 156 true 26, .rw 158 true 27]⟩⟩, ⟨27, [4, 6, 13], ⟨[.sc (.pt 1 0), .sc (.fn 187 [(2, 0), (3, 0)]), .sc (.s 0)], [.bx [.i .i64 1, .i .i64 2, .i .i64 3, .i .i64 4, .ow 4, .ow 5, .ow 6], .bx [.i .i64 5, .i .i64 6, .i .i64 7, .i .i64 8, .i .i64 9, .ow 7, .ow 8, .ow 9, .s 10, .i .i64 11, .s 12, .s 13], .bx [.pt 0 0], .bx [.i .i64 14, .s 15, .s 16, .i .i64 17, .s 18, .fz 9 false 19], .rw 90 false 20, .rw 156 false 21, .rw 158 false 22, .rw 90 true 23, .rw 156 true 24, .rw 158 true 25]⟩⟩, ⟨65, [2, 4, 5, 30, 346, 347, 348], ⟨[.sc (.pt 1 0), .sc (.pt 2 0), .sc (.fn 186 []), .sc (.ow 3), .sc (.ow 4), .sc (.i .i64 0), .sc (.i .i64 1)], [.bx [.i .i64 2, .i .i64 3, .i .i64 4, .i .i64 5, .ow 5, .ow 6, .ow 4], .bx [.pt 0 0], .bx [.i .i64 6, .i .i64 7, .i .i64 8, .i .i64 9, .i .i64 10, .ow 7, .ow 8, .ow 9, .s 11, .i .i64 12, .s 13, .s 14], .rw 158 true 15, .rw 158 false 16, .rw 90 false 17, .rw 156 false 18, .rw 90 true 19, .rw 156 true 20, .rw 158 true 21]⟩⟩, ⟨76, [4, 5], ⟨[.sc (.pt 1 0), .sc (.fn 186 [])], [.bx [.i .i64 0, .i .i64 1, .i .i64 2, .i .i64 3, .ow 2, .ow 3, .ow 4], .bx [.i .i64 4, .i .i64 5, .i .i64 6, .i .i64 7, .i .i64 8, .ow 5, .ow 6, .ow 7, .s 9, .i .i64 10, .s 11, .s 12], .rw 90 false 13, .rw 156 false 14, .rw 158 false 15, .rw 90 true 16, .rw 156 true 17, .rw 158 true 18]⟩⟩, ⟨78, [4, 5], ⟨[.sc (.pt 1 0), .sc (.fn 186 [])], [.bx [.i .i64 0, .i .i64 1, .i .i64 2, .i .i64 3, .ow 2, .ow 3, .ow 4], .bx [.i .i64 4, .i .i64 5, .i .i64 6, .i .i64 7, .i .i64 8, .ow 5, .ow 6, .ow 7, .s 9, .i .i64 10, .s 11, .s 12], .rw 90 false 13, .rw 156 false 14, .rw 158 false 15, .rw 90 true 16, .rw 156 true 17, .rw 158 true 18]⟩⟩] }
noncomputable def Lqa : Option Nat → Lv → Option Lv := Lim Tryz.prog [dqbb.sig (Lqbb none), dqbj.sig (Lqbj none), dq0.sig (Lq0 none), dqs.sig (Lqs none), dqbt.sig (Lqbt none), dqdj.sig (Lqdj none), dqdk.sig (Lqdk none), dqdl.sig (Lqdl none), dqbc.sig (Lqbc none), dqbd.sig (Lqbd none)] dqa Tryz.f120
theorem eqa_i (a0 : Int) (a1 : ByteArray) (a2 : ByteArray) (a3 : Int) (a4 : ByteArray) (a5 : Rw) (a6 : Int) (a7 : Int) (a8 : Int) (a9 : Int) (a10 : Rw) (a11 : Rw) (a12 : Rw) : Lqa none [.i a0, .s a1, .s a2, .i a3, .s a4, .l a5, .i a6, .i a7, .i a8, .i a9, .l a10, .l a11, .l a12] =
 cond (decide ((a12.length : Int) < 200)) (
 Lqa (some 4) [.b (decide (a8 < 1000000000)), .i a6, .i a7, .i a8, .i a9, .i a0, .s a1, .s a2, .i a3, .s a4, .l a5, .i 0, .i 0, .i 0, .i 0, .i 0, .s (⟨#[]⟩ : ByteArray), .i 0, .s (⟨#[]⟩ : ByteArray), .s (⟨#[]⟩ : ByteArray), .l a10, .l a11, .l a12, .l [], .l [], .l []]) (
 Lqa (some 4) [.b false, .i a6, .i a7, .i a8, .i a9, .i a0, .s a1, .s a2, .i a3, .s a4, .l a5, .i 0, .i 0, .i 0, .i 0, .i 0, .s (⟨#[]⟩ : ByteArray), .i 0, .s (⟨#[]⟩ : ByteArray), .s (⟨#[]⟩ : ByteArray), .l a10, .l a11, .l a12, .l [], .l [], .l []]) := (Lim_eq _ _).trans (by kernel_rfl)
theorem eqa_4 (a0 : Bool) (a1 : Int) (a2 : Int) (a3 : Int) (a4 : Int) (a5 : Int) (a6 : ByteArray) (a7 : ByteArray) (a8 : Int) (a9 : ByteArray) (a10 : Rw) (a11 : Int) (a12 : Int) (a13 : Int) (a14 : Int) (a15 : Int) (a16 : ByteArray) (a17 : Int) (a18 : ByteArray) (a19 : ByteArray) (a20 : Rw) (a21 : Rw) (a22 : Rw) (a23 : Rw) (a24 : Rw) (a25 : Rw) : Lqa (some 4) [.b a0, .i a1, .i a2, .i a3, .i a4, .i a5, .s a6, .s a7, .i a8, .s a9, .l a10, .i a11, .i a12, .i a13, .i a14, .i a15, .s a16, .i a17, .s a18, .s a19, .l a20, .l a21, .l a22, .l a23, .l a24, .l a25] =
 cond (a5 == 1) (
 Lqa (some 7) [.b a0, .l a10, .i (a10.length : Int), .i 0, .i a1, .i a2, .i a3, .i a4, .i a5, .s a6, .s a7, .i a8, .s a9, .l a10, .i a11, .i a12, .i a13, .i a14, .i a15, .s a16, .i a17, .s a18, .s a19, .l a20, .l a21, .l a22, .l a23, .l a24, .l a25]) (
 cond (a5 == 2) (
 (Lqbj none [.s a6, .i a1, .i a2, .i a3, .i a4, .l a20, .l a21, .l a22]).bind fun y1 =>
 cond (!(g y1 1).bool) (
 (Lqbt none [.i 2]).bind fun y2 =>
 some [.i ((g y2 0).int), .i ((g y2 1).int), .i ((g y2 2).int), .i ((g y2 3).int), .i ((g y2 4).int), .l ((g y2 5).list), .l ((g y2 6).list), .l ((g y2 7).list), .s ((g y2 8).str), .i ((g y2 9).int), .s ((g y2 10).str), .s ((g y2 11).str), .i a1, .i a2, .i a3, .i a4, .l a20, .l a21, .l a22]) (
 (Lqdk none [.s a7, .i a1, .i a2, .i a3, .i a4, .l a20, .l a21, .l a22]).bind fun y3 =>
 cond ((g y3 1).bool) (
 cond (inb ((g y3 0).int) a21.length) (
 (Lqbt none [.i 0]).bind fun y4 =>
 some [.i ((g y4 0).int), .i ((g y4 1).int), .i ((g y4 2).int), .i ((g y4 3).int), .i ((g y4 4).int), .l ((g y4 5).list), .l ((g y4 6).list), .l ((g y4 7).list), .s ((g y4 8).str), .i ((g y4 9).int), .s ((g y4 10).str), .s ((g y4 11).str), .i a1, .i a2, .i a3, .i a4, .l a20, .l (wrs a21 (((g y3 0).int).toNat) 1 ([.s a6] : List C)), .l a22]) (
 none)) (
 cond ((a21.length : Int) == 100) (
 (Lqbt none [.i 4]).bind fun y5 =>
 some [.i ((g y5 0).int), .i ((g y5 1).int), .i ((g y5 2).int), .i ((g y5 3).int), .i ((g y5 4).int), .l ((g y5 5).list), .l ((g y5 6).list), .l ((g y5 7).list), .s ((g y5 8).str), .i ((g y5 9).int), .s ((g y5 10).str), .s ((g y5 11).str), .i a1, .i a2, .i a3, .i a4, .l a20, .l a21, .l a22]) (
 cond (decide (0 ≤ (g y3 0).int)) (
 cond (decide ((g y3 0).int ≤ (a21.length : Int))) (
 cond (decide ((Eng.sub a21 0 ((g y3 0).int).toNat).length ≤ most)) (
 cond (decide ((Eng.sub a21 0 ((g y3 0).int).toNat).length + ([[.s a7, .s a6]] : Rw).length ≤ most)) (
 cond (decide (0 ≤ (g y3 0).int)) (
 cond (decide ((g y3 0).int ≤ (a21.length : Int))) (
 cond (decide (((Eng.sub a21 0 ((g y3 0).int).toNat) ++ ([[.s a7, .s a6]] : Rw)).length + (Eng.sub a21 ((g y3 0).int).toNat a21.length).length ≤ most)) (
 Lqa (some 78) [.i a1, .i a2, .i a3, .i a4, .i a11, .i a12, .i a13, .i a14, .i a15, .s a16, .i a17, .s a18, .s a19, .l a20, .l (((Eng.sub a21 0 ((g y3 0).int).toNat) ++ ([[.s a7, .s a6]] : Rw)) ++ (Eng.sub a21 ((g y3 0).int).toNat a21.length)), .l a22, .l a23, .l a24, .l a25]) (
 none)) (
 none)) (
 none)) (
 none)) (
 none)) (
 none)) (
 none))))) (
 cond (a5 == 3) (
 (Lqdk none [.s a7, .i a1, .i a2, .i a3, .i a4, .l a20, .l a21, .l a22]).bind fun y6 =>
 cond (!(g y6 1).bool) (
 (Lqbt none [.i 5]).bind fun y7 =>
 some [.i ((g y7 0).int), .i ((g y7 1).int), .i ((g y7 2).int), .i ((g y7 3).int), .i ((g y7 4).int), .l ((g y7 5).list), .l ((g y7 6).list), .l ((g y7 7).list), .s ((g y7 8).str), .i ((g y7 9).int), .s ((g y7 10).str), .s ((g y7 11).str), .i a1, .i a2, .i a3, .i a4, .l a20, .l a21, .l a22]) (
 cond (decide (0 ≤ (g y6 0).int)) (
 cond (decide ((g y6 0).int ≤ (a21.length : Int))) (
 cond (decide (0 ≤ (IntKind.i64.wrap ((g y6 0).int + 1)))) (
 cond (decide ((IntKind.i64.wrap ((g y6 0).int + 1)) ≤ (a21.length : Int))) (
 cond (decide ((Eng.sub a21 0 (((g y6 0).int).toNat)).length + (Eng.sub a21 (IntKind.i64.wrap ((g y6 0).int + 1)).toNat a21.length).length ≤ most)) (
 Lqa (some 78) [.i a1, .i a2, .i a3, .i a4, .i a11, .i a12, .i a13, .i a14, .i a15, .s a16, .i a17, .s a18, .s a19, .l a20, .l ((Eng.sub a21 0 (((g y6 0).int).toNat)) ++ (Eng.sub a21 (IntKind.i64.wrap ((g y6 0).int + 1)).toNat a21.length)), .l a22, .l a23, .l a24, .l a25]) (
 none)) (
 none)) (
 none)) (
 none)) (
 none))) (
 cond (a5 == 4) (
 (Lqbj none [.s a6, .i a1, .i a2, .i a3, .i a4, .l a20, .l a21, .l a22]).bind fun y8 =>
 cond (!(g y8 1).bool) (
 (Lqbt none [.i 2]).bind fun y9 =>
 some [.i ((g y9 0).int), .i ((g y9 1).int), .i ((g y9 2).int), .i ((g y9 3).int), .i ((g y9 4).int), .l ((g y9 5).list), .l ((g y9 6).list), .l ((g y9 7).list), .s ((g y9 8).str), .i ((g y9 9).int), .s ((g y9 10).str), .s ((g y9 11).str), .i a1, .i a2, .i a3, .i a4, .l a20, .l a21, .l a22]) (
 cond (!a0) (
 (Lqbt none [.i 4]).bind fun y10 =>
 some [.i ((g y10 0).int), .i ((g y10 1).int), .i ((g y10 2).int), .i ((g y10 3).int), .i ((g y10 4).int), .l ((g y10 5).list), .l ((g y10 6).list), .l ((g y10 7).list), .s ((g y10 8).str), .i ((g y10 9).int), .s ((g y10 10).str), .s ((g y10 11).str), .i a1, .i a2, .i a3, .i a4, .l a20, .l a21, .l a22]) (
 (Lqdj none [.s a6, .i a1, .i a2, .i a3, .i a4, .i a5, .s a6, .s a7, .i a8, .s a9, .l a10, .l a20, .l a21, .l a22]).bind fun y11 =>
 some [.i ((g y11 0).int), .i ((g y11 1).int), .i ((g y11 2).int), .i ((g y11 3).int), .i ((g y11 4).int), .l ((g y11 5).list), .l ((g y11 6).list), .l ((g y11 7).list), .s ((g y11 8).str), .i ((g y11 9).int), .s ((g y11 10).str), .s ((g y11 11).str), .i ((g y11 12).int), .i ((g y11 13).int), .i ((g y11 14).int), .i ((g y11 15).int), .l ((g y11 22).list), .l ((g y11 23).list), .l ((g y11 24).list)]))) (
 cond (a5 == 5) (
 (Lqdl none [.i a8, .i a1, .i a2, .i a3, .i a4, .l a20, .l a21, .l a22]).bind fun y12 =>
 cond (!(g y12 1).bool) (
 (Lqbt none [.i 5]).bind fun y13 =>
 some [.i ((g y13 0).int), .i ((g y13 1).int), .i ((g y13 2).int), .i ((g y13 3).int), .i ((g y13 4).int), .l ((g y13 5).list), .l ((g y13 6).list), .l ((g y13 7).list), .s ((g y13 8).str), .i ((g y13 9).int), .s ((g y13 10).str), .s ((g y13 11).str), .i a1, .i a2, .i a3, .i a4, .l a20, .l a21, .l a22]) (
 cond (decide (0 ≤ (g y12 0).int)) (
 cond (decide ((g y12 0).int ≤ (a22.length : Int))) (
 cond (decide (0 ≤ (IntKind.i64.wrap ((g y12 0).int + 1)))) (
 cond (decide ((IntKind.i64.wrap ((g y12 0).int + 1)) ≤ (a22.length : Int))) (
 cond (decide ((Eng.sub a22 0 (((g y12 0).int).toNat)).length + (Eng.sub a22 (IntKind.i64.wrap ((g y12 0).int + 1)).toNat a22.length).length ≤ most)) (
 Lqa (some 78) [.i a1, .i a2, .i a3, .i a4, .i a11, .i a12, .i a13, .i a14, .i a15, .s a16, .i a17, .s a18, .s a19, .l a20, .l a21, .l ((Eng.sub a22 0 (((g y12 0).int).toNat)) ++ (Eng.sub a22 (IntKind.i64.wrap ((g y12 0).int + 1)).toNat a22.length)), .l a23, .l a24, .l a25]) (
 none)) (
 none)) (
 none)) (
 none)) (
 none))) (
 cond (a5 == 6) (
 cond (decide (1000000000 < (IntKind.i64.wrap (a2 + a8)))) (
 (Lqbt none [.i 4]).bind fun y14 =>
 some [.i ((g y14 0).int), .i ((g y14 1).int), .i ((g y14 2).int), .i ((g y14 3).int), .i ((g y14 4).int), .l ((g y14 5).list), .l ((g y14 6).list), .l ((g y14 7).list), .s ((g y14 8).str), .i ((g y14 9).int), .s ((g y14 10).str), .s ((g y14 11).str), .i a1, .i a2, .i a3, .i a4, .l a20, .l a21, .l a22]) (
 Lqa (some 65) [.i (a22.length : Int), .i 0, .i a1, .i (IntKind.i64.wrap (a2 + a8)), .i a3, .i a4, .i a11, .i a12, .i a13, .i a14, .i a15, .s a16, .i a17, .s a18, .s a19, .l [], .l a22, .l a20, .l a21, .l a23, .l a24, .l a25])) (
 cond (a5 == 7) (
 (Lqbj none [.s a6, .i a1, .i a2, .i a3, .i a4, .l a20, .l a21, .l a22]).bind fun y15 =>
 cond (!(g y15 1).bool) (
 (Lqbt none [.i 2]).bind fun y16 =>
 some [.i ((g y16 0).int), .i ((g y16 1).int), .i ((g y16 2).int), .i ((g y16 3).int), .i ((g y16 4).int), .l ((g y16 5).list), .l ((g y16 6).list), .l ((g y16 7).list), .s ((g y16 8).str), .i ((g y16 9).int), .s ((g y16 10).str), .s ((g y16 11).str), .i a1, .i a2, .i a3, .i a4, .l a20, .l a21, .l a22]) (
 (Lqbc none [.s a6, .i a1, .i a2, .i a3, .i a4, .l a20, .l a21, .l a22]).bind fun y17 =>
 cond ((g y17 0).bool) (
 Lqa (some 76) [.i a1, .i a2, .i a3, .i a4, .i a11, .i a12, .i a13, .i a14, .i a15, .s a16, .i a17, .s a18, .s a19, .l a20, .l a21, .l a22, .l a23, .l a24, .l a25]) (
 (Lqbd none [.s a6, .i a1, .i a2, .i a3, .i a4, .l a20, .l a21, .l a22]).bind fun y18 =>
 cond ((g y18 0).bool) (
 Lqa (some 76) [.i a1, .i a2, .i a3, .i a4, .i a11, .i a12, .i a13, .i a14, .i a15, .s a16, .i a17, .s a18, .s a19, .l a20, .l a21, .l a22, .l a23, .l a24, .l a25]) (
 cond (decide (0 ≤ (g y15 0).int)) (
 cond (decide ((g y15 0).int ≤ (a20.length : Int))) (
 cond (decide (0 ≤ (IntKind.i64.wrap ((g y15 0).int + 1)))) (
 cond (decide ((IntKind.i64.wrap ((g y15 0).int + 1)) ≤ (a20.length : Int))) (
 cond (decide ((Eng.sub a20 0 (((g y15 0).int).toNat)).length + (Eng.sub a20 (IntKind.i64.wrap ((g y15 0).int + 1)).toNat a20.length).length ≤ most)) (
 Lqa (some 78) [.i a1, .i a2, .i a3, .i a4, .i a11, .i a12, .i a13, .i a14, .i a15, .s a16, .i a17, .s a18, .s a19, .l ((Eng.sub a20 0 (((g y15 0).int).toNat)) ++ (Eng.sub a20 (IntKind.i64.wrap ((g y15 0).int + 1)).toNat a20.length)), .l a21, .l a22, .l a23, .l a24, .l a25]) (
 none)) (
 none)) (
 none)) (
 none)) (
 none))))) (
 Lqa (some 78) [.i a1, .i a2, .i a3, .i a4, .i a11, .i a12, .i a13, .i a14, .i a15, .s a16, .i a17, .s a18, .s a19, .l a20, .l a21, .l a22, .l a23, .l a24, .l a25]))))))) := (Lim_eq _ _).trans (by kernel_rfl)
theorem eqa_7 (a0 : Bool) (a1 : Rw) (a2 : Int) (a3 : Int) (a4 : Int) (a5 : Int) (a6 : Int) (a7 : Int) (a8 : Int) (a9 : ByteArray) (a10 : ByteArray) (a11 : Int) (a12 : ByteArray) (a13 : Rw) (a14 : Int) (a15 : Int) (a16 : Int) (a17 : Int) (a18 : Int) (a19 : ByteArray) (a20 : Int) (a21 : ByteArray) (a22 : ByteArray) (a23 : Rw) (a24 : Rw) (a25 : Rw) (a26 : Rw) (a27 : Rw) (a28 : Rw) : Lqa (some 7) [.b a0, .l a1, .i a2, .i a3, .i a4, .i a5, .i a6, .i a7, .i a8, .s a9, .s a10, .i a11, .s a12, .l a13, .i a14, .i a15, .i a16, .i a17, .i a18, .s a19, .i a20, .s a21, .s a22, .l a23, .l a24, .l a25, .l a26, .l a27, .l a28] =
 cond (decide (a3 < a2)) (
 cond (inb a3 a1.length) (
 (Lqbj none [.s ((rd a1 a3.toNat 0).str), .i a4, .i a5, .i a6, .i a7, .l a23, .l a24, .l a25]).bind fun y1 =>
 cond (!(g y1 1).bool) (
 (Lqbt none [.i 2]).bind fun y2 =>
 some [.i ((g y2 0).int), .i ((g y2 1).int), .i ((g y2 2).int), .i ((g y2 3).int), .i ((g y2 4).int), .l ((g y2 5).list), .l ((g y2 6).list), .l ((g y2 7).list), .s ((g y2 8).str), .i ((g y2 9).int), .s ((g y2 10).str), .s ((g y2 11).str), .i a4, .i a5, .i a6, .i a7, .l a23, .l a24, .l a25]) (
 Lqa (some 7) [.b a0, .l a1, .i a2, .i (IntKind.i64.wrap (a3 + 1)), .i a4, .i a5, .i a6, .i a7, .i a8, .s a9, .s a10, .i a11, .s a12, .l a13, .i a14, .i a15, .i a16, .i a17, .i a18, .s a19, .i a20, .s a21, .s a22, .l a23, .l a24, .l a25, .l a26, .l a27, .l a28])) (
 none)) (
 (Lqs none [.s a12, .l a13]).bind fun y3 =>
 (Lqbb none [.s ((g y3 0).str), .i a4]).bind fun y4 =>
 (Lqbj none [.s ((g y4 0).str), .i a4, .i a5, .i a6, .i a7, .l a23, .l a24, .l a25]).bind fun y5 =>
 cond ((g y5 1).bool) (
 cond (inb ((g y5 0).int) a23.length) (
 (Lqs none [.s ((rd a23 (((g y5 0).int).toNat) 2).str), .l ((rd a23 (((g y5 0).int).toNat) 3).list)]).bind fun y6 =>
 cond (!Eng.seq ((g y6 0).str) ((g y3 0).str)) (
 some [.i 3, .i 0, .i 0, .i 0, .i 0, .l ([]), .l ([]), .l ([]), .s (⟨#[]⟩ : ByteArray), .i 0, .s ((g y6 0).str), .s ((g y3 0).str), .i a4, .i a5, .i a6, .i a7, .l a23, .l a24, .l a25]) (
 cond (!a0) (
 Lqa (some 21) [.i a4, .i a5, .i a6, .i a7, .i a14, .i a15, .i a16, .i a17, .i a18, .s a19, .i a20, .s a21, .s a22, .l a23, .l a24, .l a25, .l a26, .l a27, .l a28]) (
 cond (!(g y5 1).bool) (
 cond ((a23.length : Int) == 600) (
 Lqa (some 21) [.i a4, .i a5, .i a6, .i a7, .i a14, .i a15, .i a16, .i a17, .i a18, .s a19, .i a20, .s a21, .s a22, .l a23, .l a24, .l a25, .l a26, .l a27, .l a28]) (
 cond (a7 == 1000000000) (
 Lqa (some 21) [.i a4, .i a5, .i a6, .i a7, .i a14, .i a15, .i a16, .i a17, .i a18, .s a19, .i a20, .s a21, .s a22, .l a23, .l a24, .l a25, .l a26, .l a27, .l a28]) (
 Lqa (some 22) [.s ((g y4 0).str), .i ((g y5 0).int), .b ((g y5 1).bool), .i a4, .i a5, .i a6, .i a7, .i a8, .s a9, .s a10, .i a11, .s a12, .l a13, .i a14, .i a15, .i a16, .i a17, .i a18, .s a19, .i a20, .s a21, .s a22, .l a23, .l a24, .l a25, .l a26, .l a27, .l a28]))) (
 Lqa (some 22) [.s ((g y4 0).str), .i ((g y5 0).int), .b ((g y5 1).bool), .i a4, .i a5, .i a6, .i a7, .i a8, .s a9, .s a10, .i a11, .s a12, .l a13, .i a14, .i a15, .i a16, .i a17, .i a18, .s a19, .i a20, .s a21, .s a22, .l a23, .l a24, .l a25, .l a26, .l a27, .l a28])))) (
 none)) (
 cond (!a0) (
 Lqa (some 21) [.i a4, .i a5, .i a6, .i a7, .i a14, .i a15, .i a16, .i a17, .i a18, .s a19, .i a20, .s a21, .s a22, .l a23, .l a24, .l a25, .l a26, .l a27, .l a28]) (
 cond (!(g y5 1).bool) (
 cond ((a23.length : Int) == 600) (
 Lqa (some 21) [.i a4, .i a5, .i a6, .i a7, .i a14, .i a15, .i a16, .i a17, .i a18, .s a19, .i a20, .s a21, .s a22, .l a23, .l a24, .l a25, .l a26, .l a27, .l a28]) (
 cond (a7 == 1000000000) (
 Lqa (some 21) [.i a4, .i a5, .i a6, .i a7, .i a14, .i a15, .i a16, .i a17, .i a18, .s a19, .i a20, .s a21, .s a22, .l a23, .l a24, .l a25, .l a26, .l a27, .l a28]) (
 Lqa (some 22) [.s ((g y4 0).str), .i ((g y5 0).int), .b ((g y5 1).bool), .i a4, .i a5, .i a6, .i a7, .i a8, .s a9, .s a10, .i a11, .s a12, .l a13, .i a14, .i a15, .i a16, .i a17, .i a18, .s a19, .i a20, .s a21, .s a22, .l a23, .l a24, .l a25, .l a26, .l a27, .l a28]))) (
 Lqa (some 22) [.s ((g y4 0).str), .i ((g y5 0).int), .b ((g y5 1).bool), .i a4, .i a5, .i a6, .i a7, .i a8, .s a9, .s a10, .i a11, .s a12, .l a13, .i a14, .i a15, .i a16, .i a17, .i a18, .s a19, .i a20, .s a21, .s a22, .l a23, .l a24, .l a25, .l a26, .l a27, .l a28])))) := (Lim_eq _ _).trans (by kernel_rfl)
theorem eqa_21 (a0 : Int) (a1 : Int) (a2 : Int) (a3 : Int) (a4 : Int) (a5 : Int) (a6 : Int) (a7 : Int) (a8 : Int) (a9 : ByteArray) (a10 : Int) (a11 : ByteArray) (a12 : ByteArray) (a13 : Rw) (a14 : Rw) (a15 : Rw) (a16 : Rw) (a17 : Rw) (a18 : Rw) : Lqa (some 21) [.i a0, .i a1, .i a2, .i a3, .i a4, .i a5, .i a6, .i a7, .i a8, .s a9, .i a10, .s a11, .s a12, .l a13, .l a14, .l a15, .l a16, .l a17, .l a18] =
 (Lqbt none [.i 4]).bind fun y1 =>
 some [.i ((g y1 0).int), .i ((g y1 1).int), .i ((g y1 2).int), .i ((g y1 3).int), .i ((g y1 4).int), .l ((g y1 5).list), .l ((g y1 6).list), .l ((g y1 7).list), .s ((g y1 8).str), .i ((g y1 9).int), .s ((g y1 10).str), .s ((g y1 11).str), .i a0, .i a1, .i a2, .i a3, .l a13, .l a14, .l a15] := (Lim_eq _ _).trans (by kernel_rfl)
theorem eqa_22 (a0 : ByteArray) (a1 : Int) (a2 : Bool) (a3 : Int) (a4 : Int) (a5 : Int) (a6 : Int) (a7 : Int) (a8 : ByteArray) (a9 : ByteArray) (a10 : Int) (a11 : ByteArray) (a12 : Rw) (a13 : Int) (a14 : Int) (a15 : Int) (a16 : Int) (a17 : Int) (a18 : ByteArray) (a19 : Int) (a20 : ByteArray) (a21 : ByteArray) (a22 : Rw) (a23 : Rw) (a24 : Rw) (a25 : Rw) (a26 : Rw) (a27 : Rw) : Lqa (some 22) [.s a0, .i a1, .b a2, .i a3, .i a4, .i a5, .i a6, .i a7, .s a8, .s a9, .i a10, .s a11, .l a12, .i a13, .i a14, .i a15, .i a16, .i a17, .s a18, .i a19, .s a20, .s a21, .l a22, .l a23, .l a24, .l a25, .l a26, .l a27] =
 cond (!a2) (
 cond (decide (0 ≤ a1)) (
 cond (decide (a1 ≤ (a22.length : Int))) (
 cond (decide ((Eng.sub a22 0 a1.toNat).length ≤ most)) (
 (Lq0 none [.l a12]).bind fun y1 =>
 cond (decide ((Eng.sub a22 0 a1.toNat).length + ([[.s a0, .i (IntKind.i64.wrap (a6 + 1)), .s a11, .l ((g y1 0).list)]] : Rw).length ≤ most)) (
 cond (decide (0 ≤ a1)) (
 cond (decide (a1 ≤ (a22.length : Int))) (
 cond (decide (((Eng.sub a22 0 a1.toNat) ++ ([[.s a0, .i (IntKind.i64.wrap (a6 + 1)), .s a11, .l ((g y1 0).list)]] : Rw)).length + (Eng.sub a22 a1.toNat a22.length).length ≤ most)) (
 Lqa (some 27) [.s a0, .i a3, .i a4, .i a5, .i (IntKind.i64.wrap (a6 + 1)), .i a13, .i a14, .i a15, .i a16, .i a17, .s a18, .i a19, .s a20, .s a21, .i a7, .s a8, .s a9, .i a10, .s a11, .l a12, .l (((Eng.sub a22 0 a1.toNat) ++ ([[.s a0, .i (IntKind.i64.wrap (a6 + 1)), .s a11, .l ((g y1 0).list)]] : Rw)) ++ (Eng.sub a22 a1.toNat a22.length)), .l a23, .l a24, .l a25, .l a26, .l a27]) (
 none)) (
 none)) (
 none)) (
 none)) (
 none)) (
 none)) (
 none)) (
 Lqa (some 27) [.s a0, .i a3, .i a4, .i a5, .i a6, .i a13, .i a14, .i a15, .i a16, .i a17, .s a18, .i a19, .s a20, .s a21, .i a7, .s a8, .s a9, .i a10, .s a11, .l a12, .l a22, .l a23, .l a24, .l a25, .l a26, .l a27]) := (Lim_eq _ _).trans (by kernel_rfl)
theorem eqa_27 (a0 : ByteArray) (a1 : Int) (a2 : Int) (a3 : Int) (a4 : Int) (a5 : Int) (a6 : Int) (a7 : Int) (a8 : Int) (a9 : Int) (a10 : ByteArray) (a11 : Int) (a12 : ByteArray) (a13 : ByteArray) (a14 : Int) (a15 : ByteArray) (a16 : ByteArray) (a17 : Int) (a18 : ByteArray) (a19 : Rw) (a20 : Rw) (a21 : Rw) (a22 : Rw) (a23 : Rw) (a24 : Rw) (a25 : Rw) : Lqa (some 27) [.s a0, .i a1, .i a2, .i a3, .i a4, .i a5, .i a6, .i a7, .i a8, .i a9, .s a10, .i a11, .s a12, .s a13, .i a14, .s a15, .s a16, .i a17, .s a18, .l a19, .l a20, .l a21, .l a22, .l a23, .l a24, .l a25] =
 (Lqdj none [.s a0, .i a1, .i a2, .i a3, .i a4, .i a14, .s a15, .s a16, .i a17, .s a18, .l a19, .l a20, .l a21, .l a22]).bind fun y1 =>
 some [.i ((g y1 0).int), .i ((g y1 1).int), .i ((g y1 2).int), .i ((g y1 3).int), .i ((g y1 4).int), .l ((g y1 5).list), .l ((g y1 6).list), .l ((g y1 7).list), .s a0, .i ((g y1 9).int), .s ((g y1 10).str), .s ((g y1 11).str), .i ((g y1 12).int), .i ((g y1 13).int), .i ((g y1 14).int), .i ((g y1 15).int), .l ((g y1 22).list), .l ((g y1 23).list), .l ((g y1 24).list)] := (Lim_eq _ _).trans (by kernel_rfl)
theorem eqa_65 (a0 : Int) (a1 : Int) (a2 : Int) (a3 : Int) (a4 : Int) (a5 : Int) (a6 : Int) (a7 : Int) (a8 : Int) (a9 : Int) (a10 : Int) (a11 : ByteArray) (a12 : Int) (a13 : ByteArray) (a14 : ByteArray) (a15 : Rw) (a16 : Rw) (a17 : Rw) (a18 : Rw) (a19 : Rw) (a20 : Rw) (a21 : Rw) : Lqa (some 65) [.i a0, .i a1, .i a2, .i a3, .i a4, .i a5, .i a6, .i a7, .i a8, .i a9, .i a10, .s a11, .i a12, .s a13, .s a14, .l a15, .l a16, .l a17, .l a18, .l a19, .l a20, .l a21] =
 cond (decide (a1 < a0)) (
 cond (inb a1 a16.length) (
 cond (decide (a3 < (rd a16 a1.toNat 2).int)) (
 cond (decide (a15.length + ([[.i ((rd a16 a1.toNat 0).int), .s ((rd a16 a1.toNat 1).str), .i ((rd a16 a1.toNat 2).int)]] : Rw).length ≤ most)) (
 Lqa (some 65) [.i a0, .i (IntKind.i64.wrap (a1 + 1)), .i a2, .i a3, .i a4, .i a5, .i a6, .i a7, .i a8, .i a9, .i a10, .s a11, .i a12, .s a13, .s a14, .l (a15 ++ ([[.i ((rd a16 a1.toNat 0).int), .s ((rd a16 a1.toNat 1).str), .i ((rd a16 a1.toNat 2).int)]] : Rw)), .l a16, .l a17, .l a18, .l a19, .l a20, .l a21]) (
 none)) (
 Lqa (some 65) [.i a0, .i (IntKind.i64.wrap (a1 + 1)), .i a2, .i a3, .i a4, .i a5, .i a6, .i a7, .i a8, .i a9, .i a10, .s a11, .i a12, .s a13, .s a14, .l a15, .l a16, .l a17, .l a18, .l a19, .l a20, .l a21])) (
 none)) (
 Lqa (some 78) [.i a2, .i a3, .i a4, .i a5, .i a6, .i a7, .i a8, .i a9, .i a10, .s a11, .i a12, .s a13, .s a14, .l a17, .l a18, .l a15, .l a19, .l a20, .l a21]) := (Lim_eq _ _).trans (by kernel_rfl)
theorem eqa_76 (a0 : Int) (a1 : Int) (a2 : Int) (a3 : Int) (a4 : Int) (a5 : Int) (a6 : Int) (a7 : Int) (a8 : Int) (a9 : ByteArray) (a10 : Int) (a11 : ByteArray) (a12 : ByteArray) (a13 : Rw) (a14 : Rw) (a15 : Rw) (a16 : Rw) (a17 : Rw) (a18 : Rw) : Lqa (some 76) [.i a0, .i a1, .i a2, .i a3, .i a4, .i a5, .i a6, .i a7, .i a8, .s a9, .i a10, .s a11, .s a12, .l a13, .l a14, .l a15, .l a16, .l a17, .l a18] =
 (Lqbt none [.i 6]).bind fun y1 =>
 some [.i ((g y1 0).int), .i ((g y1 1).int), .i ((g y1 2).int), .i ((g y1 3).int), .i ((g y1 4).int), .l ((g y1 5).list), .l ((g y1 6).list), .l ((g y1 7).list), .s ((g y1 8).str), .i ((g y1 9).int), .s ((g y1 10).str), .s ((g y1 11).str), .i a0, .i a1, .i a2, .i a3, .l a13, .l a14, .l a15] := (Lim_eq _ _).trans (by kernel_rfl)
theorem eqa_78 (a0 : Int) (a1 : Int) (a2 : Int) (a3 : Int) (a4 : Int) (a5 : Int) (a6 : Int) (a7 : Int) (a8 : Int) (a9 : ByteArray) (a10 : Int) (a11 : ByteArray) (a12 : ByteArray) (a13 : Rw) (a14 : Rw) (a15 : Rw) (a16 : Rw) (a17 : Rw) (a18 : Rw) : Lqa (some 78) [.i a0, .i a1, .i a2, .i a3, .i a4, .i a5, .i a6, .i a7, .i a8, .s a9, .i a10, .s a11, .s a12, .l a13, .l a14, .l a15, .l a16, .l a17, .l a18] =
 (Lqbt none [.i 0]).bind fun y1 =>
 some [.i ((g y1 0).int), .i ((g y1 1).int), .i ((g y1 2).int), .i ((g y1 3).int), .i ((g y1 4).int), .l ((g y1 5).list), .l ((g y1 6).list), .l ((g y1 7).list), .s ((g y1 8).str), .i ((g y1 9).int), .s ((g y1 10).str), .s ((g y1 11).str), .i a0, .i a1, .i a2, .i a3, .l a13, .l a14, .l a15] := (Lim_eq _ _).trans (by kernel_rfl)
theorem kqa : SigOk Tryz.prog (dqa.sig (Lqa none)) ∧ (dqa.sig (Lqa none)).ok = true := sound_lim (known_cons kqbb (by kernel_rfl) (known_cons kqbj (by kernel_rfl) (known_cons kq0 (by kernel_rfl) (known_cons kqs (by kernel_rfl) (known_cons kqbt (by kernel_rfl) (known_cons kqdj (by kernel_rfl) (known_cons kqdk (by kernel_rfl) (known_cons kqdl (by kernel_rfl) (known_cons kqbc (by kernel_rfl) (known_cons kqbd (by kernel_rfl) known_nil)))))))))) (by kernel_rfl) (by kernel_rfl) (by kernel_rfl)
def dqdm : FD := { fn := 116, nb := 0, pre := ⟨[.ag [], .sc (.fz 5 false 0)], []⟩, post := ⟨[.sc (.i .u32 0)], []⟩, sh := false, cuts := [] }
noncomputable def Lqdm : Option Nat → Lv → Option Lv := Lim Tryz.prog [] dqdm Tryz.f116
theorem eqdm_i (a0 : Rw) : Lqdm none [.l a0] =
 cond (inb 3 a0.length) (
 cond (inb 3 a0.length) (
 cond (inb 2 a0.length) (
 cond (inb 1 a0.length) (
 cond (inb 0 a0.length) (
 some [.i (IntKind.u32.wrap (BitVec.ofInt (IntKind.u32).bits (IntKind.u32.wrap (BitVec.ofInt (IntKind.u32).bits (IntKind.u32.wrap (BitVec.ofInt (IntKind.u32).bits (IntKind.u32.wrap ((rd a0 3 0).int)) ||| BitVec.ofInt (IntKind.u32).bits (IntKind.u32.wrap ((IntKind.u32.wrap ((rd a0 2 0).int)) * 2 ^ 8))).toNat) ||| BitVec.ofInt (IntKind.u32).bits (IntKind.u32.wrap ((IntKind.u32.wrap ((rd a0 1 0).int)) * 2 ^ 16))).toNat) ||| BitVec.ofInt (IntKind.u32).bits (IntKind.u32.wrap ((IntKind.u32.wrap ((rd a0 0 0).int)) * 2 ^ 24))).toNat)]) (
 none)) (
 none)) (
 none)) (
 none)) (
 none) := (Lim_eq _ _).trans (by kernel_rfl)
theorem kqdm : SigOk Tryz.prog (dqdm.sig (Lqdm none)) ∧ (dqdm.sig (Lqdm none)).ok = true := sound_lim known_nil (by kernel_rfl) (by kernel_rfl) (by kernel_rfl)
def dqb6 : FD := { fn := 117, nb := 0, pre := ⟨[.sc (.s 0), .sc (.i .i64 1)], []⟩, post := ⟨[.tu [(true, [.s 0, .ow 0]), (false, [.b 1])]], [.rw 9 true 2]⟩, sh := false, cuts := [⟨6, [0, 1, 4, 6, 7], ⟨[.sc (.s 0), .sc (.i .i64 1), .sc (.pt 0 0), .sc (.pt 1 0), .sc (.i .i64 2)], [.bx [.s 3, .ow 2], .bx [.s 4, .ow 3], .rw 9 true 5, .rw 9 true 6]⟩⟩] }
noncomputable def Lqb6 : Option Nat → Lv → Option Lv := Lim Tryz.prog [dq3.sig (Lq3 none), dqba.sig (Lqba none)] dqb6 Tryz.f117
theorem eqb6_i (a0 : ByteArray) (a1 : Int) : Lqb6 none [.s a0, .i a1] =
 (Lq3 none [.i a1]).bind fun y1 =>
 cond (!(g y1 0).bool) (
 some [.s (⟨#[]⟩ : ByteArray), .b false, .l []]) (
 cond (Eng.seq a0 (⟨#[]⟩ : ByteArray)) (
 some [.s (⟨#[]⟩ : ByteArray), .b false, .l []]) (
 cond (inb 0 a0.size) (
 cond (decide ((a0.size : Int) < (IntKind.i64.wrap (1 + (IntKind.i64.wrap ((IntKind.i64.wrap (byteAt a0 0)) * a1)))))) (
 some [.s (⟨#[]⟩ : ByteArray), .b false, .l []]) (
 cond (inb 0 a0.size) (
 cond (decide (1 ≤ (a0.size : Int))) (
 Lqb6 (some 6) [.s (a0.extract 1 a0.size), .i a1, .i (IntKind.i64.wrap (byteAt a0 0)), .s (⟨#[]⟩ : ByteArray), .s (⟨#[]⟩ : ByteArray), .l [], .l []]) (
 none)) (
 none))) (
 none))) := (Lim_eq _ _).trans (by kernel_rfl)
theorem eqb6_6 (a0 : ByteArray) (a1 : Int) (a2 : Int) (a3 : ByteArray) (a4 : ByteArray) (a5 : Rw) (a6 : Rw) : Lqb6 (some 6) [.s a0, .i a1, .i a2, .s a3, .s a4, .l a5, .l a6] =
 cond (decide (0 < a2)) (
 cond (decide (0 ≤ a1)) (
 cond (decide (a1 ≤ (a0.size : Int))) (
 cond (decide (a6.length + ([[.s (a0.extract 0 a1.toNat)]] : Rw).length ≤ most)) (
 cond (decide (0 ≤ a1)) (
 cond (decide (a1 ≤ (a0.size : Int))) (
 Lqb6 (some 6) [.s (a0.extract a1.toNat a0.size), .i a1, .i (IntKind.i64.wrap (a2 - 1)), .s a3, .s a4, .l a5, .l (a6 ++ ([[.s (a0.extract 0 a1.toNat)]] : Rw))]) (
 none)) (
 none)) (
 none)) (
 none)) (
 none)) (
 (Lqba none [.s a0, .l a6, .i a1]).bind fun y1 =>
 cond (!(g y1 0).bool) (
 some [.s (⟨#[]⟩ : ByteArray), .b false, .l []]) (
 some [.s a0, .b true, .l a6])) := (Lim_eq _ _).trans (by kernel_rfl)
theorem kqb6 : SigOk Tryz.prog (dqb6.sig (Lqb6 none)) ∧ (dqb6.sig (Lqb6 none)).ok = true := sound_lim (known_cons kq3 (by kernel_rfl) (known_cons kqba (by kernel_rfl) known_nil)) (by kernel_rfl) (by kernel_rfl) (by kernel_rfl)
def dqdn : FD := { fn := 36, nb := 0, pre := ⟨[.sc (.s 0), .sc (.i .i64 1)], []⟩, post := ⟨[.tu [(true, [.i .i64 0, .s 1, .s 2, .i .i64 3, .s 4, .ow 0]), (false, [.b 5])]], [.rw 9 true 6]⟩, sh := false, cuts := [] }
noncomputable def Lqdn : Option Nat → Lv → Option Lv := Lim Tryz.prog [dq3.sig (Lq3 none), dqdm.sig (Lqdm none), dqb6.sig (Lqb6 none), dqf.sig (Lqf none)] dqdn Tryz.f36
theorem eqdn_i (a0 : ByteArray) (a1 : Int) : Lqdn none [.s a0, .i a1] =
 cond (decide ((a0.size : Int) < 6)) (
 some [.i 0, .s (⟨#[]⟩ : ByteArray), .s (⟨#[]⟩ : ByteArray), .i 0, .s (⟨#[]⟩ : ByteArray), .b false, .l []]) (
 (Lq3 none [.i a1]).bind fun y1 =>
 cond (!(g y1 0).bool) (
 some [.i 0, .s (⟨#[]⟩ : ByteArray), .s (⟨#[]⟩ : ByteArray), .i 0, .s (⟨#[]⟩ : ByteArray), .b false, .l []]) (
 cond (inb 5 a0.size) (
 cond (inb 0 a0.size) (
 cond (decide (5 ≤ (a0.size : Int))) (
 (Lqdm none [.l (rowsOf (a0.extract 1 5))]).bind fun y2 =>
 cond (decide (6 ≤ (a0.size : Int))) (
 cond (decide (((a0.extract 6 a0.size).size : Int) < (IntKind.i64.wrap (byteAt a0 5)))) (
 some [.i 0, .s (⟨#[]⟩ : ByteArray), .s (⟨#[]⟩ : ByteArray), .i 0, .s (⟨#[]⟩ : ByteArray), .b false, .l []]) (
 cond (decide (0 ≤ (IntKind.i64.wrap (byteAt a0 5)))) (
 cond (decide ((IntKind.i64.wrap (byteAt a0 5)) ≤ ((a0.extract 6 a0.size).size : Int))) (
 cond (decide (0 ≤ (IntKind.i64.wrap (byteAt a0 5)))) (
 cond (decide ((IntKind.i64.wrap (byteAt a0 5)) ≤ ((a0.extract 6 a0.size).size : Int))) (
 cond ((IntKind.i64.wrap (byteAt a0 0)) == 1) (
 (Lqb6 none [.s ((a0.extract 6 a0.size).extract ((IntKind.i64.wrap (byteAt a0 5)).toNat) ((a0.extract 6 a0.size).size)), .i a1]).bind fun y3 =>
 cond (!(g y3 1).bool) (
 some [.i 0, .s (⟨#[]⟩ : ByteArray), .s (⟨#[]⟩ : ByteArray), .i 0, .s (⟨#[]⟩ : ByteArray), .b false, .l []]) (
 (Lqf none [.i (IntKind.i64.wrap (byteAt a0 0)), .s (⟨#[]⟩ : ByteArray), .s ((a0.extract 6 a0.size).extract 0 ((IntKind.i64.wrap (byteAt a0 5)).toNat)), .i (IntKind.i64.wrap ((g y2 0).int)), .s ((g y3 0).str), .l ((g y3 2).list), .i a1]).bind fun y4 =>
 cond (!(g y4 0).bool) (
 some [.i 0, .s (⟨#[]⟩ : ByteArray), .s (⟨#[]⟩ : ByteArray), .i 0, .s (⟨#[]⟩ : ByteArray), .b false, .l []]) (
 some [.i (IntKind.i64.wrap (byteAt a0 0)), .s (⟨#[]⟩ : ByteArray), .s ((a0.extract 6 a0.size).extract 0 ((IntKind.i64.wrap (byteAt a0 5)).toNat)), .i (IntKind.i64.wrap ((g y2 0).int)), .s ((g y3 0).str), .b true, .l ((g y3 2).list)]))) (
 (Lqf none [.i (IntKind.i64.wrap (byteAt a0 0)), .s ((a0.extract 6 a0.size).extract ((IntKind.i64.wrap (byteAt a0 5)).toNat) ((a0.extract 6 a0.size).size)), .s ((a0.extract 6 a0.size).extract 0 ((IntKind.i64.wrap (byteAt a0 5)).toNat)), .i (IntKind.i64.wrap ((g y2 0).int)), .s (⟨#[]⟩ : ByteArray), .l ([]), .i a1]).bind fun y5 =>
 cond (!(g y5 0).bool) (
 some [.i 0, .s (⟨#[]⟩ : ByteArray), .s (⟨#[]⟩ : ByteArray), .i 0, .s (⟨#[]⟩ : ByteArray), .b false, .l []]) (
 some [.i (IntKind.i64.wrap (byteAt a0 0)), .s ((a0.extract 6 a0.size).extract ((IntKind.i64.wrap (byteAt a0 5)).toNat) ((a0.extract 6 a0.size).size)), .s ((a0.extract 6 a0.size).extract 0 ((IntKind.i64.wrap (byteAt a0 5)).toNat)), .i (IntKind.i64.wrap ((g y2 0).int)), .s (⟨#[]⟩ : ByteArray), .b true, .l []]))) (
 none)) (
 none)) (
 none)) (
 none))) (
 none)) (
 none)) (
 none)) (
 none))) := (Lim_eq _ _).trans (by kernel_rfl)
theorem kqdn : SigOk Tryz.prog (dqdn.sig (Lqdn none)) ∧ (dqdn.sig (Lqdn none)).ok = true := sound_lim (known_cons kq3 (by kernel_rfl) (known_cons kqdm (by kernel_rfl) (known_cons kqb6 (by kernel_rfl) (known_cons kqf (by kernel_rfl) known_nil)))) (by kernel_rfl) (by kernel_rfl) (by kernel_rfl)
def dqch : FD := { fn := 112, nb := 0, pre := ⟨[.sc (.i .i64 0), .sc (.fz 9 false 1)], []⟩, post := ⟨[.tu [(true, [.i .i64 0, .i .i64 1, .i .i64 2, .i .i64 3, .ow 0, .ow 1, .ow 2]), (false, [.i .i64 4])]], [.rw 90 true 5, .rw 156 true 6, .rw 158 true 7]⟩, sh := false, cuts := [⟨3, [0, 4, 6, 13, 14, 15], ⟨[.sc (.i .i64 0), .sc (.pt 0 0), .sc (.pt 1 0), .sc (.fz 9 false 1), .sc (.i .i64 2), .sc (.i .i64 3)], [.bx [.i .i64 4, .i .i64 5, .i .i64 6, .i .i64 7, .ow 2, .ow 3, .ow 4], .bx [.i .i64 8, .i .i64 9, .i .i64 10, .i .i64 11, .ow 5, .ow 6, .ow 7], .rw 90 true 12, .rw 156 true 13, .rw 158 true 14, .rw 90 true 15, .rw 156 true 16, .rw 158 true 17]⟩⟩] }
noncomputable def Lqch : Option Nat → Lv → Option Lv := Lim Tryz.prog [dqdn.sig (Lqdn none), dqa.sig (Lqa none)] dqch Tryz.f112
theorem eqch_i (a0 : Int) (a1 : Rw) : Lqch none [.i a0, .l a1] =
 Lqch (some 3) [.i a0, .l a1, .i (a1.length : Int), .i 0, .i 0, .i 0, .i 0, .i 0, .i a0, .i 0, .i 0, .i 0, .l [], .l [], .l [], .l [], .l [], .l []] := (Lim_eq _ _).trans (by kernel_rfl)
theorem eqch_3 (a0 : Int) (a1 : Rw) (a2 : Int) (a3 : Int) (a4 : Int) (a5 : Int) (a6 : Int) (a7 : Int) (a8 : Int) (a9 : Int) (a10 : Int) (a11 : Int) (a12 : Rw) (a13 : Rw) (a14 : Rw) (a15 : Rw) (a16 : Rw) (a17 : Rw) : Lqch (some 3) [.i a0, .l a1, .i a2, .i a3, .i a4, .i a5, .i a6, .i a7, .i a8, .i a9, .i a10, .i a11, .l a12, .l a13, .l a14, .l a15, .l a16, .l a17] =
 cond (decide (a3 < a2)) (
 cond (inb a3 a1.length) (
 (Lqdn none [.s ((rd a1 a3.toNat 0).str), .i a0]).bind fun y1 =>
 cond (!(g y1 5).bool) (
 some [.i 0, .i 0, .i 0, .i 0, .i (IntKind.i64.wrap (a3 + 1)), .l [], .l [], .l []]) (
 (Lqa none [.i ((g y1 0).int), .s ((g y1 1).str), .s ((g y1 2).str), .i ((g y1 3).int), .s ((g y1 4).str), .l ((g y1 6).list), .i a8, .i a9, .i a10, .i a11, .l a15, .l a16, .l a17]).bind fun y2 =>
 cond ((g y2 0).int != 0) (
 some [.i 0, .i 0, .i 0, .i 0, .i (IntKind.i64.wrap (a3 + 1)), .l [], .l [], .l []]) (
 Lqch (some 3) [.i a0, .l a1, .i a2, .i (IntKind.i64.wrap (a3 + 1)), .i a4, .i a5, .i a6, .i a7, .i ((g y2 12).int), .i ((g y2 13).int), .i ((g y2 14).int), .i ((g y2 15).int), .l a12, .l a13, .l a14, .l ((g y2 16).list), .l ((g y2 17).list), .l ((g y2 18).list)]))) (
 none)) (
 some [.i a8, .i a9, .i a10, .i a11, .i 0, .l a15, .l a16, .l a17]) := (Lim_eq _ _).trans (by kernel_rfl)
theorem kqch : SigOk Tryz.prog (dqch.sig (Lqch none)) ∧ (dqch.sig (Lqch none)).ok = true := sound_lim (known_cons kqdn (by kernel_rfl) (known_cons kqa (by kernel_rfl) known_nil)) (by kernel_rfl) (by kernel_rfl) (by kernel_rfl)
def dqdo : FD := { fn := 199, nb := 0, pre := ⟨[.sc (.s 0)], []⟩, post := ⟨[.sc (.b 0)], []⟩, sh := false, cuts := [] }
noncomputable def Lqdo : Option Nat → Lv → Option Lv := Lim Tryz.prog [] dqdo Tryz.f199
theorem eqdo_i (a0 : ByteArray) : Lqdo none [.s a0] =
 some [.b (decide ((a0.size : Int) ≤ 5000))] := (Lim_eq _ _).trans (by kernel_rfl)
theorem kqdo : SigOk Tryz.prog (dqdo.sig (Lqdo none)) ∧ (dqdo.sig (Lqdo none)).ok = true := sound_lim known_nil (by kernel_rfl) (by kernel_rfl) (by kernel_rfl)
end KV
end
section
set_option maxRecDepth 100000
namespace KV
open Go Go.Eng Go.Proofs
def dq4 : FD := { fn := 133, nb := 0, pre := ⟨[.ag [.fz 9 false 0, .fz 9 false 1]], []⟩, post := ⟨[.sc (.b 0)], []⟩, sh := false, cuts := [⟨2, [1, 11, 12, 13], ⟨[.sc (.pt 0 0), .sc (.ow 1), .sc (.i .i64 0), .sc (.i .i64 1)], [.bx [.fz 9 false 2, .fz 9 false 3], .rw 23 false 4]⟩⟩, ⟨5, [1, 11, 12, 13, 17, 18, 19], ⟨[.sc (.pt 0 0), .sc (.ow 1), .sc (.i .i64 0), .sc (.i .i64 1), .sc (.fz 9 false 2), .sc (.i .i64 3), .sc (.i .i64 4)], [.bx [.fz 9 false 5, .fz 9 false 6], .rw 23 false 7]⟩⟩] }
noncomputable def Lq4 : Option Nat → Lv → Option Lv := Lim Tryz.prog [dqdo.sig (Lqdo none)] dq4 Tryz.f133
theorem eq4_i (a0 : Rw) (a1 : Rw) : Lq4 none [.l a0, .l a1] =
 Lq4 (some 2) [.i (([[.l a0], [.l a1]] : Rw).length : Int), .i 0, .l a0, .l a1, .l ([[.l a0], [.l a1]] : Rw)] := (Lim_eq _ _).trans (by kernel_rfl)
theorem eq4_2 (a0 : Int) (a1 : Int) (a2 : Rw) (a3 : Rw) (a4 : Rw) : Lq4 (some 2) [.i a0, .i a1, .l a2, .l a3, .l a4] =
 cond (decide (a1 < a0)) (
 cond (inb a1 a4.length) (
 Lq4 (some 5) [.i a0, .i a1, .l ((rd a4 a1.toNat 0).list), .i (((rd a4 a1.toNat 0).list).length : Int), .i 0, .l a2, .l a3, .l a4]) (
 none)) (
 some [.b (decide ((IntKind.i64.wrap ((a2.length : Int) + (a3.length : Int))) ≤ 4000))]) := (Lim_eq _ _).trans (by kernel_rfl)
theorem eq4_5 (a0 : Int) (a1 : Int) (a2 : Rw) (a3 : Int) (a4 : Int) (a5 : Rw) (a6 : Rw) (a7 : Rw) : Lq4 (some 5) [.i a0, .i a1, .l a2, .i a3, .i a4, .l a5, .l a6, .l a7] =
 cond (decide (a4 < a3)) (
 cond (inb a4 a2.length) (
 (Lqdo none [.s ((rd a2 a4.toNat 0).str)]).bind fun y1 =>
 cond (!(g y1 0).bool) (
 some [.b false]) (
 Lq4 (some 5) [.i a0, .i a1, .l a2, .i a3, .i (IntKind.i64.wrap (a4 + 1)), .l a5, .l a6, .l a7])) (
 none)) (
 Lq4 (some 2) [.i a0, .i (IntKind.i64.wrap (a1 + 1)), .l a5, .l a6, .l a7]) := (Lim_eq _ _).trans (by kernel_rfl)
theorem kq4 : SigOk Tryz.prog (dq4.sig (Lq4 none)) ∧ (dq4.sig (Lq4 none)).ok = true := sound_lim (known_cons kqdo (by kernel_rfl) known_nil) (by kernel_rfl) (by kernel_rfl) (by kernel_rfl)
def dqdp : FD := { fn := 134, nb := 0, pre := ⟨[.ag [.fz 9 false 0, .fz 9 false 1]], []⟩, post := ⟨[.sc (.ow 0)], [.rw 9 true 0]⟩, sh := false, cuts := [] }
noncomputable def Lqdp : Option Nat → Lv → Option Lv := Lim Tryz.prog [dq0.sig (Lq0 none)] dqdp Tryz.f134
theorem eqdp_i (a0 : Rw) (a1 : Rw) : Lqdp none [.l a0, .l a1] =
 (Lq0 none [.l a0]).bind fun y1 =>
 cond (decide (((g y1 0).list).length + a1.length ≤ most)) (
 some [.l ((g y1 0).list ++ a1)]) (
 none) := (Lim_eq _ _).trans (by kernel_rfl)
theorem kqdp : SigOk Tryz.prog (dqdp.sig (Lqdp none)) ∧ (dqdp.sig (Lqdp none)).ok = true := sound_lim (known_cons kq0 (by kernel_rfl) known_nil) (by kernel_rfl) (by kernel_rfl) (by kernel_rfl)
def dqcv : FD := { fn := 135, nb := 0, pre := ⟨[.ag [.fz 9 false 0, .fz 9 false 1]], []⟩, post := ⟨[.ag [.ow 0, .ow 1]], [.rw 9 true 0, .rw 9 true 1]⟩, sh := false, cuts := [] }
noncomputable def Lqcv : Option Nat → Lv → Option Lv := Lim Tryz.prog [dq0.sig (Lq0 none)] dqcv Tryz.f135
theorem eqcv_i (a0 : Rw) (a1 : Rw) : Lqcv none [.l a0, .l a1] =
 (Lq0 none [.l a0]).bind fun y1 =>
 (Lq0 none [.l a1]).bind fun y2 =>
 some [.l ((g y1 0).list), .l ((g y2 0).list)] := (Lim_eq _ _).trans (by kernel_rfl)
theorem kqcv : SigOk Tryz.prog (dqcv.sig (Lqcv none)) ∧ (dqcv.sig (Lqcv none)).ok = true := sound_lim (known_cons kq0 (by kernel_rfl) known_nil) (by kernel_rfl) (by kernel_rfl) (by kernel_rfl)
def dqdq : FD := { fn := 49, nb := 0, pre := ⟨[.sc (.i .i64 0), .sc (.i .i64 1), .ag [.fz 9 false 2, .fz 9 false 3]], []⟩, post := ⟨[.tu [(true, [.i .i64 0, .i .i64 1, .ow 0, .ow 1, .i .i64 2, .i .i64 3, .i .i64 4, .i .i64 5, .ow 2, .ow 3, .ow 4, .i .i64 6, .fz 9 true 7, .fz 9 true 8, .i .i64 9, .i .i64 10, .i .i64 11]), (false, [.i .i64 12])]], [.rw 9 true 13, .rw 9 true 14, .rw 90 true 15, .rw 156 true 16, .rw 158 true 17]⟩, sh := false, cuts := [] }
noncomputable def Lqdq : Option Nat → Lv → Option Lv := Lim Tryz.prog [dq3.sig (Lq3 none), dqch.sig (Lqch none), dq4.sig (Lq4 none), dqdp.sig (Lqdp none), dqcv.sig (Lqcv none)] dqdq Tryz.f49
theorem eqdq_i (a0 : Int) (a1 : Int) (a2 : Rw) (a3 : Rw) : Lqdq none [.i a0, .i a1, .l a2, .l a3] =
 (Lq3 none [.i a0]).bind fun y1 =>
 cond (!(g y1 0).bool) (
 some [.i 0, .i 0, .i 0, .i 0, .i 0, .i 0, .i 0, .l ([]), .l ([]), .i 0, .i 0, .i 0, .i 1, .l [], .l [], .l [], .l [], .l []]) (
 cond (decide (a1 < 0)) (
 some [.i 0, .i 0, .i 0, .i 0, .i 0, .i 0, .i 0, .l ([]), .l ([]), .i 0, .i 0, .i 0, .i 1, .l [], .l [], .l [], .l [], .l []]) (
 cond (decide (1000000 < a1)) (
 some [.i 0, .i 0, .i 0, .i 0, .i 0, .i 0, .i 0, .l ([]), .l ([]), .i 0, .i 0, .i 0, .i 1, .l [], .l [], .l [], .l [], .l []]) (
 (Lq4 none [.l a2, .l a3]).bind fun y2 =>
 cond (!(g y2 0).bool) (
 some [.i 0, .i 0, .i 0, .i 0, .i 0, .i 0, .i 0, .l ([]), .l ([]), .i 0, .i 0, .i 0, .i 1, .l [], .l [], .l [], .l [], .l []]) (
 (Lqdp none [.l a2, .l a3]).bind fun y3 =>
 (Lqch none [.i a0, .l ((g y3 0).list)]).bind fun y4 =>
 cond (decide (0 < (g y4 4).int)) (
 some [.i 0, .i 0, .i 0, .i 0, .i 0, .i 0, .i 0, .l ([]), .l ([]), .i 0, .i 0, .i 0, .i 2, .l [], .l [], .l [], .l [], .l []]) (
 (Lqcv none [.l a2, .l a3]).bind fun y5 =>
 some [.i a0, .i a1, .i ((g y4 0).int), .i ((g y4 1).int), .i ((g y4 2).int), .i ((g y4 3).int), .i 0, .l ([]), .l ([]), .i 0, .i 0, .i 0, .i 0, .l ((g y5 0).list), .l ((g y5 1).list), .l ((g y4 5).list), .l ((g y4 6).list), .l ((g y4 7).list)]))))) := (Lim_eq _ _).trans (by kernel_rfl)
theorem kqdq : SigOk Tryz.prog (dqdq.sig (Lqdq none)) ∧ (dqdq.sig (Lqdq none)).ok = true := sound_lim (known_cons kq3 (by kernel_rfl) (known_cons kqch (by kernel_rfl) (known_cons kq4 (by kernel_rfl) (known_cons kqdp (by kernel_rfl) (known_cons kqcv (by kernel_rfl) known_nil))))) (by kernel_rfl) (by kernel_rfl) (by kernel_rfl)
def dqj : FD := { fn := 104, nb := 0, pre := ⟨[.ag [.i .i64 0, .i .i64 1, .i .i64 2, .i .i64 3, .fz 90 false 4, .fz 156 false 5, .fz 158 false 6], .ag [.i .i64 7, .i .i64 8, .i .i64 9, .i .i64 10, .fz 90 false 11, .fz 156 false 12, .fz 158 false 13]], []⟩, post := ⟨[.sc (.b 0)], []⟩, sh := false, cuts := [⟨4, [2, 3, 64, 65, 66], ⟨[.sc (.pt 0 0), .sc (.pt 1 0), .sc (.fz 90 false 0), .sc (.i .i64 1), .sc (.i .i64 2)], [.bx [.i .i64 3, .i .i64 4, .i .i64 5, .i .i64 6, .fz 90 false 7, .fz 156 false 8, .fz 158 false 9], .bx [.i .i64 10, .i .i64 11, .i .i64 12, .i .i64 13, .fz 90 false 14, .fz 156 false 15, .fz 158 false 16]]⟩⟩, ⟨11, [2, 3, 120, 121], ⟨[.sc (.pt 0 0), .sc (.pt 1 0), .sc (.i .i64 0), .sc (.i .i64 1)], [.bx [.i .i64 2, .i .i64 3, .i .i64 4, .i .i64 5, .fz 90 false 6, .fz 156 false 7, .fz 158 false 8], .bx [.i .i64 9, .i .i64 10, .i .i64 11, .i .i64 12, .fz 90 false 13, .fz 156 false 14, .fz 158 false 15]]⟩⟩, ⟨17, [2, 3, 138, 139], ⟨[.sc (.pt 0 0), .sc (.pt 1 0), .sc (.i .i64 0), .sc (.i .i64 1)], [.bx [.i .i64 2, .i .i64 3, .i .i64 4, .i .i64 5, .fz 90 false 6, .fz 156 false 7, .fz 158 false 8], .bx [.i .i64 9, .i .i64 10, .i .i64 11, .i .i64 12, .fz 90 false 13, .fz 156 false 14, .fz 158 false 15]]⟩⟩] }
noncomputable def Lqj : Option Nat → Lv → Option Lv := Lim Tryz.prog [dqs.sig (Lqs none)] dqj Tryz.f104
theorem eqj_i (a0 : Int) (a1 : Int) (a2 : Int) (a3 : Int) (a4 : Rw) (a5 : Rw) (a6 : Rw) (a7 : Int) (a8 : Int) (a9 : Int) (a10 : Int) (a11 : Rw) (a12 : Rw) (a13 : Rw) : Lqj none [.i a0, .i a1, .i a2, .i a3, .l a4, .l a5, .l a6, .i a7, .i a8, .i a9, .i a10, .l a11, .l a12, .l a13] =
 cond (a0 != a7) (
 some [.b false]) (
 cond (a1 != a8) (
 some [.b false]) (
 cond (a2 != a9) (
 some [.b false]) (
 cond (a3 != a10) (
 some [.b false]) (
 cond ((a4.length : Int) != (a11.length : Int)) (
 some [.b false]) (
 cond ((a5.length : Int) != (a12.length : Int)) (
 some [.b false]) (
 cond ((a6.length : Int) != (a13.length : Int)) (
 some [.b false]) (
 Lqj (some 4) [.l a4, .i (a4.length : Int), .i 0, .i a0, .i a1, .i a2, .i a3, .l a4, .l a5, .l a6, .i a7, .i a8, .i a9, .i a10, .l a11, .l a12, .l a13]))))))) := (Lim_eq _ _).trans (by kernel_rfl)
theorem eqj_4 (a0 : Rw) (a1 : Int) (a2 : Int) (a3 : Int) (a4 : Int) (a5 : Int) (a6 : Int) (a7 : Rw) (a8 : Rw) (a9 : Rw) (a10 : Int) (a11 : Int) (a12 : Int) (a13 : Int) (a14 : Rw) (a15 : Rw) (a16 : Rw) : Lqj (some 4) [.l a0, .i a1, .i a2, .i a3, .i a4, .i a5, .i a6, .l a7, .l a8, .l a9, .i a10, .i a11, .i a12, .i a13, .l a14, .l a15, .l a16] =
 cond (decide (a2 < a1)) (
 cond (inb a2 a0.length) (
 cond (inb a2 a14.length) (
 cond (!Eng.seq ((rd a0 a2.toNat 0).str) ((rd a14 a2.toNat 0).str)) (
 some [.b false]) (
 cond ((rd a0 a2.toNat 1).int != (rd a14 a2.toNat 1).int) (
 some [.b false]) (
 cond (!Eng.seq ((rd a0 a2.toNat 2).str) ((rd a14 a2.toNat 2).str)) (
 some [.b false]) (
 cond ((((rd a0 a2.toNat 3).list).length : Int) != (((rd a14 a2.toNat 3).list).length : Int)) (
 some [.b false]) (
 (Lqs none [.s ((rd a0 a2.toNat 2).str), .l ((rd a0 a2.toNat 3).list)]).bind fun y1 =>
 (Lqs none [.s ((rd a14 a2.toNat 2).str), .l ((rd a14 a2.toNat 3).list)]).bind fun y2 =>
 cond (!Eng.seq ((g y1 0).str) ((g y2 0).str)) (
 some [.b false]) (
 Lqj (some 4) [.l a0, .i a1, .i (IntKind.i64.wrap (a2 + 1)), .i a3, .i a4, .i a5, .i a6, .l a7, .l a8, .l a9, .i a10, .i a11, .i a12, .i a13, .l a14, .l a15, .l a16])))))) (
 none)) (
 none)) (
 Lqj (some 11) [.i (a8.length : Int), .i 0, .i a3, .i a4, .i a5, .i a6, .l a7, .l a8, .l a9, .i a10, .i a11, .i a12, .i a13, .l a14, .l a15, .l a16]) := (Lim_eq _ _).trans (by kernel_rfl)
theorem eqj_11 (a0 : Int) (a1 : Int) (a2 : Int) (a3 : Int) (a4 : Int) (a5 : Int) (a6 : Rw) (a7 : Rw) (a8 : Rw) (a9 : Int) (a10 : Int) (a11 : Int) (a12 : Int) (a13 : Rw) (a14 : Rw) (a15 : Rw) : Lqj (some 11) [.i a0, .i a1, .i a2, .i a3, .i a4, .i a5, .l a6, .l a7, .l a8, .i a9, .i a10, .i a11, .i a12, .l a13, .l a14, .l a15] =
 cond (decide (a1 < a0)) (
 cond (inb a1 a7.length) (
 cond (inb a1 a14.length) (
 cond (!((Eng.seq ((rd a7 a1.toNat 0).str) ((rd a14 a1.toNat 0).str)) && ((Eng.seq ((rd a7 a1.toNat 1).str) ((rd a14 a1.toNat 1).str)) && true))) (
 some [.b false]) (
 Lqj (some 11) [.i a0, .i (IntKind.i64.wrap (a1 + 1)), .i a2, .i a3, .i a4, .i a5, .l a6, .l a7, .l a8, .i a9, .i a10, .i a11, .i a12, .l a13, .l a14, .l a15])) (
 none)) (
 none)) (
 Lqj (some 17) [.i (a8.length : Int), .i 0, .i a2, .i a3, .i a4, .i a5, .l a6, .l a7, .l a8, .i a9, .i a10, .i a11, .i a12, .l a13, .l a14, .l a15]) := (Lim_eq _ _).trans (by kernel_rfl)
theorem eqj_17 (a0 : Int) (a1 : Int) (a2 : Int) (a3 : Int) (a4 : Int) (a5 : Int) (a6 : Rw) (a7 : Rw) (a8 : Rw) (a9 : Int) (a10 : Int) (a11 : Int) (a12 : Int) (a13 : Rw) (a14 : Rw) (a15 : Rw) : Lqj (some 17) [.i a0, .i a1, .i a2, .i a3, .i a4, .i a5, .l a6, .l a7, .l a8, .i a9, .i a10, .i a11, .i a12, .l a13, .l a14, .l a15] =
 cond (decide (a1 < a0)) (
 cond (inb a1 a8.length) (
 cond (inb a1 a15.length) (
 cond (!(((rd a8 a1.toNat 0).int == (rd a15 a1.toNat 0).int) && ((Eng.seq ((rd a8 a1.toNat 1).str) ((rd a15 a1.toNat 1).str)) && (((rd a8 a1.toNat 2).int == (rd a15 a1.toNat 2).int) && true)))) (
 some [.b false]) (
 Lqj (some 17) [.i a0, .i (IntKind.i64.wrap (a1 + 1)), .i a2, .i a3, .i a4, .i a5, .l a6, .l a7, .l a8, .i a9, .i a10, .i a11, .i a12, .l a13, .l a14, .l a15])) (
 none)) (
 none)) (
 some [.b true]) := (Lim_eq _ _).trans (by kernel_rfl)
theorem kqj : SigOk Tryz.prog (dqj.sig (Lqj none)) ∧ (dqj.sig (Lqj none)).ok = true := sound_lim (known_cons kqs (by kernel_rfl) known_nil) (by kernel_rfl) (by kernel_rfl) (by kernel_rfl)
def dqcp : FD := { fn := 140, nb := 0, pre := ⟨[.sc (.i .i64 0)], []⟩, post := ⟨[.sc (.b 0)], []⟩, sh := false, cuts := [] }
noncomputable def Lqcp : Option Nat → Lv → Option Lv := Lim Tryz.prog [] dqcp Tryz.f140
theorem eqcp_i (a0 : Int) : Lqcp none [.i a0] =
 cond (decide (0 ≤ a0)) (
 some [.b (decide (a0 ≤ 1000000000))]) (
 some [.b false]) := (Lim_eq _ _).trans (by kernel_rfl)
theorem kqcp : SigOk Tryz.prog (dqcp.sig (Lqcp none)) ∧ (dqcp.sig (Lqcp none)).ok = true := sound_lim known_nil (by kernel_rfl) (by kernel_rfl) (by kernel_rfl)
def dqt : FD := { fn := 105, nb := 0, pre := ⟨[.sc (.pt 0 0), .ag [.i .i64 0, .fz 9 false 1, .fz 9 false 2, .i .i64 3, .i .i64 4, .i .i64 5]], [.rb [.i .i64 6, .i .i64 7, .i .i64 8, .i .i64 9, .fz 90 false 10, .fz 156 false 11, .fz 158 false 12]]⟩, post := ⟨[.sc (.b 0)], []⟩, sh := false, cuts := [⟨5, [0, 3, 5, 38, 39, 40], ⟨[.sc (.pt 0 0), .sc (.pt 1 0), .sc (.mp 2), .sc (.fz 9 false 0), .sc (.i .i64 1), .sc (.i .i64 2)], [.rb [.i .i64 3, .i .i64 4, .i .i64 5, .i .i64 6, .fz 90 false 7, .fz 156 false 8, .fz 158 false 9], .bx [.i .i64 10, .fz 9 false 11, .fz 9 false 12, .i .i64 13, .i .i64 14, .i .i64 15], .mp 9 4 16]⟩⟩, ⟨12, [0, 3, 60, 61, 62], ⟨[.sc (.pt 0 0), .sc (.pt 1 0), .sc (.fz 9 false 0), .sc (.i .i64 1), .sc (.i .i64 2)], [.rb [.i .i64 3, .i .i64 4, .i .i64 5, .i .i64 6, .fz 90 false 7, .fz 156 false 8, .fz 158 false 9], .bx [.i .i64 10, .fz 9 false 11, .fz 9 false 12, .i .i64 13, .i .i64 14, .i .i64 15]]⟩⟩] }
noncomputable def Lqt : Option Nat → Lv → Option Lv := Lim Tryz.prog [dqcp.sig (Lqcp none)] dqt Tryz.f105
theorem eqt_i (a0 : Int) (a1 : Rw) (a2 : Rw) (a3 : Int) (a4 : Int) (a5 : Int) (a6 : Int) (a7 : Int) (a8 : Int) (a9 : Int) (a10 : Rw) (a11 : Rw) (a12 : Rw) : Lqt none [.i a0, .l a1, .l a2, .i a3, .i a4, .i a5, .i a6, .i a7, .i a8, .i a9, .l a10, .l a11, .l a12] =
 cond (decide (a0 < 0)) (
 some [.b false]) (
 cond (decide (2 < a0)) (
 some [.b false]) (
 (Lqcp none [.i a5]).bind fun y1 =>
 cond (!(g y1 0).bool) (
 some [.b false]) (
 cond (decide (23200 < (a1.length : Int))) (
 some [.b false]) (
 cond (decide (600 < (a2.length : Int))) (
 some [.b false]) (
 Lqt (some 5) [.l a2, .i (a2.length : Int), .i 0, .i a6, .i a7, .i a8, .i a9, .l a10, .l a11, .l a12, .i a0, .l a1, .l a2, .i a3, .i a4, .i a5, .m ([])]))))) := (Lim_eq _ _).trans (by kernel_rfl)
theorem eqt_5 (a0 : Rw) (a1 : Int) (a2 : Int) (a3 : Int) (a4 : Int) (a5 : Int) (a6 : Int) (a7 : Rw) (a8 : Rw) (a9 : Rw) (a10 : Int) (a11 : Rw) (a12 : Rw) (a13 : Int) (a14 : Int) (a15 : Int) (a16 : List (C × C)) : Lqt (some 5) [.l a0, .i a1, .i a2, .i a3, .i a4, .i a5, .i a6, .l a7, .l a8, .l a9, .i a10, .l a11, .l a12, .i a13, .i a14, .i a15, .m a16] =
 cond (decide (a2 < a1)) (
 cond (inb a2 a0.length) (
 cond ((((rd a0 a2.toNat 0).str).size : Int) != a3) (
 some [.b false]) (
 cond (((mget .s (.s ((rd a0 a2.toNat 0).str)) a16).getD (.b false)).bool) (
 some [.b false]) (
 Lqt (some 5) [.l a0, .i a1, .i (IntKind.i64.wrap (a2 + 1)), .i a3, .i a4, .i a5, .i a6, .l a7, .l a8, .l a9, .i a10, .l a11, .l a12, .i a13, .i a14, .i a15, .m (mput .s (.s ((rd a0 a2.toNat 0).str)) (.b true) a16)]))) (
 none)) (
 Lqt (some 12) [.l a11, .i (a11.length : Int), .i 0, .i a3, .i a4, .i a5, .i a6, .l a7, .l a8, .l a9, .i a10, .l a11, .l a12, .i a13, .i a14, .i a15]) := (Lim_eq _ _).trans (by kernel_rfl)
theorem eqt_12 (a0 : Rw) (a1 : Int) (a2 : Int) (a3 : Int) (a4 : Int) (a5 : Int) (a6 : Int) (a7 : Rw) (a8 : Rw) (a9 : Rw) (a10 : Int) (a11 : Rw) (a12 : Rw) (a13 : Int) (a14 : Int) (a15 : Int) : Lqt (some 12) [.l a0, .i a1, .i a2, .i a3, .i a4, .i a5, .i a6, .l a7, .l a8, .l a9, .i a10, .l a11, .l a12, .i a13, .i a14, .i a15] =
 cond (decide (a2 < a1)) (
 cond (inb a2 a0.length) (
 cond ((((rd a0 a2.toNat 0).str).size : Int) != a3) (
 some [.b false]) (
 Lqt (some 12) [.l a0, .i a1, .i (IntKind.i64.wrap (a2 + 1)), .i a3, .i a4, .i a5, .i a6, .l a7, .l a8, .l a9, .i a10, .l a11, .l a12, .i a13, .i a14, .i a15])) (
 none)) (
 cond (a10 == 0) (
 cond ((IntKind.i64.wrap ((a11.length : Int) + (a12.length : Int))) == 0) (
 cond (a13 == 0) (
 some [.b (a14 == 0)]) (
 some [.b false])) (
 some [.b false])) (
 cond (decide (0 ≤ a13)) (
 cond (decide (a13 ≤ a6)) (
 cond (decide (1 ≤ a14)) (
 cond (decide (a14 ≤ (IntKind.i64.wrap (a13 + 1)))) (
 cond (a10 != 1) (
 some [.b true]) (
 some [.b (a14 == (IntKind.i64.wrap (a13 + 1)))])) (
 some [.b false])) (
 some [.b false])) (
 some [.b false])) (
 some [.b false]))) := (Lim_eq _ _).trans (by kernel_rfl)
theorem kqt : SigOk Tryz.prog (dqt.sig (Lqt none)) ∧ (dqt.sig (Lqt none)).ok = true := sound_lim (known_cons kqcp (by kernel_rfl) known_nil) (by kernel_rfl) (by kernel_rfl) (by kernel_rfl)
def dqcw : FD := { fn := 30, nb := 0, pre := ⟨[.ag [.i .i64 0, .i .i64 1, .fz 9 false 2, .fz 9 false 3, .i .i64 4, .i .i64 5, .i .i64 6, .i .i64 7, .fz 90 false 8, .fz 156 false 9, .fz 158 false 10, .i .i64 11, .fz 9 false 12, .fz 9 false 13, .i .i64 14, .i .i64 15, .i .i64 16]], []⟩, post := ⟨[.sc (.b 0)], []⟩, sh := false, cuts := [] }
noncomputable def Lqcw : Option Nat → Lv → Option Lv := Lim Tryz.prog [dqdq.sig (Lqdq none), dqj.sig (Lqj none), dqt.sig (Lqt none)] dqcw Tryz.f30
theorem eqcw_i (a0 : Int) (a1 : Int) (a2 : Rw) (a3 : Rw) (a4 : Int) (a5 : Int) (a6 : Int) (a7 : Int) (a8 : Rw) (a9 : Rw) (a10 : Rw) (a11 : Int) (a12 : Rw) (a13 : Rw) (a14 : Int) (a15 : Int) (a16 : Int) : Lqcw none [.i a0, .i a1, .l a2, .l a3, .i a4, .i a5, .i a6, .i a7, .l a8, .l a9, .l a10, .i a11, .l a12, .l a13, .i a14, .i a15, .i a16] =
 (Lqdq none [.i a0, .i a1, .l a2, .l a3]).bind fun y1 =>
 cond ((g y1 12).int == 0) (
 (Lqj none [.i ((g y1 2).int), .i ((g y1 3).int), .i ((g y1 4).int), .i ((g y1 5).int), .l ((g y1 15).list), .l ((g y1 16).list), .l ((g y1 17).list), .i a4, .i a5, .i a6, .i a7, .l a8, .l a9, .l a10]).bind fun y2 =>
 cond ((g y2 0).bool) (
 (Lqt none [.i a11, .l a12, .l a13, .i a14, .i a15, .i a16, .i a4, .i a5, .i a6, .i a7, .l a8, .l a9, .l a10]).bind fun y3 =>
 some [.b ((g y3 0).bool)]) (
 some [.b false])) (
 some [.b false]) := (Lim_eq _ _).trans (by kernel_rfl)
theorem kqcw : SigOk Tryz.prog (dqcw.sig (Lqcw none)) ∧ (dqcw.sig (Lqcw none)).ok = true := sound_lim (known_cons kqdq (by kernel_rfl) (known_cons kqj (by kernel_rfl) (known_cons kqt (by kernel_rfl) known_nil))) (by kernel_rfl) (by kernel_rfl) (by kernel_rfl)
def dqdr : FD := { fn := 121, nb := 0, pre := ⟨[.ag [], .sc (.ow 0), .sc (.i .u32 0)], [.rw 5 false 1]⟩, post := ⟨[.sc (.ow 0)], [.rw 5 false 0]⟩, sh := true, cuts := [] }
noncomputable def Lqdr : Option Nat → Lv → Option Lv := Lim Tryz.prog [] dqdr Tryz.f121
theorem eqdr_i (a0 : Int) (a1 : Rw) : Lqdr none [.i a0, .l a1] =
 cond (decide (a1.length + ([[.i (IntKind.u8.wrap (a0.fdiv (2 ^ 24)))], [.i (IntKind.u8.wrap (a0.fdiv (2 ^ 16)))], [.i (IntKind.u8.wrap (a0.fdiv (2 ^ 8)))], [.i (IntKind.u8.wrap a0)]] : Rw).length ≤ most)) (
 some [.l (a1 ++ ([[.i (IntKind.u8.wrap (a0.fdiv (2 ^ 24)))], [.i (IntKind.u8.wrap (a0.fdiv (2 ^ 16)))], [.i (IntKind.u8.wrap (a0.fdiv (2 ^ 8)))], [.i (IntKind.u8.wrap a0)]] : Rw))]) (
 none) := (Lim_eq _ _).trans (by kernel_rfl)
theorem kqdr : SigOk Tryz.prog (dqdr.sig (Lqdr none)) ∧ (dqdr.sig (Lqdr none)).ok = true := sound_lim known_nil (by kernel_rfl) (by kernel_rfl) (by kernel_rfl)
def dqc2 : FD := { fn := 38, nb := 0, pre := ⟨[.ag [.i .i64 0, .s 1, .s 2, .i .i64 3, .s 4, .fz 9 false 5], .sc (.i .i64 6)], []⟩, post := ⟨[.sc (.s 0)], []⟩, sh := false, cuts := [] }
noncomputable def Lqc2 : Option Nat → Lv → Option Lv := Lim Tryz.prog [dqf.sig (Lqf none), dqs.sig (Lqs none), dqdr.sig (Lqdr none)] dqc2 Tryz.f38
theorem eqc2_i (a0 : Int) (a1 : ByteArray) (a2 : ByteArray) (a3 : Int) (a4 : ByteArray) (a5 : Rw) (a6 : Int) : Lqc2 none [.i a0, .s a1, .s a2, .i a3, .s a4, .l a5, .i a6] =
 (Lqf none [.i a0, .s a1, .s a2, .i a3, .s a4, .l a5, .i a6]).bind fun y1 =>
 cond (!(g y1 0).bool) (
 some [.s (⟨#[]⟩ : ByteArray)]) (
 (Lqdr none [.i (IntKind.u32.wrap a3), .l ([[.i (IntKind.u8.wrap a0)]] : Rw)]).bind fun y2 =>
 cond (decide (((g y2 0).list).length + ([[.i (IntKind.u8.wrap (a2.size : Int))]] : Rw).length ≤ most)) (
 cond (decide ((bytesOf ((g y2 0).list ++ ([[.i (IntKind.u8.wrap (a2.size : Int))]] : Rw))).size + a2.size ≤ most)) (
 cond (decide (((bytesOf ((g y2 0).list ++ ([[.i (IntKind.u8.wrap (a2.size : Int))]] : Rw))) ++ a2).size + a1.size ≤ most)) (
 cond (a0 == 1) (
 (Lqs none [.s a4, .l a5]).bind fun y3 =>
 cond (decide ((((bytesOf ((g y2 0).list ++ ([[.i (IntKind.u8.wrap (a2.size : Int))]] : Rw))) ++ a2) ++ a1).size + ((g y3 0).str).size ≤ most)) (
 some [.s ((((bytesOf ((g y2 0).list ++ ([[.i (IntKind.u8.wrap (a2.size : Int))]] : Rw))) ++ a2) ++ a1) ++ ((g y3 0).str))]) (
 none)) (
 some [.s (((bytesOf ((g y2 0).list ++ ([[.i (IntKind.u8.wrap (a2.size : Int))]] : Rw))) ++ a2) ++ a1)])) (
 none)) (
 none)) (
 none)) := (Lim_eq _ _).trans (by kernel_rfl)
theorem kqc2 : SigOk Tryz.prog (dqc2.sig (Lqc2 none)) ∧ (dqc2.sig (Lqc2 none)).ok = true := sound_lim (known_cons kqf (by kernel_rfl) (known_cons kqs (by kernel_rfl) (known_cons kqdr (by kernel_rfl) known_nil))) (by kernel_rfl) (by kernel_rfl) (by kernel_rfl)
def dqb7 : FD := { fn := 119, nb := 0, pre := ⟨[.ag [.i .i64 0, .i .i64 1, .i .i64 2, .i .i64 3, .fz 90 false 4, .fz 156 false 5, .fz 158 false 6]], []⟩, post := ⟨[.ag [.i .i64 0, .i .i64 1, .i .i64 2, .i .i64 3, .ow 0, .ow 1, .ow 2]], [.rw 90 true 4, .rw 156 true 5, .rw 158 true 6]⟩, sh := false, cuts := [⟨4, [1, 2, 9, 10, 11], ⟨[.sc (.pt 0 0), .sc (.pt 1 0), .sc (.fz 90 false 0), .sc (.i .i64 1), .sc (.i .i64 2)], [.bx [.i .i64 3, .i .i64 4, .i .i64 5, .i .i64 6, .ow 2, .fz 156 false 7, .fz 158 false 8], .bx [.i .i64 9, .i .i64 10, .i .i64 11, .i .i64 12, .ow 3, .ow 4, .ow 5], .rw 90 true 13, .rw 90 true 14, .rw 156 true 15, .rw 158 true 16]⟩⟩] }
noncomputable def Lqb7 : Option Nat → Lv → Option Lv := Lim Tryz.prog [dq0.sig (Lq0 none)] dqb7 Tryz.f119
theorem eqb7_i (a0 : Int) (a1 : Int) (a2 : Int) (a3 : Int) (a4 : Rw) (a5 : Rw) (a6 : Rw) : Lqb7 none [.i a0, .i a1, .i a2, .i a3, .l a4, .l a5, .l a6] =
 Lqb7 (some 4) [.l a4, .i (a4.length : Int), .i 0, .i a0, .i a1, .i a2, .i a3, .l a5, .l a6, .i 0, .i 0, .i 0, .i 0, .l [], .l [], .l [], .l []] := (Lim_eq _ _).trans (by kernel_rfl)
theorem eqb7_4 (a0 : Rw) (a1 : Int) (a2 : Int) (a3 : Int) (a4 : Int) (a5 : Int) (a6 : Int) (a7 : Rw) (a8 : Rw) (a9 : Int) (a10 : Int) (a11 : Int) (a12 : Int) (a13 : Rw) (a14 : Rw) (a15 : Rw) (a16 : Rw) : Lqb7 (some 4) [.l a0, .i a1, .i a2, .i a3, .i a4, .i a5, .i a6, .l a7, .l a8, .i a9, .i a10, .i a11, .i a12, .l a13, .l a14, .l a15, .l a16] =
 cond (decide (a2 < a1)) (
 cond (inb a2 a0.length) (
 (Lq0 none [.l ((rd a0 a2.toNat 3).list)]).bind fun y1 =>
 cond (decide (a13.length + ([[.s ((rd a0 a2.toNat 0).str), .i ((rd a0 a2.toNat 1).int), .s ((rd a0 a2.toNat 2).str), .l ((g y1 0).list)]] : Rw).length ≤ most)) (
 Lqb7 (some 4) [.l a0, .i a1, .i (IntKind.i64.wrap (a2 + 1)), .i a3, .i a4, .i a5, .i a6, .l a7, .l a8, .i a9, .i a10, .i a11, .i a12, .l (a13 ++ ([[.s ((rd a0 a2.toNat 0).str), .i ((rd a0 a2.toNat 1).int), .s ((rd a0 a2.toNat 2).str), .l ((g y1 0).list)]] : Rw)), .l a14, .l a15, .l a16]) (
 none)) (
 none)) (
 cond (decide (a7.length ≤ most)) (
 cond (decide (a8.length ≤ most)) (
 some [.i a3, .i a4, .i a5, .i a6, .l a13, .l a7, .l a8]) (
 none)) (
 none)) := (Lim_eq _ _).trans (by kernel_rfl)
theorem kqb7 : SigOk Tryz.prog (dqb7.sig (Lqb7 none)) ∧ (dqb7.sig (Lqb7 none)).ok = true := sound_lim (known_cons kq0 (by kernel_rfl) known_nil) (by kernel_rfl) (by kernel_rfl) (by kernel_rfl)
def dqcs : FD := { fn := 192, nb := 0, pre := ⟨[.ag [.i .i64 0, .fz 9 false 1, .fz 9 false 2, .i .i64 3, .i .i64 4, .i .i64 5]], []⟩, post := ⟨[.ag [.i .i64 0, .ow 0, .ow 1, .i .i64 1, .i .i64 2, .i .i64 3]], [.rw 9 true 4, .rw 9 true 5]⟩, sh := false, cuts := [] }
noncomputable def Lqcs : Option Nat → Lv → Option Lv := Lim Tryz.prog [dq0.sig (Lq0 none)] dqcs Tryz.f192
theorem eqcs_i (a0 : Int) (a1 : Rw) (a2 : Rw) (a3 : Int) (a4 : Int) (a5 : Int) : Lqcs none [.i a0, .l a1, .l a2, .i a3, .i a4, .i a5] =
 (Lq0 none [.l a1]).bind fun y1 =>
 (Lq0 none [.l a2]).bind fun y2 =>
 some [.i a0, .i a3, .i a4, .i a5, .l ((g y1 0).list), .l ((g y2 0).list)] := (Lim_eq _ _).trans (by kernel_rfl)
theorem kqcs : SigOk Tryz.prog (dqcs.sig (Lqcs none)) ∧ (dqcs.sig (Lqcs none)).ok = true := sound_lim (known_cons kq0 (by kernel_rfl) known_nil) (by kernel_rfl) (by kernel_rfl) (by kernel_rfl)
def dqcx : FD := { fn := 123, nb := 0, pre := ⟨[.ag [.i .i64 0, .i .i64 1, .fz 9 false 2, .fz 9 false 3, .i .i64 4, .i .i64 5, .i .i64 6, .i .i64 7, .fz 90 false 8, .fz 156 false 9, .fz 158 false 10, .i .i64 11, .fz 9 false 12, .fz 9 false 13, .i .i64 14, .i .i64 15, .i .i64 16]], []⟩, post := ⟨[.ag [.i .i64 0, .i .i64 1, .ow 0, .ow 1, .i .i64 2, .i .i64 3, .i .i64 4, .i .i64 5, .ow 2, .ow 3, .ow 4, .i .i64 6, .ow 5, .ow 6, .i .i64 7, .i .i64 8, .i .i64 9]], [.rw 9 true 10, .rw 9 true 11, .rw 90 true 12, .rw 156 true 13, .rw 158 true 14, .rw 9 true 15, .rw 9 true 16]⟩, sh := false, cuts := [] }
noncomputable def Lqcx : Option Nat → Lv → Option Lv := Lim Tryz.prog [dqcv.sig (Lqcv none), dqb7.sig (Lqb7 none), dqcs.sig (Lqcs none)] dqcx Tryz.f123
theorem eqcx_i (a0 : Int) (a1 : Int) (a2 : Rw) (a3 : Rw) (a4 : Int) (a5 : Int) (a6 : Int) (a7 : Int) (a8 : Rw) (a9 : Rw) (a10 : Rw) (a11 : Int) (a12 : Rw) (a13 : Rw) (a14 : Int) (a15 : Int) (a16 : Int) : Lqcx none [.i a0, .i a1, .l a2, .l a3, .i a4, .i a5, .i a6, .i a7, .l a8, .l a9, .l a10, .i a11, .l a12, .l a13, .i a14, .i a15, .i a16] =
 (Lqcv none [.l a2, .l a3]).bind fun y1 =>
 (Lqb7 none [.i a4, .i a5, .i a6, .i a7, .l a8, .l a9, .l a10]).bind fun y2 =>
 (Lqcs none [.i a11, .l a12, .l a13, .i a14, .i a15, .i a16]).bind fun y3 =>
 some [.i a0, .i a1, .i ((g y2 0).int), .i ((g y2 1).int), .i ((g y2 2).int), .i ((g y2 3).int), .i ((g y3 0).int), .i ((g y3 1).int), .i ((g y3 2).int), .i ((g y3 3).int), .l ((g y1 0).list), .l ((g y1 1).list), .l ((g y2 4).list), .l ((g y2 5).list), .l ((g y2 6).list), .l ((g y3 4).list), .l ((g y3 5).list)] := (Lim_eq _ _).trans (by kernel_rfl)
theorem kqcx : SigOk Tryz.prog (dqcx.sig (Lqcx none)) ∧ (dqcx.sig (Lqcx none)).ok = true := sound_lim (known_cons kqcv (by kernel_rfl) (known_cons kqb7 (by kernel_rfl) (known_cons kqcs (by kernel_rfl) known_nil))) (by kernel_rfl) (by kernel_rfl) (by kernel_rfl)
def dqbp : FD := { fn := 139, nb := 0, pre := ⟨[.sc (.pt 0 0)], [.rb [.i .i64 0, .i .i64 1, .i .i64 2, .i .i64 3, .fz 90 false 4, .fz 156 false 5, .fz 158 false 6]]⟩, post := ⟨[.sc (.i .i64 0)], []⟩, sh := false, cuts := [⟨3, [3, 9, 10, 11], ⟨[.sc (.i .i64 0), .sc (.fz 90 false 1), .sc (.i .i64 2), .sc (.i .i64 3)], []⟩⟩] }
noncomputable def Lqbp : Option Nat → Lv → Option Lv := Lim Tryz.prog [dqs.sig (Lqs none)] dqbp Tryz.f139
theorem eqbp_i (a0 : Int) (a1 : Int) (a2 : Int) (a3 : Int) (a4 : Rw) (a5 : Rw) (a6 : Rw) : Lqbp none [.i a0, .i a1, .i a2, .i a3, .l a4, .l a5, .l a6] =
 Lqbp (some 3) [.i 0, .l a4, .i (a4.length : Int), .i 0] := (Lim_eq _ _).trans (by kernel_rfl)
theorem eqbp_3 (a0 : Int) (a1 : Rw) (a2 : Int) (a3 : Int) : Lqbp (some 3) [.i a0, .l a1, .i a2, .i a3] =
 cond (decide (a3 < a2)) (
 cond (inb a3 a1.length) (
 (Lqs none [.s ((rd a1 a3.toNat 2).str), .l ((rd a1 a3.toNat 3).list)]).bind fun y1 =>
 Lqbp (some 3) [.i (IntKind.i64.wrap (a0 + (((g y1 0).str).size : Int))), .l a1, .i a2, .i (IntKind.i64.wrap (a3 + 1))]) (
 none)) (
 some [.i a0]) := (Lim_eq _ _).trans (by kernel_rfl)
theorem kqbp : SigOk Tryz.prog (dqbp.sig (Lqbp none)) ∧ (dqbp.sig (Lqbp none)).ok = true := sound_lim (known_cons kqs (by kernel_rfl) known_nil) (by kernel_rfl) (by kernel_rfl) (by kernel_rfl)
end KV
end
section
set_option maxRecDepth 100000
namespace KV
open Go Go.Eng Go.Proofs
def dqb8 : FD := { fn := 194, nb := 0, pre := ⟨[.sc (.fz 9 false 0), .sc (.s 1)], []⟩, post := ⟨[.sc (.b 0)], []⟩, sh := false, cuts := [⟨2, [1, 7, 8, 9], ⟨[.sc (.s 0), .sc (.fz 9 false 1), .sc (.i .i64 2), .sc (.i .i64 3)], []⟩⟩] }
noncomputable def Lqb8 : Option Nat → Lv → Option Lv := Lim Tryz.prog [] dqb8 Tryz.f194
theorem eqb8_i (a0 : Rw) (a1 : ByteArray) : Lqb8 none [.l a0, .s a1] =
 Lqb8 (some 2) [.s a1, .l a0, .i (a0.length : Int), .i 0] := (Lim_eq _ _).trans (by kernel_rfl)
theorem eqb8_2 (a0 : ByteArray) (a1 : Rw) (a2 : Int) (a3 : Int) : Lqb8 (some 2) [.s a0, .l a1, .i a2, .i a3] =
 cond (decide (a3 < a2)) (
 cond (inb a3 a1.length) (
 cond (Eng.seq a0 ((rd a1 a3.toNat 0).str)) (
 some [.b true]) (
 Lqb8 (some 2) [.s a0, .l a1, .i a2, .i (IntKind.i64.wrap (a3 + 1))])) (
 none)) (
 some [.b false]) := (Lim_eq _ _).trans (by kernel_rfl)
theorem kqb8 : SigOk Tryz.prog (dqb8.sig (Lqb8 none)) ∧ (dqb8.sig (Lqb8 none)).ok = true := sound_lim known_nil (by kernel_rfl) (by kernel_rfl) (by kernel_rfl)
def dqci : FD := { fn := 149, nb := 0, pre := ⟨[.sc (.pt 0 0), .ag [.i .i64 0, .fz 9 false 1, .fz 9 false 2, .i .i64 3, .i .i64 4, .i .i64 5], .sc (.s 6)], [.rb [.i .i64 7, .i .i64 8, .i .i64 9, .i .i64 10, .fz 90 false 11, .fz 156 false 12, .fz 158 false 13]]⟩, post := ⟨[.ag [.i .i64 0, .ow 0, .ow 1, .i .i64 1, .i .i64 2, .i .i64 3]], [.rw 9 true 4, .rw 9 true 5]⟩, sh := false, cuts := [] }
noncomputable def Lqci : Option Nat → Lv → Option Lv := Lim Tryz.prog [dqbj.sig (Lqbj none), dqcs.sig (Lqcs none), dqb8.sig (Lqb8 none)] dqci Tryz.f149
theorem eqci_i (a0 : Int) (a1 : Rw) (a2 : Rw) (a3 : Int) (a4 : Int) (a5 : Int) (a6 : ByteArray) (a7 : Int) (a8 : Int) (a9 : Int) (a10 : Int) (a11 : Rw) (a12 : Rw) (a13 : Rw) : Lqci none [.i a0, .l a1, .l a2, .i a3, .i a4, .i a5, .s a6, .i a7, .i a8, .i a9, .i a10, .l a11, .l a12, .l a13] =
 (Lqcs none [.i a0, .l a1, .l a2, .i a3, .i a4, .i a5]).bind fun y1 =>
 (Lqbj none [.s a6, .i a7, .i a8, .i a9, .i a10, .l a11, .l a12, .l a13]).bind fun y2 =>
 cond ((g y2 1).bool) (
 cond (a0 != 0) (
 (Lqb8 none [.l a2, .s a6]).bind fun y3 =>
 cond (!(g y3 0).bool) (
 cond (decide ((a1.length : Int) < 23200)) (
 cond (decide (((g y1 4).list).length + ([[.s a6]] : Rw).length ≤ most)) (
 some [.i ((g y1 0).int), .i ((g y1 1).int), .i ((g y1 2).int), .i ((g y1 3).int), .l ((g y1 4).list ++ ([[.s a6]] : Rw)), .l ((g y1 5).list)]) (
 none)) (
 some [.i ((g y1 0).int), .i ((g y1 1).int), .i ((g y1 2).int), .i ((g y1 3).int), .l ((g y1 4).list), .l ((g y1 5).list)])) (
 some [.i ((g y1 0).int), .i ((g y1 1).int), .i ((g y1 2).int), .i ((g y1 3).int), .l ((g y1 4).list), .l ((g y1 5).list)])) (
 some [.i ((g y1 0).int), .i ((g y1 1).int), .i ((g y1 2).int), .i ((g y1 3).int), .l ((g y1 4).list), .l ((g y1 5).list)])) (
 some [.i ((g y1 0).int), .i ((g y1 1).int), .i ((g y1 2).int), .i ((g y1 3).int), .l ((g y1 4).list), .l ((g y1 5).list)]) := (Lim_eq _ _).trans (by kernel_rfl)
theorem kqci : SigOk Tryz.prog (dqci.sig (Lqci none)) ∧ (dqci.sig (Lqci none)).ok = true := sound_lim (known_cons kqbj (by kernel_rfl) (known_cons kqcs (by kernel_rfl) (known_cons kqb8 (by kernel_rfl) known_nil))) (by kernel_rfl) (by kernel_rfl) (by kernel_rfl)
def dqbl : FD := { fn := 146, nb := 0, pre := ⟨[.ag [.i .i64 0, .i .i64 1, .fz 9 false 2, .fz 9 false 3, .i .i64 4, .i .i64 5, .i .i64 6, .i .i64 7, .fz 90 false 8, .fz 156 false 9, .fz 158 false 10, .i .i64 11, .fz 9 false 12, .fz 9 false 13, .i .i64 14, .i .i64 15, .i .i64 16], .ag [.i .i64 17, .s 18, .s 19, .i .i64 20, .s 21, .fz 9 false 22], .sc (.b 23)], []⟩, post := ⟨[.ag [.i .i64 0, .i .i64 1, .i .i64 2, .ow 0, .ow 1, .i .i64 3, .i .i64 4, .i .i64 5, .i .i64 6, .ow 2, .ow 3, .ow 4, .i .i64 7, .ow 5, .ow 6, .i .i64 8, .i .i64 9, .i .i64 10, .s 11, .i .i64 12, .s 13, .s 14]], [.rw 9 true 15, .rw 9 true 16, .rw 90 false 17, .rw 156 false 18, .rw 158 false 19, .rw 9 true 20, .rw 9 true 21]⟩, sh := true, cuts := [⟨18, [6, 7, 8, 9], ⟨[.sc (.pt 0 0), .sc (.pt 1 0), .sc (.pt 2 0), .sc (.s 0)], [.bx [.i .i64 1, .i .i64 2, .i .i64 3, .ow 10, .ow 11, .i .i64 4, .i .i64 5, .i .i64 6, .i .i64 7, .ow 12, .ow 13, .ow 14, .i .i64 8, .ow 15, .ow 16, .i .i64 9, .i .i64 10, .i .i64 11, .s 12, .i .i64 13, .s 14, .s 15], .bx [.i .i64 16, .i .i64 17, .ow 3, .ow 4, .i .i64 18, .i .i64 19, .i .i64 20, .i .i64 21, .ow 5, .ow 6, .ow 7, .i .i64 22, .ow 8, .ow 9, .i .i64 23, .i .i64 24, .i .i64 25], .bx [.i .i64 26, .i .i64 27, .i .i64 28, .i .i64 29, .i .i64 30, .fz 90 true 31, .fz 156 true 32, .fz 158 true 33, .s 34, .i .i64 35, .s 36, .s 37], .rw 9 true 38, .rw 9 true 39, .rw 90 false 40, .rw 156 false 41, .rw 158 false 42, .rw 9 true 43, .rw 9 true 44, .rw 9 true 45, .rw 9 true 46, .rw 90 true 47, .rw 156 true 48, .rw 158 true 49, .rw 9 true 50, .rw 9 true 51]⟩⟩] }
noncomputable def Lqbl : Option Nat → Lv → Option Lv := Lim Tryz.prog [dqf.sig (Lqf none), dqa.sig (Lqa none), dqcw.sig (Lqcw none), dqc2.sig (Lqc2 none), dqcx.sig (Lqcx none), dqbp.sig (Lqbp none), dqci.sig (Lqci none)] dqbl Tryz.f146
theorem eqbl_i (a0 : Int) (a1 : Int) (a2 : Rw) (a3 : Rw) (a4 : Int) (a5 : Int) (a6 : Int) (a7 : Int) (a8 : Rw) (a9 : Rw) (a10 : Rw) (a11 : Int) (a12 : Rw) (a13 : Rw) (a14 : Int) (a15 : Int) (a16 : Int) (a17 : Int) (a18 : ByteArray) (a19 : ByteArray) (a20 : Int) (a21 : ByteArray) (a22 : Rw) (a23 : Bool) : Lqbl none [.i a0, .i a1, .l a2, .l a3, .i a4, .i a5, .i a6, .i a7, .l a8, .l a9, .l a10, .i a11, .l a12, .l a13, .i a14, .i a15, .i a16, .i a17, .s a18, .s a19, .i a20, .s a21, .l a22, .b a23] =
 (Lqcw none [.i a0, .i a1, .l a2, .l a3, .i a4, .i a5, .i a6, .i a7, .l a8, .l a9, .l a10, .i a11, .l a12, .l a13, .i a14, .i a15, .i a16]).bind fun y1 =>
 cond (!(g y1 0).bool) (
 some [.i 1, .i 0, .i 0, .i 0, .i 0, .i 0, .i 0, .i 0, .i 0, .i 0, .i 0, .s (⟨#[]⟩ : ByteArray), .i 0, .s (⟨#[]⟩ : ByteArray), .s (⟨#[]⟩ : ByteArray), .l [], .l [], .l [], .l [], .l [], .l [], .l []]) (
 (Lqcx none [.i a0, .i a1, .l a2, .l a3, .i a4, .i a5, .i a6, .i a7, .l a8, .l a9, .l a10, .i a11, .l a12, .l a13, .i a14, .i a15, .i a16]).bind fun y2 =>
 (Lqf none [.i a17, .s a18, .s a19, .i a20, .s a21, .l a22, .i a0]).bind fun y3 =>
 cond (!(g y3 0).bool) (
 some [.i 1, .i ((g y2 0).int), .i ((g y2 1).int), .i ((g y2 2).int), .i ((g y2 3).int), .i ((g y2 4).int), .i ((g y2 5).int), .i ((g y2 6).int), .i ((g y2 7).int), .i ((g y2 8).int), .i ((g y2 9).int), .s (⟨#[]⟩ : ByteArray), .i 0, .s (⟨#[]⟩ : ByteArray), .s (⟨#[]⟩ : ByteArray), .l ((g y2 10).list), .l ((g y2 11).list), .l ((g y2 12).list), .l ((g y2 13).list), .l ((g y2 14).list), .l ((g y2 15).list), .l ((g y2 16).list)]) (
 (Lqa none [.i a17, .s a18, .s a19, .i a20, .s a21, .l a22, .i ((g y2 2).int), .i ((g y2 3).int), .i ((g y2 4).int), .i ((g y2 5).int), .l ((g y2 12).list), .l ((g y2 13).list), .l ((g y2 14).list)]).bind fun y4 =>
 cond ((g y4 0).int != 0) (
 (Lqcx none [.i a0, .i a1, .l a2, .l a3, .i a4, .i a5, .i a6, .i a7, .l a8, .l a9, .l a10, .i a11, .l a12, .l a13, .i a14, .i a15, .i a16]).bind fun y5 =>
 some [.i ((g y4 0).int), .i ((g y5 0).int), .i ((g y5 1).int), .i ((g y5 2).int), .i ((g y5 3).int), .i ((g y5 4).int), .i ((g y5 5).int), .i ((g y5 6).int), .i ((g y5 7).int), .i ((g y5 8).int), .i ((g y5 9).int), .s (⟨#[]⟩ : ByteArray), .i 0, .s ((g y4 10).str), .s ((g y4 11).str), .l ((g y5 10).list), .l ((g y5 11).list), .l ((g y5 12).list), .l ((g y5 13).list), .l ((g y5 14).list), .l ((g y5 15).list), .l ((g y5 16).list)]) (
 cond (a17 == 1) (
 (Lqbp none [.i ((g y4 12).int), .i ((g y4 13).int), .i ((g y4 14).int), .i ((g y4 15).int), .l ((g y4 16).list), .l ((g y4 17).list), .l ((g y4 18).list)]).bind fun y6 =>
 cond (decide (a1 < (g y6 0).int)) (
 (Lqcx none [.i a0, .i a1, .l a2, .l a3, .i a4, .i a5, .i a6, .i a7, .l a8, .l a9, .l a10, .i a11, .l a12, .l a13, .i a14, .i a15, .i a16]).bind fun y7 =>
 some [.i 8, .i ((g y7 0).int), .i ((g y7 1).int), .i ((g y7 2).int), .i ((g y7 3).int), .i ((g y7 4).int), .i ((g y7 5).int), .i ((g y7 6).int), .i ((g y7 7).int), .i ((g y7 8).int), .i ((g y7 9).int), .s (⟨#[]⟩ : ByteArray), .i 0, .s (⟨#[]⟩ : ByteArray), .s (⟨#[]⟩ : ByteArray), .l ((g y7 10).list), .l ((g y7 11).list), .l ((g y7 12).list), .l ((g y7 13).list), .l ((g y7 14).list), .l ((g y7 15).list), .l ((g y7 16).list)]) (
 cond ((IntKind.i64.wrap ((a2.length : Int) + (a3.length : Int))) == 4000) (
 (Lqcx none [.i a0, .i a1, .l a2, .l a3, .i a4, .i a5, .i a6, .i a7, .l a8, .l a9, .l a10, .i a11, .l a12, .l a13, .i a14, .i a15, .i a16]).bind fun y8 =>
 some [.i 9, .i ((g y8 0).int), .i ((g y8 1).int), .i ((g y8 2).int), .i ((g y8 3).int), .i ((g y8 4).int), .i ((g y8 5).int), .i ((g y8 6).int), .i ((g y8 7).int), .i ((g y8 8).int), .i ((g y8 9).int), .s (⟨#[]⟩ : ByteArray), .i 0, .s (⟨#[]⟩ : ByteArray), .s (⟨#[]⟩ : ByteArray), .l ((g y8 10).list), .l ((g y8 11).list), .l ((g y8 12).list), .l ((g y8 13).list), .l ((g y8 14).list), .l ((g y8 15).list), .l ((g y8 16).list)]) (
 (Lqc2 none [.i a17, .s a18, .s a19, .i a20, .s a21, .l a22, .i a0]).bind fun y9 =>
 cond (decide (((g y2 11).list).length + ([[.s ((g y9 0).str)]] : Rw).length ≤ most)) (
 cond a23 (
 cond (a17 == 1) (
 Lqbl (some 18) [.s ((g y4 8).str), .i 0, .i 0, .i 0, .i 0, .i 0, .i 0, .i 0, .i 0, .i 0, .i 0, .i 0, .s (⟨#[]⟩ : ByteArray), .i 0, .s (⟨#[]⟩ : ByteArray), .s (⟨#[]⟩ : ByteArray), .i ((g y2 0).int), .i ((g y2 1).int), .i ((g y4 12).int), .i ((g y4 13).int), .i ((g y4 14).int), .i ((g y4 15).int), .i ((g y2 6).int), .i ((g y2 7).int), .i ((g y2 8).int), .i ((g y2 9).int), .i ((g y4 0).int), .i ((g y4 1).int), .i ((g y4 2).int), .i ((g y4 3).int), .i ((g y4 4).int), .l ((g y4 5).list), .l ((g y4 6).list), .l ((g y4 7).list), .s ((g y4 8).str), .i ((g y4 9).int), .s ((g y4 10).str), .s ((g y4 11).str), .l ((g y2 10).list), .l ((g y2 11).list ++ ([[.s ((g y9 0).str)]] : Rw)), .l ((g y4 16).list), .l ((g y4 17).list), .l ((g y4 18).list), .l ((g y2 15).list), .l ((g y2 16).list), .l [], .l [], .l [], .l [], .l [], .l [], .l []]) (
 Lqbl (some 18) [.s a18, .i 0, .i 0, .i 0, .i 0, .i 0, .i 0, .i 0, .i 0, .i 0, .i 0, .i 0, .s (⟨#[]⟩ : ByteArray), .i 0, .s (⟨#[]⟩ : ByteArray), .s (⟨#[]⟩ : ByteArray), .i ((g y2 0).int), .i ((g y2 1).int), .i ((g y4 12).int), .i ((g y4 13).int), .i ((g y4 14).int), .i ((g y4 15).int), .i ((g y2 6).int), .i ((g y2 7).int), .i ((g y2 8).int), .i ((g y2 9).int), .i ((g y4 0).int), .i ((g y4 1).int), .i ((g y4 2).int), .i ((g y4 3).int), .i ((g y4 4).int), .l ((g y4 5).list), .l ((g y4 6).list), .l ((g y4 7).list), .s ((g y4 8).str), .i ((g y4 9).int), .s ((g y4 10).str), .s ((g y4 11).str), .l ((g y2 10).list), .l ((g y2 11).list ++ ([[.s ((g y9 0).str)]] : Rw)), .l ((g y4 16).list), .l ((g y4 17).list), .l ((g y4 18).list), .l ((g y2 15).list), .l ((g y2 16).list), .l [], .l [], .l [], .l [], .l [], .l [], .l []])) (
 some [.i 0, .i ((g y2 0).int), .i ((g y2 1).int), .i ((g y4 12).int), .i ((g y4 13).int), .i ((g y4 14).int), .i ((g y4 15).int), .i ((g y2 6).int), .i ((g y2 7).int), .i ((g y2 8).int), .i ((g y2 9).int), .s ((g y4 8).str), .i ((g y4 9).int), .s (⟨#[]⟩ : ByteArray), .s (⟨#[]⟩ : ByteArray), .l ((g y2 10).list), .l ((g y2 11).list ++ ([[.s ((g y9 0).str)]] : Rw)), .l ((g y4 16).list), .l ((g y4 17).list), .l ((g y4 18).list), .l ((g y2 15).list), .l ((g y2 16).list)])) (
 none)))) (
 cond ((IntKind.i64.wrap ((a2.length : Int) + (a3.length : Int))) == 4000) (
 (Lqcx none [.i a0, .i a1, .l a2, .l a3, .i a4, .i a5, .i a6, .i a7, .l a8, .l a9, .l a10, .i a11, .l a12, .l a13, .i a14, .i a15, .i a16]).bind fun y10 =>
 some [.i 9, .i ((g y10 0).int), .i ((g y10 1).int), .i ((g y10 2).int), .i ((g y10 3).int), .i ((g y10 4).int), .i ((g y10 5).int), .i ((g y10 6).int), .i ((g y10 7).int), .i ((g y10 8).int), .i ((g y10 9).int), .s (⟨#[]⟩ : ByteArray), .i 0, .s (⟨#[]⟩ : ByteArray), .s (⟨#[]⟩ : ByteArray), .l ((g y10 10).list), .l ((g y10 11).list), .l ((g y10 12).list), .l ((g y10 13).list), .l ((g y10 14).list), .l ((g y10 15).list), .l ((g y10 16).list)]) (
 (Lqc2 none [.i a17, .s a18, .s a19, .i a20, .s a21, .l a22, .i a0]).bind fun y11 =>
 cond (decide (((g y2 11).list).length + ([[.s ((g y11 0).str)]] : Rw).length ≤ most)) (
 cond a23 (
 cond (a17 == 1) (
 Lqbl (some 18) [.s ((g y4 8).str), .i 0, .i 0, .i 0, .i 0, .i 0, .i 0, .i 0, .i 0, .i 0, .i 0, .i 0, .s (⟨#[]⟩ : ByteArray), .i 0, .s (⟨#[]⟩ : ByteArray), .s (⟨#[]⟩ : ByteArray), .i ((g y2 0).int), .i ((g y2 1).int), .i ((g y4 12).int), .i ((g y4 13).int), .i ((g y4 14).int), .i ((g y4 15).int), .i ((g y2 6).int), .i ((g y2 7).int), .i ((g y2 8).int), .i ((g y2 9).int), .i ((g y4 0).int), .i ((g y4 1).int), .i ((g y4 2).int), .i ((g y4 3).int), .i ((g y4 4).int), .l ((g y4 5).list), .l ((g y4 6).list), .l ((g y4 7).list), .s ((g y4 8).str), .i ((g y4 9).int), .s ((g y4 10).str), .s ((g y4 11).str), .l ((g y2 10).list), .l ((g y2 11).list ++ ([[.s ((g y11 0).str)]] : Rw)), .l ((g y4 16).list), .l ((g y4 17).list), .l ((g y4 18).list), .l ((g y2 15).list), .l ((g y2 16).list), .l [], .l [], .l [], .l [], .l [], .l [], .l []]) (
 Lqbl (some 18) [.s a18, .i 0, .i 0, .i 0, .i 0, .i 0, .i 0, .i 0, .i 0, .i 0, .i 0, .i 0, .s (⟨#[]⟩ : ByteArray), .i 0, .s (⟨#[]⟩ : ByteArray), .s (⟨#[]⟩ : ByteArray), .i ((g y2 0).int), .i ((g y2 1).int), .i ((g y4 12).int), .i ((g y4 13).int), .i ((g y4 14).int), .i ((g y4 15).int), .i ((g y2 6).int), .i ((g y2 7).int), .i ((g y2 8).int), .i ((g y2 9).int), .i ((g y4 0).int), .i ((g y4 1).int), .i ((g y4 2).int), .i ((g y4 3).int), .i ((g y4 4).int), .l ((g y4 5).list), .l ((g y4 6).list), .l ((g y4 7).list), .s ((g y4 8).str), .i ((g y4 9).int), .s ((g y4 10).str), .s ((g y4 11).str), .l ((g y2 10).list), .l ((g y2 11).list ++ ([[.s ((g y11 0).str)]] : Rw)), .l ((g y4 16).list), .l ((g y4 17).list), .l ((g y4 18).list), .l ((g y2 15).list), .l ((g y2 16).list), .l [], .l [], .l [], .l [], .l [], .l [], .l []])) (
 some [.i 0, .i ((g y2 0).int), .i ((g y2 1).int), .i ((g y4 12).int), .i ((g y4 13).int), .i ((g y4 14).int), .i ((g y4 15).int), .i ((g y2 6).int), .i ((g y2 7).int), .i ((g y2 8).int), .i ((g y2 9).int), .s ((g y4 8).str), .i ((g y4 9).int), .s (⟨#[]⟩ : ByteArray), .s (⟨#[]⟩ : ByteArray), .l ((g y2 10).list), .l ((g y2 11).list ++ ([[.s ((g y11 0).str)]] : Rw)), .l ((g y4 16).list), .l ((g y4 17).list), .l ((g y4 18).list), .l ((g y2 15).list), .l ((g y2 16).list)])) (
 none)))))) := (Lim_eq _ _).trans (by kernel_rfl)
theorem eqbl_18 (a0 : ByteArray) (a1 : Int) (a2 : Int) (a3 : Int) (a4 : Int) (a5 : Int) (a6 : Int) (a7 : Int) (a8 : Int) (a9 : Int) (a10 : Int) (a11 : Int) (a12 : ByteArray) (a13 : Int) (a14 : ByteArray) (a15 : ByteArray) (a16 : Int) (a17 : Int) (a18 : Int) (a19 : Int) (a20 : Int) (a21 : Int) (a22 : Int) (a23 : Int) (a24 : Int) (a25 : Int) (a26 : Int) (a27 : Int) (a28 : Int) (a29 : Int) (a30 : Int) (a31 : Rw) (a32 : Rw) (a33 : Rw) (a34 : ByteArray) (a35 : Int) (a36 : ByteArray) (a37 : ByteArray) (a38 : Rw) (a39 : Rw) (a40 : Rw) (a41 : Rw) (a42 : Rw) (a43 : Rw) (a44 : Rw) (a45 : Rw) (a46 : Rw) (a47 : Rw) (a48 : Rw) (a49 : Rw) (a50 : Rw) (a51 : Rw) : Lqbl (some 18) [.s a0, .i a1, .i a2, .i a3, .i a4, .i a5, .i a6, .i a7, .i a8, .i a9, .i a10, .i a11, .s a12, .i a13, .s a14, .s a15, .i a16, .i a17, .i a18, .i a19, .i a20, .i a21, .i a22, .i a23, .i a24, .i a25, .i a26, .i a27, .i a28, .i a29, .i a30, .l a31, .l a32, .l a33, .s a34, .i a35, .s a36, .s a37, .l a38, .l a39, .l a40, .l a41, .l a42, .l a43, .l a44, .l a45, .l a46, .l a47, .l a48, .l a49, .l a50, .l a51] =
 (Lqci none [.i a22, .l a43, .l a44, .i a23, .i a24, .i a25, .s a0, .i a18, .i a19, .i a20, .i a21, .l a40, .l a41, .l a42]).bind fun y1 =>
 some [.i 0, .i a16, .i a17, .i a18, .i a19, .i a20, .i a21, .i ((g y1 0).int), .i ((g y1 1).int), .i ((g y1 2).int), .i ((g y1 3).int), .s a34, .i a35, .s (⟨#[]⟩ : ByteArray), .s (⟨#[]⟩ : ByteArray), .l a38, .l a39, .l a40, .l a41, .l a42, .l ((g y1 4).list), .l ((g y1 5).list)] := (Lim_eq _ _).trans (by kernel_rfl)
theorem kqbl : SigOk Tryz.prog (dqbl.sig (Lqbl none)) ∧ (dqbl.sig (Lqbl none)).ok = true := sound_lim (known_cons kqf (by kernel_rfl) (known_cons kqa (by kernel_rfl) (known_cons kqcw (by kernel_rfl) (known_cons kqc2 (by kernel_rfl) (known_cons kqcx (by kernel_rfl) (known_cons kqbp (by kernel_rfl) (known_cons kqci (by kernel_rfl) known_nil))))))) (by kernel_rfl) (by kernel_rfl) (by kernel_rfl)
def dqc6 : FD := { fn := 60, nb := 0, pre := ⟨[.ag [.i .i64 0, .i .i64 1, .fz 9 false 2, .fz 9 false 3, .i .i64 4, .i .i64 5, .i .i64 6, .i .i64 7, .fz 90 false 8, .fz 156 false 9, .fz 158 false 10, .i .i64 11, .fz 9 false 12, .fz 9 false 13, .i .i64 14, .i .i64 15, .i .i64 16], .ag [.s 17, .fz 9 false 18], .sc (.i .i64 19)], []⟩, post := ⟨[.ag [.i .i64 0, .i .i64 1, .i .i64 2, .ow 0, .ow 1, .i .i64 3, .i .i64 4, .i .i64 5, .i .i64 6, .ow 2, .ow 3, .ow 4, .i .i64 7, .ow 5, .ow 6, .i .i64 8, .i .i64 9, .i .i64 10, .s 11, .i .i64 12, .s 13, .s 14]], [.rw 9 true 15, .rw 9 true 16, .rw 90 false 17, .rw 156 false 18, .rw 158 false 19, .rw 9 true 20, .rw 9 true 21]⟩, sh := true, cuts := [] }
noncomputable def Lqc6 : Option Nat → Lv → Option Lv := Lim Tryz.prog [dq0.sig (Lq0 none), dqbl.sig (Lqbl none)] dqc6 Tryz.f60
theorem eqc6_i (a0 : Int) (a1 : Int) (a2 : Rw) (a3 : Rw) (a4 : Int) (a5 : Int) (a6 : Int) (a7 : Int) (a8 : Rw) (a9 : Rw) (a10 : Rw) (a11 : Int) (a12 : Rw) (a13 : Rw) (a14 : Int) (a15 : Int) (a16 : Int) (a17 : ByteArray) (a18 : Rw) (a19 : Int) : Lqc6 none [.i a0, .i a1, .l a2, .l a3, .i a4, .i a5, .i a6, .i a7, .l a8, .l a9, .l a10, .i a11, .l a12, .l a13, .i a14, .i a15, .i a16, .s a17, .l a18, .i a19] =
 (Lq0 none [.l a18]).bind fun y1 =>
 (Lqbl none [.i a0, .i a1, .l a2, .l a3, .i a4, .i a5, .i a6, .i a7, .l a8, .l a9, .l a10, .i a11, .l a12, .l a13, .i a14, .i a15, .i a16, .i 1, .s (⟨#[]⟩ : ByteArray), .s (⟨#[]⟩ : ByteArray), .i a19, .s a17, .l ((g y1 0).list), .b true]).bind fun y2 =>
 some [.i ((g y2 0).int), .i ((g y2 1).int), .i ((g y2 2).int), .i ((g y2 3).int), .i ((g y2 4).int), .i ((g y2 5).int), .i ((g y2 6).int), .i ((g y2 7).int), .i ((g y2 8).int), .i ((g y2 9).int), .i ((g y2 10).int), .s ((g y2 11).str), .i ((g y2 12).int), .s ((g y2 13).str), .s ((g y2 14).str), .l ((g y2 15).list), .l ((g y2 16).list), .l ((g y2 17).list), .l ((g y2 18).list), .l ((g y2 19).list), .l ((g y2 20).list), .l ((g y2 21).list)] := (Lim_eq _ _).trans (by kernel_rfl)
theorem kqc6 : SigOk Tryz.prog (dqc6.sig (Lqc6 none)) ∧ (dqc6.sig (Lqc6 none)).ok = true := sound_lim (known_cons kq0 (by kernel_rfl) (known_cons kqbl (by kernel_rfl) known_nil)) (by kernel_rfl) (by kernel_rfl) (by kernel_rfl)
def dqc7 : FD := { fn := 62, nb := 0, pre := ⟨[.ag [.i .i64 0, .i .i64 1, .fz 9 false 2, .fz 9 false 3, .i .i64 4, .i .i64 5, .i .i64 6, .i .i64 7, .fz 90 false 8, .fz 156 false 9, .fz 158 false 10, .i .i64 11, .fz 9 false 12, .fz 9 false 13, .i .i64 14, .i .i64 15, .i .i64 16], .sc (.s 17), .sc (.s 18)], []⟩, post := ⟨[.ag [.i .i64 0, .i .i64 1, .i .i64 2, .ow 0, .ow 1, .i .i64 3, .i .i64 4, .i .i64 5, .i .i64 6, .ow 2, .ow 3, .ow 4, .i .i64 7, .ow 5, .ow 6, .i .i64 8, .i .i64 9, .i .i64 10, .s 11, .i .i64 12, .s 13, .s 14]], [.rw 9 true 15, .rw 9 true 16, .rw 90 false 17, .rw 156 false 18, .rw 158 false 19, .rw 9 true 20, .rw 9 true 21]⟩, sh := true, cuts := [] }
noncomputable def Lqc7 : Option Nat → Lv → Option Lv := Lim Tryz.prog [dqbl.sig (Lqbl none)] dqc7 Tryz.f62
theorem eqc7_i (a0 : Int) (a1 : Int) (a2 : Rw) (a3 : Rw) (a4 : Int) (a5 : Int) (a6 : Int) (a7 : Int) (a8 : Rw) (a9 : Rw) (a10 : Rw) (a11 : Int) (a12 : Rw) (a13 : Rw) (a14 : Int) (a15 : Int) (a16 : Int) (a17 : ByteArray) (a18 : ByteArray) : Lqc7 none [.i a0, .i a1, .l a2, .l a3, .i a4, .i a5, .i a6, .i a7, .l a8, .l a9, .l a10, .i a11, .l a12, .l a13, .i a14, .i a15, .i a16, .s a17, .s a18] =
 (Lqbl none [.i a0, .i a1, .l a2, .l a3, .i a4, .i a5, .i a6, .i a7, .l a8, .l a9, .l a10, .i a11, .l a12, .l a13, .i a14, .i a15, .i a16, .i 2, .s a18, .s a17, .i 0, .s (⟨#[]⟩ : ByteArray), .l ([]), .b true]).bind fun y1 =>
 some [.i ((g y1 0).int), .i ((g y1 1).int), .i ((g y1 2).int), .i ((g y1 3).int), .i ((g y1 4).int), .i ((g y1 5).int), .i ((g y1 6).int), .i ((g y1 7).int), .i ((g y1 8).int), .i ((g y1 9).int), .i ((g y1 10).int), .s ((g y1 11).str), .i ((g y1 12).int), .s ((g y1 13).str), .s ((g y1 14).str), .l ((g y1 15).list), .l ((g y1 16).list), .l ((g y1 17).list), .l ((g y1 18).list), .l ((g y1 19).list), .l ((g y1 20).list), .l ((g y1 21).list)] := (Lim_eq _ _).trans (by kernel_rfl)
theorem kqc7 : SigOk Tryz.prog (dqc7.sig (Lqc7 none)) ∧ (dqc7.sig (Lqc7 none)).ok = true := sound_lim (known_cons kqbl (by kernel_rfl) known_nil) (by kernel_rfl) (by kernel_rfl) (by kernel_rfl)
def dqh : FD := { fn := 86, nb := 0, pre := ⟨[.sc (.i .i64 0)], []⟩, post := ⟨[.sc (.b 0)], []⟩, sh := false, cuts := [] }
noncomputable def Lqh : Option Nat → Lv → Option Lv := Lim Tryz.prog [] dqh Tryz.f86
theorem eqh_i (a0 : Int) : Lqh none [.i a0] =
 cond (decide (1 ≤ a0)) (
 some [.b (decide (a0 ≤ 8))]) (
 some [.b false]) := (Lim_eq _ _).trans (by kernel_rfl)
theorem kqh : SigOk Tryz.prog (dqh.sig (Lqh none)) ∧ (dqh.sig (Lqh none)).ok = true := sound_lim known_nil (by kernel_rfl) (by kernel_rfl) (by kernel_rfl)
def dq5 : FD := { fn := 92, nb := 0, pre := ⟨[.ag [.s 0, .fz 9 false 1], .sc (.i .i64 2)], []⟩, post := ⟨[.sc (.b 0)], []⟩, sh := false, cuts := [⟨4, [1, 2, 5], ⟨[.sc (.i .i64 0), .sc (.pt 0 0), .sc (.i .i64 1)], [.bx [.s 2, .fz 9 false 3]]⟩⟩] }
noncomputable def Lq5 : Option Nat → Lv → Option Lv := Lim Tryz.prog [dqh.sig (Lqh none)] dq5 Tryz.f92
theorem eq5_i (a0 : ByteArray) (a1 : Rw) (a2 : Int) : Lq5 none [.s a0, .l a1, .i a2] =
 (Lqh none [.i a2]).bind fun y1 =>
 cond (!(g y1 0).bool) (
 some [.b false]) (
 cond (decide (2000 < (a0.size : Int))) (
 some [.b false]) (
 cond (decide (30 < (a1.length : Int))) (
 some [.b false]) (
 Lq5 (some 4) [.i a2, .i 0, .s a0, .l a1]))) := (Lim_eq _ _).trans (by kernel_rfl)
theorem eq5_4 (a0 : Int) (a1 : Int) (a2 : ByteArray) (a3 : Rw) : Lq5 (some 4) [.i a0, .i a1, .s a2, .l a3] =
 cond (decide (a1 < (a3.length : Int))) (
 cond (inb a1 a3.length) (
 cond ((((rd a3 a1.toNat 0).str).size : Int) != a0) (
 some [.b false]) (
 cond (decide (0 < a1)) (
 cond (inb (IntKind.i64.wrap (a1 - 1)) a3.length) (
 cond (inb a1 a3.length) (
 cond (!slt ((rd a3 ((IntKind.i64.wrap (a1 - 1)).toNat) 0).str) ((rd a3 a1.toNat 0).str)) (
 some [.b false]) (
 Lq5 (some 4) [.i a0, .i (IntKind.i64.wrap (a1 + 1)), .s a2, .l a3])) (
 none)) (
 none)) (
 Lq5 (some 4) [.i a0, .i (IntKind.i64.wrap (a1 + 1)), .s a2, .l a3]))) (
 none)) (
 some [.b true]) := (Lim_eq _ _).trans (by kernel_rfl)
theorem kq5 : SigOk Tryz.prog (dq5.sig (Lq5 none)) ∧ (dq5.sig (Lq5 none)).ok = true := sound_lim (known_cons kqh (by kernel_rfl) known_nil) (by kernel_rfl) (by kernel_rfl) (by kernel_rfl)
def dqbq : FD := { fn := 127, nb := 0, pre := ⟨[.sc (.s 0)], []⟩, post := ⟨[.sc (.b 0)], []⟩, sh := false, cuts := [⟨2, [0, 3], ⟨[.sc (.s 0), .sc (.i .i64 1)], []⟩⟩] }
noncomputable def Lqbq : Option Nat → Lv → Option Lv := Lim Tryz.prog [] dqbq Tryz.f127
theorem eqbq_i (a0 : ByteArray) : Lqbq none [.s a0] =
 Lqbq (some 2) [.s a0, .i 0] := (Lim_eq _ _).trans (by kernel_rfl)
theorem eqbq_2 (a0 : ByteArray) (a1 : Int) : Lqbq (some 2) [.s a0, .i a1] =
 cond (decide (a1 < (a0.size : Int))) (
 cond (inb a1 a0.size) (
 cond (decide ((byteAt a0 a1.toNat) < 33)) (
 some [.b false]) (
 cond (inb a1 a0.size) (
 cond (decide (126 < (byteAt a0 a1.toNat))) (
 some [.b false]) (
 Lqbq (some 2) [.s a0, .i (IntKind.i64.wrap (a1 + 1))])) (
 none))) (
 none)) (
 cond (decide (1 ≤ (a0.size : Int))) (
 some [.b (decide ((a0.size : Int) ≤ 40))]) (
 some [.b false])) := (Lim_eq _ _).trans (by kernel_rfl)
theorem kqbq : SigOk Tryz.prog (dqbq.sig (Lqbq none)) ∧ (dqbq.sig (Lqbq none)).ok = true := sound_lim known_nil (by kernel_rfl) (by kernel_rfl) (by kernel_rfl)
def dqds : FD := { fn := 150, nb := 0, pre := ⟨[.sc (.i .i64 0)], []⟩, post := ⟨[.tu [(false, [.b 0]), (false, [.b 1]), (false, [.i .i64 2]), (false, [.b 3])]], []⟩, sh := false, cuts := [] }
noncomputable def Lqds : Option Nat → Lv → Option Lv := Lim Tryz.prog [] dqds Tryz.f150
theorem eqds_i (a0 : Int) : Lqds none [.i a0] =
 cond (a0 == 1) (
 some [.b false, .b false, .i 1, .b true]) (
 cond (a0 == 2) (
 some [.b true, .b true, .i 0, .b false]) (
 cond (a0 == 3) (
 some [.b false, .b true, .i 0, .b false]) (
 cond (a0 == 4) (
 some [.b true, .b false, .i 1, .b false]) (
 cond (a0 == 5) (
 some [.b false, .b false, .i 2, .b false]) (
 cond (a0 == 6) (
 some [.b false, .b false, .i 1, .b false]) (
 cond (a0 == 7) (
 some [.b true, .b false, .i 0, .b false]) (
 some [.b false, .b false, .i 0, .b false]))))))) := (Lim_eq _ _).trans (by kernel_rfl)
theorem kqds : SigOk Tryz.prog (dqds.sig (Lqds none)) ∧ (dqds.sig (Lqds none)).ok = true := sound_lim known_nil (by kernel_rfl) (by kernel_rfl) (by kernel_rfl)
def dqcy : FD := { fn := 204, nb := 0, pre := ⟨[.sc (.i .i64 0), .sc (.i .i64 1)], []⟩, post := ⟨[.sc (.b 0)], []⟩, sh := false, cuts := [] }
noncomputable def Lqcy : Option Nat → Lv → Option Lv := Lim Tryz.prog [] dqcy Tryz.f204
theorem eqcy_i (a0 : Int) (a1 : Int) : Lqcy none [.i a0, .i a1] =
 cond (a1 == 1) (
 cond (decide (1 ≤ a0)) (
 some [.b (decide (a0 ≤ 100000))]) (
 some [.b false])) (
 cond (a1 == 2) (
 cond (decide (1 ≤ a0)) (
 some [.b (decide (a0 ≤ 1000000000))]) (
 some [.b false])) (
 some [.b (a0 == 0)])) := (Lim_eq _ _).trans (by kernel_rfl)
theorem kqcy : SigOk Tryz.prog (dqcy.sig (Lqcy none)) ∧ (dqcy.sig (Lqcy none)).ok = true := sound_lim known_nil (by kernel_rfl) (by kernel_rfl) (by kernel_rfl)
def dqv : FD := { fn := 152, nb := 0, pre := ⟨[.ag [.i .i64 0, .s 1, .s 2, .i .i64 3, .s 4, .fz 9 false 5], .sc (.i .i64 6)], []⟩, post := ⟨[.sc (.b 0)], []⟩, sh := false, cuts := [⟨6, [1, 2, 6, 8], ⟨[.sc (.i .i64 0), .sc (.pt 0 0), .sc (.b 1), .sc (.b 2)], [.bx [.i .i64 3, .s 4, .s 5, .i .i64 6, .s 7, .fz 9 false 8]]⟩⟩, ⟨8, [1, 2, 8], ⟨[.sc (.i .i64 0), .sc (.pt 0 0), .sc (.b 1)], [.bx [.i .i64 2, .s 3, .s 4, .i .i64 5, .s 6, .fz 9 false 7]]⟩⟩] }
noncomputable def Lqv : Option Nat → Lv → Option Lv := Lim Tryz.prog [dqh.sig (Lqh none), dq5.sig (Lq5 none), dqbq.sig (Lqbq none), dqds.sig (Lqds none), dqcy.sig (Lqcy none)] dqv Tryz.f152
theorem eqv_i (a0 : Int) (a1 : ByteArray) (a2 : ByteArray) (a3 : Int) (a4 : ByteArray) (a5 : Rw) (a6 : Int) : Lqv none [.i a0, .s a1, .s a2, .i a3, .s a4, .l a5, .i a6] =
 (Lqh none [.i a6]).bind fun y1 =>
 cond (!(g y1 0).bool) (
 some [.b false]) (
 cond (decide (a0 < 1)) (
 some [.b false]) (
 cond (decide (7 < a0)) (
 some [.b false]) (
 (Lqds none [.i a0]).bind fun y2 =>
 cond ((g y2 0).bool) (
 cond ((a1.size : Int) != a6) (
 some [.b false]) (
 cond (!(g y2 0).bool) (
 cond (!Eng.seq a1 (⟨#[]⟩ : ByteArray)) (
 some [.b false]) (
 (Lqcy none [.i a3, .i ((g y2 2).int)]).bind fun y3 =>
 cond (!(g y3 0).bool) (
 some [.b false]) (
 Lqv (some 6) [.i a6, .b ((g y2 1).bool), .b ((g y2 3).bool), .i a0, .s a1, .s a2, .i a3, .s a4, .l a5]))) (
 (Lqcy none [.i a3, .i ((g y2 2).int)]).bind fun y4 =>
 cond (!(g y4 0).bool) (
 some [.b false]) (
 Lqv (some 6) [.i a6, .b ((g y2 1).bool), .b ((g y2 3).bool), .i a0, .s a1, .s a2, .i a3, .s a4, .l a5])))) (
 cond (!(g y2 0).bool) (
 cond (!Eng.seq a1 (⟨#[]⟩ : ByteArray)) (
 some [.b false]) (
 (Lqcy none [.i a3, .i ((g y2 2).int)]).bind fun y5 =>
 cond (!(g y5 0).bool) (
 some [.b false]) (
 Lqv (some 6) [.i a6, .b ((g y2 1).bool), .b ((g y2 3).bool), .i a0, .s a1, .s a2, .i a3, .s a4, .l a5]))) (
 (Lqcy none [.i a3, .i ((g y2 2).int)]).bind fun y6 =>
 cond (!(g y6 0).bool) (
 some [.b false]) (
 Lqv (some 6) [.i a6, .b ((g y2 1).bool), .b ((g y2 3).bool), .i a0, .s a1, .s a2, .i a3, .s a4, .l a5])))))) := (Lim_eq _ _).trans (by kernel_rfl)
theorem eqv_6 (a0 : Int) (a1 : Bool) (a2 : Bool) (a3 : Int) (a4 : ByteArray) (a5 : ByteArray) (a6 : Int) (a7 : ByteArray) (a8 : Rw) : Lqv (some 6) [.i a0, .b a1, .b a2, .i a3, .s a4, .s a5, .i a6, .s a7, .l a8] =
 cond a1 (
 (Lqbq none [.s a5]).bind fun y1 =>
 cond (!(g y1 0).bool) (
 some [.b false]) (
 cond (!a1) (
 cond (!Eng.seq a5 (⟨#[]⟩ : ByteArray)) (
 some [.b false]) (
 Lqv (some 8) [.i a0, .b a2, .i a3, .s a4, .s a5, .i a6, .s a7, .l a8])) (
 Lqv (some 8) [.i a0, .b a2, .i a3, .s a4, .s a5, .i a6, .s a7, .l a8]))) (
 cond (!a1) (
 cond (!Eng.seq a5 (⟨#[]⟩ : ByteArray)) (
 some [.b false]) (
 Lqv (some 8) [.i a0, .b a2, .i a3, .s a4, .s a5, .i a6, .s a7, .l a8])) (
 Lqv (some 8) [.i a0, .b a2, .i a3, .s a4, .s a5, .i a6, .s a7, .l a8])) := (Lim_eq _ _).trans (by kernel_rfl)
theorem eqv_8 (a0 : Int) (a1 : Bool) (a2 : Int) (a3 : ByteArray) (a4 : ByteArray) (a5 : Int) (a6 : ByteArray) (a7 : Rw) : Lqv (some 8) [.i a0, .b a1, .i a2, .s a3, .s a4, .i a5, .s a6, .l a7] =
 cond a1 (
 (Lq5 none [.s a6, .l a7, .i a0]).bind fun y1 =>
 some [.b ((g y1 0).bool)]) (
 cond (Eng.seq a6 (⟨#[]⟩ : ByteArray)) (
 some [.b ((a7.length : Int) == 0)]) (
 some [.b false])) := (Lim_eq _ _).trans (by kernel_rfl)
theorem kqv : SigOk Tryz.prog (dqv.sig (Lqv none)) ∧ (dqv.sig (Lqv none)).ok = true := sound_lim (known_cons kqh (by kernel_rfl) (known_cons kq5 (by kernel_rfl) (known_cons kqbq (by kernel_rfl) (known_cons kqds (by kernel_rfl) (known_cons kqcy (by kernel_rfl) known_nil))))) (by kernel_rfl) (by kernel_rfl) (by kernel_rfl)
def dqi : FD := { fn := 22, nb := 0, pre := ⟨[.ag [.s 0, .fz 9 false 1], .sc (.i .i64 2)], []⟩, post := ⟨[.sc (.s 0)], []⟩, sh := false, cuts := [⟨5, [2, 5, 6], ⟨[.sc (.pt 0 0), .sc (.ow 1), .sc (.i .i64 0)], [.bx [.s 1, .fz 9 false 2], .rw 5 true 3]⟩⟩] }
noncomputable def Lqi : Option Nat → Lv → Option Lv := Lim Tryz.prog [dq5.sig (Lq5 none)] dqi Tryz.f22
theorem eqi_i (a0 : ByteArray) (a1 : Rw) (a2 : Int) : Lqi none [.s a0, .l a1, .i a2] =
 (Lq5 none [.s a0, .l a1, .i a2]).bind fun y1 =>
 cond (!(g y1 0).bool) (
 some [.s (⟨#[]⟩ : ByteArray)]) (
 Lqi (some 5) [.i 0, .s a0, .l a1, .l ([[.i (IntKind.u8.wrap (a1.length : Int))]] : Rw)]) := (Lim_eq _ _).trans (by kernel_rfl)
theorem eqi_5 (a0 : Int) (a1 : ByteArray) (a2 : Rw) (a3 : Rw) : Lqi (some 5) [.i a0, .s a1, .l a2, .l a3] =
 cond (decide (a0 < (a2.length : Int))) (
 cond (inb a0 a2.length) (
 cond (decide (a3.length + (rowsOf ((rd a2 a0.toNat 0).str)).length ≤ most)) (
 Lqi (some 5) [.i (IntKind.i64.wrap (a0 + 1)), .s a1, .l a2, .l (a3 ++ (rowsOf ((rd a2 a0.toNat 0).str)))]) (
 none)) (
 none)) (
 cond (decide (a3.length + (rowsOf a1).length ≤ most)) (
 some [.s (bytesOf (a3 ++ (rowsOf a1)))]) (
 none)) := (Lim_eq _ _).trans (by kernel_rfl)
theorem kqi : SigOk Tryz.prog (dqi.sig (Lqi none)) ∧ (dqi.sig (Lqi none)).ok = true := sound_lim (known_cons kq5 (by kernel_rfl) known_nil) (by kernel_rfl) (by kernel_rfl) (by kernel_rfl)
def dqw : FD := { fn := 158, nb := 0, pre := ⟨[.ag [.i .i64 0, .s 1, .s 2, .i .i64 3, .s 4, .fz 9 false 5], .sc (.i .i64 6)], []⟩, post := ⟨[.sc (.s 0)], []⟩, sh := false, cuts := [] }
noncomputable def Lqw : Option Nat → Lv → Option Lv := Lim Tryz.prog [dqi.sig (Lqi none), dqv.sig (Lqv none)] dqw Tryz.f158
theorem eqw_i (a0 : Int) (a1 : ByteArray) (a2 : ByteArray) (a3 : Int) (a4 : ByteArray) (a5 : Rw) (a6 : Int) : Lqw none [.i a0, .s a1, .s a2, .i a3, .s a4, .l a5, .i a6] =
 (Lqv none [.i a0, .s a1, .s a2, .i a3, .s a4, .l a5, .i a6]).bind fun y1 =>
 cond (!(g y1 0).bool) (
 some [.s (⟨#[]⟩ : ByteArray)]) (
 cond (decide (([[.i (IntKind.u8.wrap a0)], [.i (IntKind.u8.wrap (IntKind.i64.wrap (a3.tdiv 16777216)))], [.i (IntKind.u8.wrap ((IntKind.i64.wrap (a3.tdiv 65536)).tmod 256))], [.i (IntKind.u8.wrap ((IntKind.i64.wrap (a3.tdiv 256)).tmod 256))], [.i (IntKind.u8.wrap (a3.tmod 256))], [.i (IntKind.u8.wrap (a2.size : Int))]] : Rw).length + (rowsOf a2).length ≤ most)) (
 cond (decide ((([[.i (IntKind.u8.wrap a0)], [.i (IntKind.u8.wrap (IntKind.i64.wrap (a3.tdiv 16777216)))], [.i (IntKind.u8.wrap ((IntKind.i64.wrap (a3.tdiv 65536)).tmod 256))], [.i (IntKind.u8.wrap ((IntKind.i64.wrap (a3.tdiv 256)).tmod 256))], [.i (IntKind.u8.wrap (a3.tmod 256))], [.i (IntKind.u8.wrap (a2.size : Int))]] : Rw) ++ (rowsOf a2)).length + (rowsOf a1).length ≤ most)) (
 cond (a0 == 1) (
 (Lqi none [.s a4, .l a5, .i a6]).bind fun y2 =>
 cond (decide (((([[.i (IntKind.u8.wrap a0)], [.i (IntKind.u8.wrap (IntKind.i64.wrap (a3.tdiv 16777216)))], [.i (IntKind.u8.wrap ((IntKind.i64.wrap (a3.tdiv 65536)).tmod 256))], [.i (IntKind.u8.wrap ((IntKind.i64.wrap (a3.tdiv 256)).tmod 256))], [.i (IntKind.u8.wrap (a3.tmod 256))], [.i (IntKind.u8.wrap (a2.size : Int))]] : Rw) ++ (rowsOf a2)) ++ (rowsOf a1)).length + (rowsOf ((g y2 0).str)).length ≤ most)) (
 some [.s (bytesOf (((([[.i (IntKind.u8.wrap a0)], [.i (IntKind.u8.wrap (IntKind.i64.wrap (a3.tdiv 16777216)))], [.i (IntKind.u8.wrap ((IntKind.i64.wrap (a3.tdiv 65536)).tmod 256))], [.i (IntKind.u8.wrap ((IntKind.i64.wrap (a3.tdiv 256)).tmod 256))], [.i (IntKind.u8.wrap (a3.tmod 256))], [.i (IntKind.u8.wrap (a2.size : Int))]] : Rw) ++ (rowsOf a2)) ++ (rowsOf a1)) ++ (rowsOf ((g y2 0).str))))]) (
 none)) (
 some [.s (bytesOf ((([[.i (IntKind.u8.wrap a0)], [.i (IntKind.u8.wrap (IntKind.i64.wrap (a3.tdiv 16777216)))], [.i (IntKind.u8.wrap ((IntKind.i64.wrap (a3.tdiv 65536)).tmod 256))], [.i (IntKind.u8.wrap ((IntKind.i64.wrap (a3.tdiv 256)).tmod 256))], [.i (IntKind.u8.wrap (a3.tmod 256))], [.i (IntKind.u8.wrap (a2.size : Int))]] : Rw) ++ (rowsOf a2)) ++ (rowsOf a1)))])) (
 none)) (
 none)) := (Lim_eq _ _).trans (by kernel_rfl)
theorem kqw : SigOk Tryz.prog (dqw.sig (Lqw none)) ∧ (dqw.sig (Lqw none)).ok = true := sound_lim (known_cons kqi (by kernel_rfl) (known_cons kqv (by kernel_rfl) known_nil)) (by kernel_rfl) (by kernel_rfl) (by kernel_rfl)
def dqb9 : FD := { fn := 176, nb := 0, pre := ⟨[.sc (.s 0), .sc (.i .i64 1)], []⟩, post := ⟨[.tu [(true, [.s 0, .ow 0]), (false, [.b 1])]], [.rw 9 true 2]⟩, sh := false, cuts := [⟨6, [0, 1, 4, 6, 7, 8], ⟨[.sc (.s 0), .sc (.i .i64 1), .sc (.pt 0 0), .sc (.i .i64 2), .sc (.pt 1 0), .sc (.i .i64 3)], [.bx [.s 4, .ow 2], .bx [.s 5, .ow 3], .rw 9 true 6, .rw 9 true 7]⟩⟩] }
noncomputable def Lqb9 : Option Nat → Lv → Option Lv := Lim Tryz.prog [dqh.sig (Lqh none), dq5.sig (Lq5 none)] dqb9 Tryz.f176
theorem eqb9_i (a0 : ByteArray) (a1 : Int) : Lqb9 none [.s a0, .i a1] =
 (Lqh none [.i a1]).bind fun y1 =>
 cond (!(g y1 0).bool) (
 some [.s (⟨#[]⟩ : ByteArray), .b false, .l []]) (
 cond ((a0.size : Int) == 0) (
 some [.s (⟨#[]⟩ : ByteArray), .b false, .l []]) (
 cond (inb 0 a0.size) (
 cond (decide ((a0.size : Int) < (IntKind.i64.wrap (1 + (IntKind.i64.wrap ((IntKind.i64.wrap (byteAt a0 0)) * a1)))))) (
 some [.s (⟨#[]⟩ : ByteArray), .b false, .l []]) (
 cond (inb 0 a0.size) (
 cond (decide (0 ≤ (IntKind.i64.wrap (1 + (IntKind.i64.wrap ((IntKind.i64.wrap (byteAt a0 0)) * a1)))))) (
 cond (decide ((IntKind.i64.wrap (1 + (IntKind.i64.wrap ((IntKind.i64.wrap (byteAt a0 0)) * a1)))) ≤ (a0.size : Int))) (
 Lqb9 (some 6) [.s a0, .i a1, .i (IntKind.i64.wrap (byteAt a0 0)), .i 0, .s (⟨#[]⟩ : ByteArray), .s (a0.extract ((IntKind.i64.wrap (1 + (IntKind.i64.wrap ((IntKind.i64.wrap (byteAt a0 0)) * a1)))).toNat) a0.size), .l [], .l []]) (
 none)) (
 none)) (
 none))) (
 none))) := (Lim_eq _ _).trans (by kernel_rfl)
theorem eqb9_6 (a0 : ByteArray) (a1 : Int) (a2 : Int) (a3 : Int) (a4 : ByteArray) (a5 : ByteArray) (a6 : Rw) (a7 : Rw) : Lqb9 (some 6) [.s a0, .i a1, .i a2, .i a3, .s a4, .s a5, .l a6, .l a7] =
 cond (decide (a3 < a2)) (
 cond (decide (0 ≤ (IntKind.i64.wrap ((IntKind.i64.wrap (1 + (IntKind.i64.wrap (a3 * a1)))) + a1)))) (
 cond (decide ((IntKind.i64.wrap ((IntKind.i64.wrap (1 + (IntKind.i64.wrap (a3 * a1)))) + a1)) ≤ (a0.size : Int))) (
 cond (decide (0 ≤ (IntKind.i64.wrap (1 + (IntKind.i64.wrap (a3 * a1)))))) (
 cond (decide ((IntKind.i64.wrap (1 + (IntKind.i64.wrap (a3 * a1)))) ≤ ((IntKind.i64.wrap ((IntKind.i64.wrap (1 + (IntKind.i64.wrap (a3 * a1)))) + a1)).toNat : Int))) (
 cond (decide (a7.length + ([[.s (a0.extract ((IntKind.i64.wrap (1 + (IntKind.i64.wrap (a3 * a1)))).toNat) ((IntKind.i64.wrap ((IntKind.i64.wrap (1 + (IntKind.i64.wrap (a3 * a1)))) + a1)).toNat))]] : Rw).length ≤ most)) (
 Lqb9 (some 6) [.s a0, .i a1, .i a2, .i (IntKind.i64.wrap (a3 + 1)), .s a4, .s a5, .l a6, .l (a7 ++ ([[.s (a0.extract ((IntKind.i64.wrap (1 + (IntKind.i64.wrap (a3 * a1)))).toNat) ((IntKind.i64.wrap ((IntKind.i64.wrap (1 + (IntKind.i64.wrap (a3 * a1)))) + a1)).toNat))]] : Rw))]) (
 none)) (
 none)) (
 none)) (
 none)) (
 none)) (
 (Lq5 none [.s a5, .l a7, .i a1]).bind fun y1 =>
 cond (!(g y1 0).bool) (
 some [.s (⟨#[]⟩ : ByteArray), .b false, .l []]) (
 some [.s a5, .b true, .l a7])) := (Lim_eq _ _).trans (by kernel_rfl)
theorem kqb9 : SigOk Tryz.prog (dqb9.sig (Lqb9 none)) ∧ (dqb9.sig (Lqb9 none)).ok = true := sound_lim (known_cons kqh (by kernel_rfl) (known_cons kq5 (by kernel_rfl) known_nil)) (by kernel_rfl) (by kernel_rfl) (by kernel_rfl)
end KV
end
section
set_option maxRecDepth 100000
namespace KV
open Go Go.Eng Go.Proofs
def dqce : FD := { fn := 113, nb := 0, pre := ⟨[.sc (.s 0), .sc (.i .i64 1)], []⟩, post := ⟨[.tu [(true, [.i .i64 0, .s 1, .s 2, .i .i64 3, .s 4, .ow 0]), (false, [.b 5])]], [.rw 9 true 6]⟩, sh := false, cuts := [⟨9, [0, 1, 4, 6], ⟨[.sc (.s 0), .sc (.i .i64 1), .sc (.pt 0 0), .sc (.pt 1 0)], [.bx [.i .i64 2, .s 3, .s 4, .i .i64 5, .s 6, .ow 3], .bx [.i .i64 7, .s 8, .s 9, .i .i64 10, .s 11, .ow 2], .rw 9 true 12, .rw 9 true 13]⟩⟩] }
noncomputable def Lqce : Option Nat → Lv → Option Lv := Lim Tryz.prog [dqh.sig (Lqh none), dqv.sig (Lqv none), dqw.sig (Lqw none), dqb9.sig (Lqb9 none)] dqce Tryz.f113
theorem eqce_i (a0 : ByteArray) (a1 : Int) : Lqce none [.s a0, .i a1] =
 (Lqh none [.i a1]).bind fun y1 =>
 cond (!(g y1 0).bool) (
 some [.i 0, .s (⟨#[]⟩ : ByteArray), .s (⟨#[]⟩ : ByteArray), .i 0, .s (⟨#[]⟩ : ByteArray), .b false, .l []]) (
 cond (decide ((a0.size : Int) < 6)) (
 some [.i 0, .s (⟨#[]⟩ : ByteArray), .s (⟨#[]⟩ : ByteArray), .i 0, .s (⟨#[]⟩ : ByteArray), .b false, .l []]) (
 cond (inb 5 a0.size) (
 cond (decide ((a0.size : Int) < (IntKind.i64.wrap (6 + (IntKind.i64.wrap (byteAt a0 5)))))) (
 some [.i 0, .s (⟨#[]⟩ : ByteArray), .s (⟨#[]⟩ : ByteArray), .i 0, .s (⟨#[]⟩ : ByteArray), .b false, .l []]) (
 cond (inb 0 a0.size) (
 cond (inb 1 a0.size) (
 cond (inb 2 a0.size) (
 cond (inb 3 a0.size) (
 cond (inb 4 a0.size) (
 cond (inb 5 a0.size) (
 cond (decide (0 ≤ (IntKind.i64.wrap (6 + (IntKind.i64.wrap (byteAt a0 5)))))) (
 cond (decide ((IntKind.i64.wrap (6 + (IntKind.i64.wrap (byteAt a0 5)))) ≤ (a0.size : Int))) (
 cond (decide (6 ≤ ((IntKind.i64.wrap (6 + (IntKind.i64.wrap (byteAt a0 5)))).toNat : Int))) (
 cond (inb 5 a0.size) (
 cond (decide (0 ≤ (IntKind.i64.wrap (6 + (IntKind.i64.wrap (byteAt a0 5)))))) (
 cond (decide ((IntKind.i64.wrap (6 + (IntKind.i64.wrap (byteAt a0 5)))) ≤ (a0.size : Int))) (
 cond ((IntKind.i64.wrap (byteAt a0 0)) == 1) (
 (Lqb9 none [.s (a0.extract ((IntKind.i64.wrap (6 + (IntKind.i64.wrap (byteAt a0 5)))).toNat) a0.size), .i a1]).bind fun y2 =>
 Lqce (some 9) [.s a0, .i a1, .i 0, .s (⟨#[]⟩ : ByteArray), .s (⟨#[]⟩ : ByteArray), .i 0, .s (⟨#[]⟩ : ByteArray), .i (IntKind.i64.wrap (byteAt a0 0)), .s (⟨#[]⟩ : ByteArray), .s (a0.extract 6 ((IntKind.i64.wrap (6 + (IntKind.i64.wrap (byteAt a0 5)))).toNat)), .i (IntKind.i64.wrap ((IntKind.i64.wrap ((IntKind.i64.wrap ((IntKind.i64.wrap ((IntKind.i64.wrap (byteAt a0 1)) * 16777216)) + (IntKind.i64.wrap ((IntKind.i64.wrap (byteAt a0 2)) * 65536)))) + (IntKind.i64.wrap ((IntKind.i64.wrap (byteAt a0 3)) * 256)))) + (IntKind.i64.wrap (byteAt a0 4)))), .s ((g y2 0).str), .l ((g y2 2).list), .l []]) (
 Lqce (some 9) [.s a0, .i a1, .i 0, .s (⟨#[]⟩ : ByteArray), .s (⟨#[]⟩ : ByteArray), .i 0, .s (⟨#[]⟩ : ByteArray), .i (IntKind.i64.wrap (byteAt a0 0)), .s (a0.extract ((IntKind.i64.wrap (6 + (IntKind.i64.wrap (byteAt a0 5)))).toNat) a0.size), .s (a0.extract 6 ((IntKind.i64.wrap (6 + (IntKind.i64.wrap (byteAt a0 5)))).toNat)), .i (IntKind.i64.wrap ((IntKind.i64.wrap ((IntKind.i64.wrap ((IntKind.i64.wrap ((IntKind.i64.wrap (byteAt a0 1)) * 16777216)) + (IntKind.i64.wrap ((IntKind.i64.wrap (byteAt a0 2)) * 65536)))) + (IntKind.i64.wrap ((IntKind.i64.wrap (byteAt a0 3)) * 256)))) + (IntKind.i64.wrap (byteAt a0 4)))), .s (⟨#[]⟩ : ByteArray), .l [], .l []])) (
 none)) (
 none)) (
 none)) (
 none)) (
 none)) (
 none)) (
 none)) (
 none)) (
 none)) (
 none)) (
 none)) (
 none))) (
 none))) := (Lim_eq _ _).trans (by kernel_rfl)
theorem eqce_9 (a0 : ByteArray) (a1 : Int) (a2 : Int) (a3 : ByteArray) (a4 : ByteArray) (a5 : Int) (a6 : ByteArray) (a7 : Int) (a8 : ByteArray) (a9 : ByteArray) (a10 : Int) (a11 : ByteArray) (a12 : Rw) (a13 : Rw) : Lqce (some 9) [.s a0, .i a1, .i a2, .s a3, .s a4, .i a5, .s a6, .i a7, .s a8, .s a9, .i a10, .s a11, .l a12, .l a13] =
 (Lqv none [.i a7, .s a8, .s a9, .i a10, .s a11, .l a12, .i a1]).bind fun y1 =>
 cond (!(g y1 0).bool) (
 some [.i 0, .s (⟨#[]⟩ : ByteArray), .s (⟨#[]⟩ : ByteArray), .i 0, .s (⟨#[]⟩ : ByteArray), .b false, .l []]) (
 (Lqw none [.i a7, .s a8, .s a9, .i a10, .s a11, .l a12, .i a1]).bind fun y2 =>
 cond (!Eng.seq ((g y2 0).str) a0) (
 some [.i 0, .s (⟨#[]⟩ : ByteArray), .s (⟨#[]⟩ : ByteArray), .i 0, .s (⟨#[]⟩ : ByteArray), .b false, .l []]) (
 some [.i a7, .s a8, .s a9, .i a10, .s a11, .b true, .l a12])) := (Lim_eq _ _).trans (by kernel_rfl)
theorem kqce : SigOk Tryz.prog (dqce.sig (Lqce none)) ∧ (dqce.sig (Lqce none)).ok = true := sound_lim (known_cons kqh (by kernel_rfl) (known_cons kqv (by kernel_rfl) (known_cons kqw (by kernel_rfl) (known_cons kqb9 (by kernel_rfl) known_nil)))) (by kernel_rfl) (by kernel_rfl) (by kernel_rfl)
def dqbu : FD := { fn := 148, nb := 0, pre := ⟨[.ag [.s 0, .fz 9 false 1]], []⟩, post := ⟨[.ag [.s 0, .ow 0]], [.rw 9 true 1]⟩, sh := false, cuts := [] }
noncomputable def Lqbu : Option Nat → Lv → Option Lv := Lim Tryz.prog [] dqbu Tryz.f148
theorem eqbu_i (a0 : ByteArray) (a1 : Rw) : Lqbu none [.s a0, .l a1] =
 cond (decide (([] : Rw).length + a1.length ≤ most)) (
 some [.s a0, .l (([] : Rw) ++ a1)]) (
 none) := (Lim_eq _ _).trans (by kernel_rfl)
theorem kqbu : SigOk Tryz.prog (dqbu.sig (Lqbu none)) ∧ (dqbu.sig (Lqbu none)).ok = true := sound_lim known_nil (by kernel_rfl) (by kernel_rfl) (by kernel_rfl)
def dqo : FD := { fn := 115, nb := 0, pre := ⟨[.ag [.i .i64 0, .i .i64 1, .i .i64 2, .i .i64 3, .fz 90 false 4, .fz 156 false 5, .fz 158 false 6]], []⟩, post := ⟨[.ag [.i .i64 0, .i .i64 1, .i .i64 2, .i .i64 3, .ow 0, .ow 1, .ow 2]], [.rw 90 true 4, .rw 156 true 5, .rw 158 true 6]⟩, sh := false, cuts := [⟨4, [1, 2, 3, 4], ⟨[.sc (.pt 0 0), .sc (.pt 1 0), .sc (.pt 2 0), .sc (.i .i64 0)], [.bx [.i .i64 1, .i .i64 2, .i .i64 3, .i .i64 4, .fz 90 false 5, .fz 156 false 6, .fz 158 false 7], .bx [.i .i64 8, .i .i64 9, .i .i64 10, .i .i64 11, .ow 3, .ow 4, .ow 5], .bx [.i .i64 12, .i .i64 13, .i .i64 14, .i .i64 15, .ow 6, .fz 156 false 16, .fz 158 false 17], .rw 90 true 18, .rw 156 true 19, .rw 158 true 20, .rw 90 true 21]⟩⟩] }
noncomputable def Lqo : Option Nat → Lv → Option Lv := Lim Tryz.prog [dqbu.sig (Lqbu none)] dqo Tryz.f115
theorem eqo_i (a0 : Int) (a1 : Int) (a2 : Int) (a3 : Int) (a4 : Rw) (a5 : Rw) (a6 : Rw) : Lqo none [.i a0, .i a1, .i a2, .i a3, .l a4, .l a5, .l a6] =
 Lqo (some 4) [.i 0, .i a0, .i a1, .i a2, .i a3, .l a4, .l a5, .l a6, .i 0, .i 0, .i 0, .i 0, .i a0, .i a1, .i a2, .i a3, .l a5, .l a6, .l [], .l [], .l [], .l ([] : Rw)] := (Lim_eq _ _).trans (by kernel_rfl)
theorem eqo_4 (a0 : Int) (a1 : Int) (a2 : Int) (a3 : Int) (a4 : Int) (a5 : Rw) (a6 : Rw) (a7 : Rw) (a8 : Int) (a9 : Int) (a10 : Int) (a11 : Int) (a12 : Int) (a13 : Int) (a14 : Int) (a15 : Int) (a16 : Rw) (a17 : Rw) (a18 : Rw) (a19 : Rw) (a20 : Rw) (a21 : Rw) : Lqo (some 4) [.i a0, .i a1, .i a2, .i a3, .i a4, .l a5, .l a6, .l a7, .i a8, .i a9, .i a10, .i a11, .i a12, .i a13, .i a14, .i a15, .l a16, .l a17, .l a18, .l a19, .l a20, .l a21] =
 cond (decide (a0 < (a5.length : Int))) (
 cond (inb a0 a5.length) (
 (Lqbu none [.s ((rd a5 a0.toNat 2).str), .l ((rd a5 a0.toNat 3).list)]).bind fun y1 =>
 cond (decide (a21.length + ([[.s ((rd a5 a0.toNat 0).str), .i ((rd a5 a0.toNat 1).int), .s ((g y1 0).str), .l ((g y1 1).list)]] : Rw).length ≤ most)) (
 Lqo (some 4) [.i (IntKind.i64.wrap (a0 + 1)), .i a1, .i a2, .i a3, .i a4, .l a5, .l a6, .l a7, .i a8, .i a9, .i a10, .i a11, .i a12, .i a13, .i a14, .i a15, .l a16, .l a17, .l a18, .l a19, .l a20, .l (a21 ++ ([[.s ((rd a5 a0.toNat 0).str), .i ((rd a5 a0.toNat 1).int), .s ((g y1 0).str), .l ((g y1 1).list)]] : Rw))]) (
 none)) (
 none)) (
 cond (decide (([] : Rw).length + a6.length ≤ most)) (
 cond (decide (([] : Rw).length + a7.length ≤ most)) (
 some [.i a12, .i a13, .i a14, .i a15, .l a21, .l (([] : Rw) ++ a6), .l (([] : Rw) ++ a7)]) (
 none)) (
 none)) := (Lim_eq _ _).trans (by kernel_rfl)
theorem kqo : SigOk Tryz.prog (dqo.sig (Lqo none)) ∧ (dqo.sig (Lqo none)).ok = true := sound_lim (known_cons kqbu (by kernel_rfl) known_nil) (by kernel_rfl) (by kernel_rfl) (by kernel_rfl)
def dqg : FD := { fn := 128, nb := 0, pre := ⟨[.ag [.i .i64 0, .i .i64 1, .i .i64 2, .i .i64 3, .fz 90 false 4, .fz 156 false 5, .fz 158 false 6], .sc (.s 7)], []⟩, post := ⟨[.sc (.i .i64 0)], []⟩, sh := false, cuts := [⟨2, [1, 2, 5], ⟨[.sc (.s 0), .sc (.pt 0 0), .sc (.i .i64 1)], [.bx [.i .i64 2, .i .i64 3, .i .i64 4, .i .i64 5, .fz 90 false 6, .fz 156 false 7, .fz 158 false 8]]⟩⟩] }
noncomputable def Lqg : Option Nat → Lv → Option Lv := Lim Tryz.prog [] dqg Tryz.f128
theorem eqg_i (a0 : Int) (a1 : Int) (a2 : Int) (a3 : Int) (a4 : Rw) (a5 : Rw) (a6 : Rw) (a7 : ByteArray) : Lqg none [.i a0, .i a1, .i a2, .i a3, .l a4, .l a5, .l a6, .s a7] =
 Lqg (some 2) [.s a7, .i 0, .i a0, .i a1, .i a2, .i a3, .l a4, .l a5, .l a6] := (Lim_eq _ _).trans (by kernel_rfl)
theorem eqg_2 (a0 : ByteArray) (a1 : Int) (a2 : Int) (a3 : Int) (a4 : Int) (a5 : Int) (a6 : Rw) (a7 : Rw) (a8 : Rw) : Lqg (some 2) [.s a0, .i a1, .i a2, .i a3, .i a4, .i a5, .l a6, .l a7, .l a8] =
 cond (decide (a1 < (a6.length : Int))) (
 cond (inb a1 a6.length) (
 cond (Eng.seq ((rd a6 a1.toNat 0).str) a0) (
 some [.i a1]) (
 Lqg (some 2) [.s a0, .i (IntKind.i64.wrap (a1 + 1)), .i a2, .i a3, .i a4, .i a5, .l a6, .l a7, .l a8])) (
 none)) (
 some [.i (-1)]) := (Lim_eq _ _).trans (by kernel_rfl)
theorem kqg : SigOk Tryz.prog (dqg.sig (Lqg none)) ∧ (dqg.sig (Lqg none)).ok = true := sound_lim known_nil (by kernel_rfl) (by kernel_rfl) (by kernel_rfl)
def dqcq : FD := { fn := 180, nb := 0, pre := ⟨[.ag [.i .i64 0, .i .i64 1, .i .i64 2, .i .i64 3, .fz 90 false 4, .fz 156 false 5, .ow 0], .sc (.s 6), .sc (.i .i64 7)], [.rw 158 false 8]⟩, post := ⟨[.ag [.i .i64 0, .i .i64 1, .i .i64 2, .i .i64 3, .i .i64 4, .fz 90 false 5, .fz 156 false 6, .ow 0, .s 7, .i .i64 8, .s 9, .s 10]], [.rw 158 false 11]⟩, sh := true, cuts := [] }
noncomputable def Lqcq : Option Nat → Lv → Option Lv := Lim Tryz.prog [] dqcq Tryz.f180
theorem eqcq_i (a0 : Int) (a1 : Int) (a2 : Int) (a3 : Int) (a4 : Rw) (a5 : Rw) (a6 : ByteArray) (a7 : Int) (a8 : Rw) : Lqcq none [.i a0, .i a1, .i a2, .i a3, .l a4, .l a5, .s a6, .i a7, .l a8] =
 cond (decide (200 ≤ (a8.length : Int))) (
 some [.i 4, .i 0, .i 0, .i 0, .i 0, .l ([]), .l ([]), .s (⟨#[]⟩ : ByteArray), .i 0, .s (⟨#[]⟩ : ByteArray), .s (⟨#[]⟩ : ByteArray), .l []]) (
 cond (decide (1000000000 ≤ a2)) (
 some [.i 4, .i 0, .i 0, .i 0, .i 0, .l ([]), .l ([]), .s (⟨#[]⟩ : ByteArray), .i 0, .s (⟨#[]⟩ : ByteArray), .s (⟨#[]⟩ : ByteArray), .l []]) (
 cond (decide (a8.length + ([[.i (IntKind.i64.wrap (a2 + 1)), .s a6, .i (IntKind.i64.wrap (a1 + a7))]] : Rw).length ≤ most)) (
 some [.i 0, .i a0, .i a1, .i (IntKind.i64.wrap (a2 + 1)), .i a3, .l a4, .l a5, .s (⟨#[]⟩ : ByteArray), .i (IntKind.i64.wrap (a2 + 1)), .s (⟨#[]⟩ : ByteArray), .s (⟨#[]⟩ : ByteArray), .l (a8 ++ ([[.i (IntKind.i64.wrap (a2 + 1)), .s a6, .i (IntKind.i64.wrap (a1 + a7))]] : Rw))]) (
 none))) := (Lim_eq _ _).trans (by kernel_rfl)
theorem kqcq : SigOk Tryz.prog (dqcq.sig (Lqcq none)) ∧ (dqcq.sig (Lqcq none)).ok = true := sound_lim known_nil (by kernel_rfl) (by kernel_rfl) (by kernel_rfl)
def dqe : FD := { fn := 21, nb := 0, pre := ⟨[.sc (.s 0), .sc (.i .i64 1)], []⟩, post := ⟨[.sc (.s 0)], []⟩, sh := false, cuts := [⟨5, [0, 1, 5, 6], ⟨[.sc (.s 0), .sc (.i .i64 1), .sc (.i .u64 2), .sc (.i .i64 3)], []⟩⟩, ⟨10, [1, 5, 7, 8], ⟨[.sc (.i .i64 0), .sc (.i .u64 1), .sc (.ow 0), .sc (.i .i64 2)], [.rw 5 true 3]⟩⟩] }
noncomputable def Lqe : Option Nat → Lv → Option Lv := Lim Tryz.prog [dqh.sig (Lqh none)] dqe Tryz.f21
theorem eqe_i (a0 : ByteArray) (a1 : Int) : Lqe none [.s a0, .i a1] =
 (Lqh none [.i a1]).bind fun y1 =>
 cond (!(g y1 0).bool) (
 some [.s (⟨#[]⟩ : ByteArray)]) (
 Lqe (some 5) [.s a0, .i a1, .i 14695981039346656037, .i 0]) := (Lim_eq _ _).trans (by kernel_rfl)
theorem eqe_5 (a0 : ByteArray) (a1 : Int) (a2 : Int) (a3 : Int) : Lqe (some 5) [.s a0, .i a1, .i a2, .i a3] =
 cond (decide (a3 < (a0.size : Int))) (
 cond (inb a3 a0.size) (
 Lqe (some 5) [.s a0, .i a1, .i (IntKind.u64.wrap ((IntKind.u64.wrap (BitVec.ofInt (IntKind.u64).bits a2 ^^^ BitVec.ofInt (IntKind.u64).bits (IntKind.u64.wrap (byteAt a0 a3.toNat))).toNat) * 1099511628211)), .i (IntKind.i64.wrap (a3 + 1))]) (
 none)) (
 Lqe (some 10) [.i a1, .i a2, .i 0, .l ([] : Rw)]) := (Lim_eq _ _).trans (by kernel_rfl)
theorem eqe_10 (a0 : Int) (a1 : Int) (a2 : Int) (a3 : Rw) : Lqe (some 10) [.i a0, .i a1, .i a2, .l a3] =
 cond (decide (a2 < a0)) (
 cond (decide (([[.i (IntKind.u8.wrap (a1.tmod 256))]] : Rw).length + a3.length ≤ most)) (
 Lqe (some 10) [.i a0, .i (IntKind.u64.wrap (a1.tdiv 256)), .i (IntKind.i64.wrap (a2 + 1)), .l (([[.i (IntKind.u8.wrap (a1.tmod 256))]] : Rw) ++ a3)]) (
 none)) (
 some [.s (bytesOf a3)]) := (Lim_eq _ _).trans (by kernel_rfl)
theorem kqe : SigOk Tryz.prog (dqe.sig (Lqe none)) ∧ (dqe.sig (Lqe none)).ok = true := sound_lim (known_cons kqh (by kernel_rfl) known_nil) (by kernel_rfl) (by kernel_rfl) (by kernel_rfl)
def dqu : FD := { fn := 177, nb := 0, pre := ⟨[.ag [.i .i64 0, .i .i64 1, .i .i64 2, .i .i64 3, .fz 90 false 4, .fz 156 false 5, .ow 0], .ag [.i .i64 6, .s 7, .s 8, .i .i64 9, .s 10, .fz 9 false 11]], [.rw 158 false 12]⟩, post := ⟨[.ag [.i .i64 0, .i .i64 1, .i .i64 2, .i .i64 3, .i .i64 4, .fz 90 false 5, .fz 156 false 6, .ow 0, .s 7, .i .i64 8, .s 9, .s 10]], [.rw 158 false 11]⟩, sh := true, cuts := [⟨4, [2, 3, 4, 5, 6, 7], ⟨[.sc (.pt 0 0), .sc (.pt 1 0), .sc (.pt 2 0), .sc (.s 0), .sc (.s 1), .sc (.i .i64 2)], [.bx [.i .i64 3, .i .i64 4, .i .i64 5, .i .i64 6, .fz 90 false 7, .fz 156 false 8, .ow 3], .bx [.i .i64 9, .s 10, .s 11, .i .i64 12, .s 13, .fz 9 false 14], .bx [.i .i64 15, .i .i64 16, .i .i64 17, .i .i64 18, .i .i64 19, .ow 4, .ow 5, .ow 6, .s 20, .i .i64 21, .s 22, .s 23], .rw 158 false 24, .rw 90 true 25, .rw 156 true 26, .rw 158 true 27]⟩⟩, ⟨20, [2, 3, 4, 6, 10, 11, 12, 13], ⟨[.sc (.pt 0 0), .sc (.pt 1 0), .sc (.pt 2 0), .sc (.s 0), .sc (.ow 3), .sc (.b 1), .sc (.pt 4 0), .sc (.i .i64 2)], [.bx [.i .i64 3, .i .i64 4, .i .i64 5, .i .i64 6, .fz 90 false 7, .fz 156 false 8, .ow 5], .bx [.i .i64 9, .s 10, .s 11, .i .i64 12, .s 13, .fz 9 false 14], .bx [.i .i64 15, .i .i64 16, .i .i64 17, .i .i64 18, .i .i64 19, .ow 6, .ow 7, .ow 8, .s 20, .i .i64 21, .s 22, .s 23], .rw 90 false 24, .bx [.s 25, .i .i64 26, .s 27, .fz 9 true 28], .rw 158 false 29, .rw 90 true 30, .rw 156 true 31, .rw 158 true 32]⟩⟩] }
noncomputable def Lqu : Option Nat → Lv → Option Lv := Lim Tryz.prog [dqi.sig (Lqi none), dqbu.sig (Lqbu none), dqe.sig (Lqe none), dqg.sig (Lqg none), dqcq.sig (Lqcq none)] dqu Tryz.f177
theorem equ_i (a0 : Int) (a1 : Int) (a2 : Int) (a3 : Int) (a4 : Rw) (a5 : Rw) (a6 : Int) (a7 : ByteArray) (a8 : ByteArray) (a9 : Int) (a10 : ByteArray) (a11 : Rw) (a12 : Rw) : Lqu none [.i a0, .i a1, .i a2, .i a3, .l a4, .l a5, .i a6, .s a7, .s a8, .i a9, .s a10, .l a11, .l a12] =
 (Lqi none [.s a10, .l a11, .i a0]).bind fun y1 =>
 (Lqe none [.s ((g y1 0).str), .i a0]).bind fun y2 =>
 Lqu (some 4) [.s ((g y1 0).str), .s ((g y2 0).str), .i 0, .i a0, .i a1, .i a2, .i a3, .l a4, .l a5, .i a6, .s a7, .s a8, .i a9, .s a10, .l a11, .i 0, .i 0, .i 0, .i 0, .i 0, .s (⟨#[]⟩ : ByteArray), .i 0, .s (⟨#[]⟩ : ByteArray), .s (⟨#[]⟩ : ByteArray), .l a12, .l [], .l [], .l []] := (Lim_eq _ _).trans (by kernel_rfl)
theorem equ_4 (a0 : ByteArray) (a1 : ByteArray) (a2 : Int) (a3 : Int) (a4 : Int) (a5 : Int) (a6 : Int) (a7 : Rw) (a8 : Rw) (a9 : Int) (a10 : ByteArray) (a11 : ByteArray) (a12 : Int) (a13 : ByteArray) (a14 : Rw) (a15 : Int) (a16 : Int) (a17 : Int) (a18 : Int) (a19 : Int) (a20 : ByteArray) (a21 : Int) (a22 : ByteArray) (a23 : ByteArray) (a24 : Rw) (a25 : Rw) (a26 : Rw) (a27 : Rw) : Lqu (some 4) [.s a0, .s a1, .i a2, .i a3, .i a4, .i a5, .i a6, .l a7, .l a8, .i a9, .s a10, .s a11, .i a12, .s a13, .l a14, .i a15, .i a16, .i a17, .i a18, .i a19, .s a20, .i a21, .s a22, .s a23, .l a24, .l a25, .l a26, .l a27] =
 cond (decide (a2 < (a14.length : Int))) (
 cond (inb a2 a14.length) (
 (Lqg none [.i a3, .i a4, .i a5, .i a6, .l a7, .l a8, .l a24, .s ((rd a14 a2.toNat 0).str)]).bind fun y1 =>
 cond (decide ((g y1 0).int < 0)) (
 some [.i 2, .i 0, .i 0, .i 0, .i 0, .l ([]), .l ([]), .s (⟨#[]⟩ : ByteArray), .i 0, .s (⟨#[]⟩ : ByteArray), .s (⟨#[]⟩ : ByteArray), .l []]) (
 Lqu (some 4) [.s a0, .s a1, .i (IntKind.i64.wrap (a2 + 1)), .i a3, .i a4, .i a5, .i a6, .l a7, .l a8, .i a9, .s a10, .s a11, .i a12, .s a13, .l a14, .i a15, .i a16, .i a17, .i a18, .i a19, .s a20, .i a21, .s a22, .s a23, .l a24, .l a25, .l a26, .l a27])) (
 none)) (
 (Lqg none [.i a3, .i a4, .i a5, .i a6, .l a7, .l a8, .l a24, .s a1]).bind fun y2 =>
 cond (decide (0 ≤ (g y2 0).int)) (
 cond (inb ((g y2 0).int) a7.length) (
 (Lqi none [.s ((rd a7 (((g y2 0).int).toNat) 2).str), .l ((rd a7 (((g y2 0).int).toNat) 3).list), .i a3]).bind fun y3 =>
 cond (!Eng.seq ((g y3 0).str) a0) (
 some [.i 3, .i 0, .i 0, .i 0, .i 0, .l ([]), .l ([]), .s (⟨#[]⟩ : ByteArray), .i 0, .s ((g y3 0).str), .s a0, .l []]) (
 (Lqcq none [.i a3, .i a4, .i a5, .i a6, .l a7, .l a8, .s a1, .i a12, .l a24]).bind fun y4 =>
 cond ((g y4 0).int == 0) (
 some [.i ((g y4 0).int), .i ((g y4 1).int), .i ((g y4 2).int), .i ((g y4 3).int), .i ((g y4 4).int), .l ((g y4 5).list), .l ((g y4 6).list), .s a1, .i ((g y4 8).int), .s ((g y4 9).str), .s ((g y4 10).str), .l ((g y4 11).list)]) (
 some [.i ((g y4 0).int), .i ((g y4 1).int), .i ((g y4 2).int), .i ((g y4 3).int), .i ((g y4 4).int), .l ((g y4 5).list), .l ((g y4 6).list), .s ((g y4 7).str), .i ((g y4 8).int), .s ((g y4 9).str), .s ((g y4 10).str), .l ((g y4 11).list)]))) (
 none)) (
 cond (decide (600 ≤ (a7.length : Int))) (
 some [.i 4, .i 0, .i 0, .i 0, .i 0, .l ([]), .l ([]), .s (⟨#[]⟩ : ByteArray), .i 0, .s (⟨#[]⟩ : ByteArray), .s (⟨#[]⟩ : ByteArray), .l []]) (
 cond (decide (1000000000 ≤ a6)) (
 some [.i 4, .i 0, .i 0, .i 0, .i 0, .l ([]), .l ([]), .s (⟨#[]⟩ : ByteArray), .i 0, .s (⟨#[]⟩ : ByteArray), .s (⟨#[]⟩ : ByteArray), .l []]) (
 (Lqbu none [.s a13, .l a14]).bind fun y5 =>
 Lqu (some 20) [.s a1, .b false, .i 0, .i a3, .i a4, .i a5, .i (IntKind.i64.wrap (a6 + 1)), .l a7, .l a8, .i a9, .s a10, .s a11, .i a12, .s a13, .l a14, .i a15, .i a16, .i a17, .i a18, .i a19, .s a20, .i a21, .s a22, .s a23, .l ([] : Rw), .s a1, .i (IntKind.i64.wrap (a6 + 1)), .s ((g y5 0).str), .l ((g y5 1).list), .l a24, .l a25, .l a26, .l a27])))) := (Lim_eq _ _).trans (by kernel_rfl)
theorem equ_20 (a0 : ByteArray) (a1 : Bool) (a2 : Int) (a3 : Int) (a4 : Int) (a5 : Int) (a6 : Int) (a7 : Rw) (a8 : Rw) (a9 : Int) (a10 : ByteArray) (a11 : ByteArray) (a12 : Int) (a13 : ByteArray) (a14 : Rw) (a15 : Int) (a16 : Int) (a17 : Int) (a18 : Int) (a19 : Int) (a20 : ByteArray) (a21 : Int) (a22 : ByteArray) (a23 : ByteArray) (a24 : Rw) (a25 : ByteArray) (a26 : Int) (a27 : ByteArray) (a28 : Rw) (a29 : Rw) (a30 : Rw) (a31 : Rw) (a32 : Rw) : Lqu (some 20) [.s a0, .b a1, .i a2, .i a3, .i a4, .i a5, .i a6, .l a7, .l a8, .i a9, .s a10, .s a11, .i a12, .s a13, .l a14, .i a15, .i a16, .i a17, .i a18, .i a19, .s a20, .i a21, .s a22, .s a23, .l a24, .s a25, .i a26, .s a27, .l a28, .l a29, .l a30, .l a31, .l a32] =
 cond (decide (a2 < (a7.length : Int))) (
 cond (!a1) (
 cond (inb a2 a7.length) (
 cond (!(slt ((rd a7 a2.toNat 0).str) a0 || Eng.seq ((rd a7 a2.toNat 0).str) a0)) (
 cond (decide (a24.length + ([[.s a25, .i a26, .s a27, .l a28]] : Rw).length ≤ most)) (
 cond (inb a2 a7.length) (
 cond (decide ((a24 ++ ([[.s a25, .i a26, .s a27, .l a28]] : Rw)).length + ([[.s ((rd a7 a2.toNat 0).str), .i ((rd a7 a2.toNat 1).int), .s ((rd a7 a2.toNat 2).str), .l ((rd a7 a2.toNat 3).list)]] : Rw).length ≤ most)) (
 Lqu (some 20) [.s a0, .b true, .i (IntKind.i64.wrap (a2 + 1)), .i a3, .i a4, .i a5, .i a6, .l a7, .l a8, .i a9, .s a10, .s a11, .i a12, .s a13, .l a14, .i a15, .i a16, .i a17, .i a18, .i a19, .s a20, .i a21, .s a22, .s a23, .l ((a24 ++ ([[.s a25, .i a26, .s a27, .l a28]] : Rw)) ++ ([[.s ((rd a7 a2.toNat 0).str), .i ((rd a7 a2.toNat 1).int), .s ((rd a7 a2.toNat 2).str), .l ((rd a7 a2.toNat 3).list)]] : Rw)), .s a25, .i a26, .s a27, .l a28, .l a29, .l a30, .l a31, .l a32]) (
 none)) (
 none)) (
 none)) (
 cond (inb a2 a7.length) (
 cond (decide (a24.length + ([[.s ((rd a7 a2.toNat 0).str), .i ((rd a7 a2.toNat 1).int), .s ((rd a7 a2.toNat 2).str), .l ((rd a7 a2.toNat 3).list)]] : Rw).length ≤ most)) (
 Lqu (some 20) [.s a0, .b a1, .i (IntKind.i64.wrap (a2 + 1)), .i a3, .i a4, .i a5, .i a6, .l a7, .l a8, .i a9, .s a10, .s a11, .i a12, .s a13, .l a14, .i a15, .i a16, .i a17, .i a18, .i a19, .s a20, .i a21, .s a22, .s a23, .l (a24 ++ ([[.s ((rd a7 a2.toNat 0).str), .i ((rd a7 a2.toNat 1).int), .s ((rd a7 a2.toNat 2).str), .l ((rd a7 a2.toNat 3).list)]] : Rw)), .s a25, .i a26, .s a27, .l a28, .l a29, .l a30, .l a31, .l a32]) (
 none)) (
 none))) (
 none)) (
 cond (inb a2 a7.length) (
 cond (decide (a24.length + ([[.s ((rd a7 a2.toNat 0).str), .i ((rd a7 a2.toNat 1).int), .s ((rd a7 a2.toNat 2).str), .l ((rd a7 a2.toNat 3).list)]] : Rw).length ≤ most)) (
 Lqu (some 20) [.s a0, .b a1, .i (IntKind.i64.wrap (a2 + 1)), .i a3, .i a4, .i a5, .i a6, .l a7, .l a8, .i a9, .s a10, .s a11, .i a12, .s a13, .l a14, .i a15, .i a16, .i a17, .i a18, .i a19, .s a20, .i a21, .s a22, .s a23, .l (a24 ++ ([[.s ((rd a7 a2.toNat 0).str), .i ((rd a7 a2.toNat 1).int), .s ((rd a7 a2.toNat 2).str), .l ((rd a7 a2.toNat 3).list)]] : Rw)), .s a25, .i a26, .s a27, .l a28, .l a29, .l a30, .l a31, .l a32]) (
 none)) (
 none))) (
 cond (!a1) (
 cond (decide (a24.length + ([[.s a25, .i a26, .s a27, .l a28]] : Rw).length ≤ most)) (
 (Lqcq none [.i a3, .i a4, .i a5, .i a6, .l (a24 ++ ([[.s a25, .i a26, .s a27, .l a28]] : Rw)), .l a8, .s a0, .i a12, .l a29]).bind fun y1 =>
 cond ((g y1 0).int == 0) (
 some [.i ((g y1 0).int), .i ((g y1 1).int), .i ((g y1 2).int), .i ((g y1 3).int), .i ((g y1 4).int), .l ((g y1 5).list), .l ((g y1 6).list), .s a0, .i ((g y1 8).int), .s ((g y1 9).str), .s ((g y1 10).str), .l ((g y1 11).list)]) (
 some [.i ((g y1 0).int), .i ((g y1 1).int), .i ((g y1 2).int), .i ((g y1 3).int), .i ((g y1 4).int), .l ((g y1 5).list), .l ((g y1 6).list), .s ((g y1 7).str), .i ((g y1 8).int), .s ((g y1 9).str), .s ((g y1 10).str), .l ((g y1 11).list)])) (
 none)) (
 (Lqcq none [.i a3, .i a4, .i a5, .i a6, .l a24, .l a8, .s a0, .i a12, .l a29]).bind fun y2 =>
 cond ((g y2 0).int == 0) (
 some [.i ((g y2 0).int), .i ((g y2 1).int), .i ((g y2 2).int), .i ((g y2 3).int), .i ((g y2 4).int), .l ((g y2 5).list), .l ((g y2 6).list), .s a0, .i ((g y2 8).int), .s ((g y2 9).str), .s ((g y2 10).str), .l ((g y2 11).list)]) (
 some [.i ((g y2 0).int), .i ((g y2 1).int), .i ((g y2 2).int), .i ((g y2 3).int), .i ((g y2 4).int), .l ((g y2 5).list), .l ((g y2 6).list), .s ((g y2 7).str), .i ((g y2 8).int), .s ((g y2 9).str), .s ((g y2 10).str), .l ((g y2 11).list)]))) := (Lim_eq _ _).trans (by kernel_rfl)
theorem kqu : SigOk Tryz.prog (dqu.sig (Lqu none)) ∧ (dqu.sig (Lqu none)).ok = true := sound_lim (known_cons kqi (by kernel_rfl) (known_cons kqbu (by kernel_rfl) (known_cons kqe (by kernel_rfl) (known_cons kqg (by kernel_rfl) (known_cons kqcq (by kernel_rfl) known_nil))))) (by kernel_rfl) (by kernel_rfl) (by kernel_rfl)
def dq1 : FD := { fn := 178, nb := 0, pre := ⟨[.ag [.i .i64 0, .i .i64 1, .i .i64 2, .i .i64 3, .fz 90 false 4, .fz 156 false 5, .ow 0], .ag [.i .i64 6, .s 7, .s 8, .i .i64 9, .s 10, .fz 9 false 11]], [.rw 158 false 12]⟩, post := ⟨[.ag [.i .i64 0, .i .i64 1, .i .i64 2, .i .i64 3, .i .i64 4, .fz 90 false 5, .ow 0, .ow 1, .s 6, .i .i64 7, .s 8, .s 9]], [.rw 156 true 10, .rw 158 false 11]⟩, sh := true, cuts := [⟨6, [2, 3, 4, 5, 6, 7], ⟨[.sc (.pt 0 0), .sc (.pt 1 0), .sc (.pt 2 0), .sc (.ow 3), .sc (.b 0), .sc (.i .i64 1)], [.bx [.i .i64 2, .i .i64 3, .i .i64 4, .i .i64 5, .fz 90 false 6, .fz 156 false 7, .ow 4], .bx [.i .i64 8, .s 9, .s 10, .i .i64 11, .s 12, .fz 9 false 13], .bx [.i .i64 14, .i .i64 15, .i .i64 16, .i .i64 17, .i .i64 18, .ow 5, .ow 6, .ow 7, .s 19, .i .i64 20, .s 21, .s 22], .rw 156 true 23, .rw 158 false 24, .rw 90 true 25, .rw 156 true 26, .rw 158 true 27]⟩⟩, ⟨11, [2, 3, 4, 5, 6, 7], ⟨[.sc (.pt 0 0), .sc (.pt 1 0), .sc (.pt 2 0), .sc (.ow 3), .sc (.b 0), .sc (.i .i64 1)], [.bx [.i .i64 2, .i .i64 3, .i .i64 4, .i .i64 5, .fz 90 false 6, .fz 156 false 7, .ow 4], .bx [.i .i64 8, .s 9, .s 10, .i .i64 11, .s 12, .fz 9 false 13], .bx [.i .i64 14, .i .i64 15, .i .i64 16, .i .i64 17, .i .i64 18, .ow 5, .ow 6, .ow 7, .s 19, .i .i64 20, .s 21, .s 22], .rw 156 true 23, .rw 158 false 24, .rw 90 true 25, .rw 156 true 26, .rw 158 true 27]⟩⟩] }
noncomputable def Lq1 : Option Nat → Lv → Option Lv := Lim Tryz.prog [dqg.sig (Lqg none)] dq1 Tryz.f178
theorem eq1_i (a0 : Int) (a1 : Int) (a2 : Int) (a3 : Int) (a4 : Rw) (a5 : Rw) (a6 : Int) (a7 : ByteArray) (a8 : ByteArray) (a9 : Int) (a10 : ByteArray) (a11 : Rw) (a12 : Rw) : Lq1 none [.i a0, .i a1, .i a2, .i a3, .l a4, .l a5, .i a6, .s a7, .s a8, .i a9, .s a10, .l a11, .l a12] =
 (Lqg none [.i a0, .i a1, .i a2, .i a3, .l a4, .l a5, .l a12, .s a7]).bind fun y1 =>
 cond (decide ((g y1 0).int < 0)) (
 some [.i 2, .i 0, .i 0, .i 0, .i 0, .l ([]), .s (⟨#[]⟩ : ByteArray), .i 0, .s (⟨#[]⟩ : ByteArray), .s (⟨#[]⟩ : ByteArray), .l [], .l []]) (
 Lq1 (some 6) [.b false, .i 0, .i a0, .i a1, .i a2, .i a3, .l a4, .l a5, .i a6, .s a7, .s a8, .i a9, .s a10, .l a11, .i 0, .i 0, .i 0, .i 0, .i 0, .s (⟨#[]⟩ : ByteArray), .i 0, .s (⟨#[]⟩ : ByteArray), .s (⟨#[]⟩ : ByteArray), .l ([] : Rw), .l a12, .l [], .l [], .l []]) := (Lim_eq _ _).trans (by kernel_rfl)
theorem eq1_6 (a0 : Bool) (a1 : Int) (a2 : Int) (a3 : Int) (a4 : Int) (a5 : Int) (a6 : Rw) (a7 : Rw) (a8 : Int) (a9 : ByteArray) (a10 : ByteArray) (a11 : Int) (a12 : ByteArray) (a13 : Rw) (a14 : Int) (a15 : Int) (a16 : Int) (a17 : Int) (a18 : Int) (a19 : ByteArray) (a20 : Int) (a21 : ByteArray) (a22 : ByteArray) (a23 : Rw) (a24 : Rw) (a25 : Rw) (a26 : Rw) (a27 : Rw) : Lq1 (some 6) [.b a0, .i a1, .i a2, .i a3, .i a4, .i a5, .l a6, .l a7, .i a8, .s a9, .s a10, .i a11, .s a12, .l a13, .i a14, .i a15, .i a16, .i a17, .i a18, .s a19, .i a20, .s a21, .s a22, .l a23, .l a24, .l a25, .l a26, .l a27] =
 cond (decide (a1 < (a7.length : Int))) (
 cond (!a0) (
 cond (inb a1 a7.length) (
 cond (!slt ((rd a7 a1.toNat 0).str) a10) (
 cond (decide (a23.length + ([[.s a10, .s a9]] : Rw).length ≤ most)) (
 Lq1 (some 11) [.b true, .i a1, .i a2, .i a3, .i a4, .i a5, .l a6, .l a7, .i a8, .s a9, .s a10, .i a11, .s a12, .l a13, .i a14, .i a15, .i a16, .i a17, .i a18, .s a19, .i a20, .s a21, .s a22, .l (a23 ++ ([[.s a10, .s a9]] : Rw)), .l a24, .l a25, .l a26, .l a27]) (
 none)) (
 Lq1 (some 11) [.b a0, .i a1, .i a2, .i a3, .i a4, .i a5, .l a6, .l a7, .i a8, .s a9, .s a10, .i a11, .s a12, .l a13, .i a14, .i a15, .i a16, .i a17, .i a18, .s a19, .i a20, .s a21, .s a22, .l a23, .l a24, .l a25, .l a26, .l a27])) (
 none)) (
 Lq1 (some 11) [.b a0, .i a1, .i a2, .i a3, .i a4, .i a5, .l a6, .l a7, .i a8, .s a9, .s a10, .i a11, .s a12, .l a13, .i a14, .i a15, .i a16, .i a17, .i a18, .s a19, .i a20, .s a21, .s a22, .l a23, .l a24, .l a25, .l a26, .l a27])) (
 cond (!a0) (
 cond (decide (a23.length + ([[.s a10, .s a9]] : Rw).length ≤ most)) (
 cond (decide (100 < ((a23 ++ ([[.s a10, .s a9]] : Rw)).length : Int))) (
 some [.i 4, .i 0, .i 0, .i 0, .i 0, .l ([]), .s (⟨#[]⟩ : ByteArray), .i 0, .s (⟨#[]⟩ : ByteArray), .s (⟨#[]⟩ : ByteArray), .l [], .l []]) (
 some [.i 0, .i a2, .i a3, .i a4, .i a5, .l a6, .s (⟨#[]⟩ : ByteArray), .i 0, .s (⟨#[]⟩ : ByteArray), .s (⟨#[]⟩ : ByteArray), .l (a23 ++ ([[.s a10, .s a9]] : Rw)), .l a24])) (
 none)) (
 cond (decide (100 < (a23.length : Int))) (
 some [.i 4, .i 0, .i 0, .i 0, .i 0, .l ([]), .s (⟨#[]⟩ : ByteArray), .i 0, .s (⟨#[]⟩ : ByteArray), .s (⟨#[]⟩ : ByteArray), .l [], .l []]) (
 some [.i 0, .i a2, .i a3, .i a4, .i a5, .l a6, .s (⟨#[]⟩ : ByteArray), .i 0, .s (⟨#[]⟩ : ByteArray), .s (⟨#[]⟩ : ByteArray), .l a23, .l a24]))) := (Lim_eq _ _).trans (by kernel_rfl)
theorem eq1_11 (a0 : Bool) (a1 : Int) (a2 : Int) (a3 : Int) (a4 : Int) (a5 : Int) (a6 : Rw) (a7 : Rw) (a8 : Int) (a9 : ByteArray) (a10 : ByteArray) (a11 : Int) (a12 : ByteArray) (a13 : Rw) (a14 : Int) (a15 : Int) (a16 : Int) (a17 : Int) (a18 : Int) (a19 : ByteArray) (a20 : Int) (a21 : ByteArray) (a22 : ByteArray) (a23 : Rw) (a24 : Rw) (a25 : Rw) (a26 : Rw) (a27 : Rw) : Lq1 (some 11) [.b a0, .i a1, .i a2, .i a3, .i a4, .i a5, .l a6, .l a7, .i a8, .s a9, .s a10, .i a11, .s a12, .l a13, .i a14, .i a15, .i a16, .i a17, .i a18, .s a19, .i a20, .s a21, .s a22, .l a23, .l a24, .l a25, .l a26, .l a27] =
 cond (inb a1 a7.length) (
 cond (!Eng.seq ((rd a7 a1.toNat 0).str) a10) (
 cond (inb a1 a7.length) (
 cond (decide (a23.length + ([[.s ((rd a7 a1.toNat 0).str), .s ((rd a7 a1.toNat 1).str)]] : Rw).length ≤ most)) (
 Lq1 (some 6) [.b a0, .i (IntKind.i64.wrap (a1 + 1)), .i a2, .i a3, .i a4, .i a5, .l a6, .l a7, .i a8, .s a9, .s a10, .i a11, .s a12, .l a13, .i a14, .i a15, .i a16, .i a17, .i a18, .s a19, .i a20, .s a21, .s a22, .l (a23 ++ ([[.s ((rd a7 a1.toNat 0).str), .s ((rd a7 a1.toNat 1).str)]] : Rw)), .l a24, .l a25, .l a26, .l a27]) (
 none)) (
 none)) (
 Lq1 (some 6) [.b a0, .i (IntKind.i64.wrap (a1 + 1)), .i a2, .i a3, .i a4, .i a5, .l a6, .l a7, .i a8, .s a9, .s a10, .i a11, .s a12, .l a13, .i a14, .i a15, .i a16, .i a17, .i a18, .s a19, .i a20, .s a21, .s a22, .l a23, .l a24, .l a25, .l a26, .l a27])) (
 none) := (Lim_eq _ _).trans (by kernel_rfl)
theorem kq1 : SigOk Tryz.prog (dq1.sig (Lq1 none)) ∧ (dq1.sig (Lq1 none)).ok = true := sound_lim (known_cons kqg (by kernel_rfl) known_nil) (by kernel_rfl) (by kernel_rfl) (by kernel_rfl)
def dqby : FD := { fn := 179, nb := 0, pre := ⟨[.ag [.i .i64 0, .i .i64 1, .i .i64 2, .i .i64 3, .fz 90 false 4, .fz 156 false 5, .ow 0], .sc (.s 6)], [.rw 158 false 7]⟩, post := ⟨[.ag [.i .i64 0, .i .i64 1, .i .i64 2, .i .i64 3, .i .i64 4, .fz 90 false 5, .ow 0, .ow 1, .s 6, .i .i64 7, .s 8, .s 9]], [.rw 156 true 10, .rw 158 false 11]⟩, sh := true, cuts := [⟨3, [1, 2, 4, 5, 6], ⟨[.sc (.s 0), .sc (.pt 0 0), .sc (.pt 1 0), .sc (.ow 2), .sc (.i .i64 1)], [.bx [.i .i64 2, .i .i64 3, .i .i64 4, .i .i64 5, .fz 90 false 6, .fz 156 false 7, .ow 3], .bx [.i .i64 8, .i .i64 9, .i .i64 10, .i .i64 11, .i .i64 12, .ow 4, .ow 5, .ow 6, .s 13, .i .i64 14, .s 15, .s 16], .rw 156 true 17, .rw 158 false 18, .rw 90 true 19, .rw 156 true 20, .rw 158 true 21]⟩⟩] }
noncomputable def Lqby : Option Nat → Lv → Option Lv := Lim Tryz.prog [] dqby Tryz.f179
theorem eqby_i (a0 : Int) (a1 : Int) (a2 : Int) (a3 : Int) (a4 : Rw) (a5 : Rw) (a6 : ByteArray) (a7 : Rw) : Lqby none [.i a0, .i a1, .i a2, .i a3, .l a4, .l a5, .s a6, .l a7] =
 Lqby (some 3) [.s a6, .i 0, .i a0, .i a1, .i a2, .i a3, .l a4, .l a5, .i 0, .i 0, .i 0, .i 0, .i 0, .s (⟨#[]⟩ : ByteArray), .i 0, .s (⟨#[]⟩ : ByteArray), .s (⟨#[]⟩ : ByteArray), .l ([] : Rw), .l a7, .l [], .l [], .l []] := (Lim_eq _ _).trans (by kernel_rfl)
theorem eqby_3 (a0 : ByteArray) (a1 : Int) (a2 : Int) (a3 : Int) (a4 : Int) (a5 : Int) (a6 : Rw) (a7 : Rw) (a8 : Int) (a9 : Int) (a10 : Int) (a11 : Int) (a12 : Int) (a13 : ByteArray) (a14 : Int) (a15 : ByteArray) (a16 : ByteArray) (a17 : Rw) (a18 : Rw) (a19 : Rw) (a20 : Rw) (a21 : Rw) : Lqby (some 3) [.s a0, .i a1, .i a2, .i a3, .i a4, .i a5, .l a6, .l a7, .i a8, .i a9, .i a10, .i a11, .i a12, .s a13, .i a14, .s a15, .s a16, .l a17, .l a18, .l a19, .l a20, .l a21] =
 cond (decide (a1 < (a7.length : Int))) (
 cond (inb a1 a7.length) (
 cond (!Eng.seq ((rd a7 a1.toNat 0).str) a0) (
 cond (inb a1 a7.length) (
 cond (decide (a17.length + ([[.s ((rd a7 a1.toNat 0).str), .s ((rd a7 a1.toNat 1).str)]] : Rw).length ≤ most)) (
 Lqby (some 3) [.s a0, .i (IntKind.i64.wrap (a1 + 1)), .i a2, .i a3, .i a4, .i a5, .l a6, .l a7, .i a8, .i a9, .i a10, .i a11, .i a12, .s a13, .i a14, .s a15, .s a16, .l (a17 ++ ([[.s ((rd a7 a1.toNat 0).str), .s ((rd a7 a1.toNat 1).str)]] : Rw)), .l a18, .l a19, .l a20, .l a21]) (
 none)) (
 none)) (
 Lqby (some 3) [.s a0, .i (IntKind.i64.wrap (a1 + 1)), .i a2, .i a3, .i a4, .i a5, .l a6, .l a7, .i a8, .i a9, .i a10, .i a11, .i a12, .s a13, .i a14, .s a15, .s a16, .l a17, .l a18, .l a19, .l a20, .l a21])) (
 none)) (
 cond ((a17.length : Int) == (a7.length : Int)) (
 some [.i 5, .i 0, .i 0, .i 0, .i 0, .l ([]), .s (⟨#[]⟩ : ByteArray), .i 0, .s (⟨#[]⟩ : ByteArray), .s (⟨#[]⟩ : ByteArray), .l [], .l []]) (
 some [.i 0, .i a2, .i a3, .i a4, .i a5, .l a6, .s (⟨#[]⟩ : ByteArray), .i 0, .s (⟨#[]⟩ : ByteArray), .s (⟨#[]⟩ : ByteArray), .l a17, .l a18])) := (Lim_eq _ _).trans (by kernel_rfl)
theorem kqby : SigOk Tryz.prog (dqby.sig (Lqby none)) ∧ (dqby.sig (Lqby none)).ok = true := sound_lim known_nil (by kernel_rfl) (by kernel_rfl) (by kernel_rfl)
def dqbz : FD := { fn := 181, nb := 0, pre := ⟨[.ag [.i .i64 0, .i .i64 1, .i .i64 2, .i .i64 3, .fz 90 false 4, .fz 156 false 5, .ow 0], .sc (.i .i64 6)], [.rw 158 false 7]⟩, post := ⟨[.ag [.i .i64 0, .i .i64 1, .i .i64 2, .i .i64 3, .i .i64 4, .fz 90 false 5, .fz 156 false 6, .ow 0, .s 7, .i .i64 8, .s 9, .s 10]], [.rw 158 true 11]⟩, sh := true, cuts := [⟨3, [1, 2, 4, 5, 6], ⟨[.sc (.i .i64 0), .sc (.pt 0 0), .sc (.pt 1 0), .sc (.ow 2), .sc (.i .i64 1)], [.bx [.i .i64 2, .i .i64 3, .i .i64 4, .i .i64 5, .fz 90 false 6, .fz 156 false 7, .ow 3], .bx [.i .i64 8, .i .i64 9, .i .i64 10, .i .i64 11, .i .i64 12, .ow 4, .ow 5, .ow 6, .s 13, .i .i64 14, .s 15, .s 16], .rw 158 true 17, .rw 158 false 18, .rw 90 true 19, .rw 156 true 20, .rw 158 true 21]⟩⟩] }
noncomputable def Lqbz : Option Nat → Lv → Option Lv := Lim Tryz.prog [] dqbz Tryz.f181
theorem eqbz_i (a0 : Int) (a1 : Int) (a2 : Int) (a3 : Int) (a4 : Rw) (a5 : Rw) (a6 : Int) (a7 : Rw) : Lqbz none [.i a0, .i a1, .i a2, .i a3, .l a4, .l a5, .i a6, .l a7] =
 Lqbz (some 3) [.i a6, .i 0, .i a0, .i a1, .i a2, .i a3, .l a4, .l a5, .i 0, .i 0, .i 0, .i 0, .i 0, .s (⟨#[]⟩ : ByteArray), .i 0, .s (⟨#[]⟩ : ByteArray), .s (⟨#[]⟩ : ByteArray), .l ([] : Rw), .l a7, .l [], .l [], .l []] := (Lim_eq _ _).trans (by kernel_rfl)
theorem eqbz_3 (a0 : Int) (a1 : Int) (a2 : Int) (a3 : Int) (a4 : Int) (a5 : Int) (a6 : Rw) (a7 : Rw) (a8 : Int) (a9 : Int) (a10 : Int) (a11 : Int) (a12 : Int) (a13 : ByteArray) (a14 : Int) (a15 : ByteArray) (a16 : ByteArray) (a17 : Rw) (a18 : Rw) (a19 : Rw) (a20 : Rw) (a21 : Rw) : Lqbz (some 3) [.i a0, .i a1, .i a2, .i a3, .i a4, .i a5, .l a6, .l a7, .i a8, .i a9, .i a10, .i a11, .i a12, .s a13, .i a14, .s a15, .s a16, .l a17, .l a18, .l a19, .l a20, .l a21] =
 cond (decide (a1 < (a18.length : Int))) (
 cond (inb a1 a18.length) (
 cond ((rd a18 a1.toNat 0).int != a0) (
 cond (inb a1 a18.length) (
 cond (decide (a17.length + ([[.i ((rd a18 a1.toNat 0).int), .s ((rd a18 a1.toNat 1).str), .i ((rd a18 a1.toNat 2).int)]] : Rw).length ≤ most)) (
 Lqbz (some 3) [.i a0, .i (IntKind.i64.wrap (a1 + 1)), .i a2, .i a3, .i a4, .i a5, .l a6, .l a7, .i a8, .i a9, .i a10, .i a11, .i a12, .s a13, .i a14, .s a15, .s a16, .l (a17 ++ ([[.i ((rd a18 a1.toNat 0).int), .s ((rd a18 a1.toNat 1).str), .i ((rd a18 a1.toNat 2).int)]] : Rw)), .l a18, .l a19, .l a20, .l a21]) (
 none)) (
 none)) (
 Lqbz (some 3) [.i a0, .i (IntKind.i64.wrap (a1 + 1)), .i a2, .i a3, .i a4, .i a5, .l a6, .l a7, .i a8, .i a9, .i a10, .i a11, .i a12, .s a13, .i a14, .s a15, .s a16, .l a17, .l a18, .l a19, .l a20, .l a21])) (
 none)) (
 cond ((a17.length : Int) == (a18.length : Int)) (
 some [.i 5, .i 0, .i 0, .i 0, .i 0, .l ([]), .l ([]), .s (⟨#[]⟩ : ByteArray), .i 0, .s (⟨#[]⟩ : ByteArray), .s (⟨#[]⟩ : ByteArray), .l []]) (
 some [.i 0, .i a2, .i a3, .i a4, .i a5, .l a6, .l a7, .s (⟨#[]⟩ : ByteArray), .i 0, .s (⟨#[]⟩ : ByteArray), .s (⟨#[]⟩ : ByteArray), .l a17])) := (Lim_eq _ _).trans (by kernel_rfl)
theorem kqbz : SigOk Tryz.prog (dqbz.sig (Lqbz none)) ∧ (dqbz.sig (Lqbz none)).ok = true := sound_lim known_nil (by kernel_rfl) (by kernel_rfl) (by kernel_rfl)
def dqb0 : FD := { fn := 182, nb := 0, pre := ⟨[.ag [.i .i64 0, .i .i64 1, .i .i64 2, .i .i64 3, .fz 90 false 4, .fz 156 false 5, .ow 0], .sc (.i .i64 6)], [.rw 158 false 7]⟩, post := ⟨[.ag [.i .i64 0, .i .i64 1, .i .i64 2, .i .i64 3, .i .i64 4, .fz 90 false 5, .fz 156 false 6, .ow 0, .s 7, .i .i64 8, .s 9, .s 10]], [.rw 158 true 11]⟩, sh := true, cuts := [⟨6, [2, 4, 5, 6], ⟨[.sc (.pt 0 0), .sc (.pt 1 0), .sc (.ow 2), .sc (.i .i64 0)], [.bx [.i .i64 1, .i .i64 2, .i .i64 3, .i .i64 4, .fz 90 false 5, .fz 156 false 6, .ow 3], .bx [.i .i64 7, .i .i64 8, .i .i64 9, .i .i64 10, .i .i64 11, .ow 4, .ow 5, .ow 6, .s 12, .i .i64 13, .s 14, .s 15], .rw 158 true 16, .rw 158 false 17, .rw 90 true 18, .rw 156 true 19, .rw 158 true 20]⟩⟩] }
noncomputable def Lqb0 : Option Nat → Lv → Option Lv := Lim Tryz.prog [] dqb0 Tryz.f182
theorem eqb0_i (a0 : Int) (a1 : Int) (a2 : Int) (a3 : Int) (a4 : Rw) (a5 : Rw) (a6 : Int) (a7 : Rw) : Lqb0 none [.i a0, .i a1, .i a2, .i a3, .l a4, .l a5, .i a6, .l a7] =
 cond (decide (1000000000 < (IntKind.i64.wrap (a1 + a6)))) (
 some [.i 4, .i 0, .i 0, .i 0, .i 0, .l ([]), .l ([]), .s (⟨#[]⟩ : ByteArray), .i 0, .s (⟨#[]⟩ : ByteArray), .s (⟨#[]⟩ : ByteArray), .l []]) (
 Lqb0 (some 6) [.i 0, .i a0, .i (IntKind.i64.wrap (a1 + a6)), .i a2, .i a3, .l a4, .l a5, .i 0, .i 0, .i 0, .i 0, .i 0, .s (⟨#[]⟩ : ByteArray), .i 0, .s (⟨#[]⟩ : ByteArray), .s (⟨#[]⟩ : ByteArray), .l ([] : Rw), .l a7, .l [], .l [], .l []]) := (Lim_eq _ _).trans (by kernel_rfl)
theorem eqb0_6 (a0 : Int) (a1 : Int) (a2 : Int) (a3 : Int) (a4 : Int) (a5 : Rw) (a6 : Rw) (a7 : Int) (a8 : Int) (a9 : Int) (a10 : Int) (a11 : Int) (a12 : ByteArray) (a13 : Int) (a14 : ByteArray) (a15 : ByteArray) (a16 : Rw) (a17 : Rw) (a18 : Rw) (a19 : Rw) (a20 : Rw) : Lqb0 (some 6) [.i a0, .i a1, .i a2, .i a3, .i a4, .l a5, .l a6, .i a7, .i a8, .i a9, .i a10, .i a11, .s a12, .i a13, .s a14, .s a15, .l a16, .l a17, .l a18, .l a19, .l a20] =
 cond (decide (a0 < (a17.length : Int))) (
 cond (inb a0 a17.length) (
 cond (decide (a2 < (rd a17 a0.toNat 2).int)) (
 cond (inb a0 a17.length) (
 cond (decide (a16.length + ([[.i ((rd a17 a0.toNat 0).int), .s ((rd a17 a0.toNat 1).str), .i ((rd a17 a0.toNat 2).int)]] : Rw).length ≤ most)) (
 Lqb0 (some 6) [.i (IntKind.i64.wrap (a0 + 1)), .i a1, .i a2, .i a3, .i a4, .l a5, .l a6, .i a7, .i a8, .i a9, .i a10, .i a11, .s a12, .i a13, .s a14, .s a15, .l (a16 ++ ([[.i ((rd a17 a0.toNat 0).int), .s ((rd a17 a0.toNat 1).str), .i ((rd a17 a0.toNat 2).int)]] : Rw)), .l a17, .l a18, .l a19, .l a20]) (
 none)) (
 none)) (
 Lqb0 (some 6) [.i (IntKind.i64.wrap (a0 + 1)), .i a1, .i a2, .i a3, .i a4, .l a5, .l a6, .i a7, .i a8, .i a9, .i a10, .i a11, .s a12, .i a13, .s a14, .s a15, .l a16, .l a17, .l a18, .l a19, .l a20])) (
 none)) (
 some [.i 0, .i a1, .i a2, .i a3, .i a4, .l a5, .l a6, .s (⟨#[]⟩ : ByteArray), .i 0, .s (⟨#[]⟩ : ByteArray), .s (⟨#[]⟩ : ByteArray), .l a16]) := (Lim_eq _ _).trans (by kernel_rfl)
theorem kqb0 : SigOk Tryz.prog (dqb0.sig (Lqb0 none)) ∧ (dqb0.sig (Lqb0 none)).ok = true := sound_lim known_nil (by kernel_rfl) (by kernel_rfl) (by kernel_rfl)
def dqp : FD := { fn := 130, nb := 0, pre := ⟨[.sc (.fz 9 false 0), .sc (.s 1)], []⟩, post := ⟨[.sc (.b 0)], []⟩, sh := false, cuts := [⟨2, [0, 1, 5], ⟨[.sc (.fz 9 false 0), .sc (.s 1), .sc (.i .i64 2)], []⟩⟩] }
noncomputable def Lqp : Option Nat → Lv → Option Lv := Lim Tryz.prog [] dqp Tryz.f130
theorem eqp_i (a0 : Rw) (a1 : ByteArray) : Lqp none [.l a0, .s a1] =
 Lqp (some 2) [.l a0, .s a1, .i 0] := (Lim_eq _ _).trans (by kernel_rfl)
theorem eqp_2 (a0 : Rw) (a1 : ByteArray) (a2 : Int) : Lqp (some 2) [.l a0, .s a1, .i a2] =
 cond (decide (a2 < (a0.length : Int))) (
 cond (inb a2 a0.length) (
 cond (Eng.seq ((rd a0 a2.toNat 0).str) a1) (
 some [.b true]) (
 Lqp (some 2) [.l a0, .s a1, .i (IntKind.i64.wrap (a2 + 1))])) (
 none)) (
 some [.b false]) := (Lim_eq _ _).trans (by kernel_rfl)
theorem kqp : SigOk Tryz.prog (dqp.sig (Lqp none)) ∧ (dqp.sig (Lqp none)).ok = true := sound_lim known_nil (by kernel_rfl) (by kernel_rfl) (by kernel_rfl)
def dqx : FD := { fn := 220, nb := 0, pre := ⟨[.ag [.i .i64 0, .i .i64 1, .i .i64 2, .i .i64 3, .fz 90 false 4, .fz 156 false 5, .fz 158 false 6], .sc (.s 7)], []⟩, post := ⟨[.sc (.b 0)], []⟩, sh := false, cuts := [⟨2, [1, 2, 5], ⟨[.sc (.s 0), .sc (.pt 0 0), .sc (.i .i64 1)], [.bx [.i .i64 2, .i .i64 3, .i .i64 4, .i .i64 5, .fz 90 false 6, .fz 156 false 7, .fz 158 false 8]]⟩⟩, ⟨7, [1, 2, 6], ⟨[.sc (.s 0), .sc (.pt 0 0), .sc (.i .i64 1)], [.bx [.i .i64 2, .i .i64 3, .i .i64 4, .i .i64 5, .fz 90 false 6, .fz 156 false 7, .fz 158 false 8]]⟩⟩] }
noncomputable def Lqx : Option Nat → Lv → Option Lv := Lim Tryz.prog [] dqx Tryz.f220
theorem eqx_i (a0 : Int) (a1 : Int) (a2 : Int) (a3 : Int) (a4 : Rw) (a5 : Rw) (a6 : Rw) (a7 : ByteArray) : Lqx none [.i a0, .i a1, .i a2, .i a3, .l a4, .l a5, .l a6, .s a7] =
 Lqx (some 2) [.s a7, .i 0, .i a0, .i a1, .i a2, .i a3, .l a4, .l a5, .l a6] := (Lim_eq _ _).trans (by kernel_rfl)
theorem eqx_2 (a0 : ByteArray) (a1 : Int) (a2 : Int) (a3 : Int) (a4 : Int) (a5 : Int) (a6 : Rw) (a7 : Rw) (a8 : Rw) : Lqx (some 2) [.s a0, .i a1, .i a2, .i a3, .i a4, .i a5, .l a6, .l a7, .l a8] =
 cond (decide (a1 < (a7.length : Int))) (
 cond (inb a1 a7.length) (
 cond (Eng.seq ((rd a7 a1.toNat 1).str) a0) (
 some [.b true]) (
 Lqx (some 2) [.s a0, .i (IntKind.i64.wrap (a1 + 1)), .i a2, .i a3, .i a4, .i a5, .l a6, .l a7, .l a8])) (
 none)) (
 Lqx (some 7) [.s a0, .i 0, .i a2, .i a3, .i a4, .i a5, .l a6, .l a7, .l a8]) := (Lim_eq _ _).trans (by kernel_rfl)
theorem eqx_7 (a0 : ByteArray) (a1 : Int) (a2 : Int) (a3 : Int) (a4 : Int) (a5 : Int) (a6 : Rw) (a7 : Rw) (a8 : Rw) : Lqx (some 7) [.s a0, .i a1, .i a2, .i a3, .i a4, .i a5, .l a6, .l a7, .l a8] =
 cond (decide (a1 < (a8.length : Int))) (
 cond (inb a1 a8.length) (
 cond (Eng.seq ((rd a8 a1.toNat 1).str) a0) (
 some [.b true]) (
 Lqx (some 7) [.s a0, .i (IntKind.i64.wrap (a1 + 1)), .i a2, .i a3, .i a4, .i a5, .l a6, .l a7, .l a8])) (
 none)) (
 some [.b false]) := (Lim_eq _ _).trans (by kernel_rfl)
theorem kqx : SigOk Tryz.prog (dqx.sig (Lqx none)) ∧ (dqx.sig (Lqx none)).ok = true := sound_lim known_nil (by kernel_rfl) (by kernel_rfl) (by kernel_rfl)
def dq6 : FD := { fn := 183, nb := 0, pre := ⟨[.ag [.i .i64 0, .i .i64 1, .i .i64 2, .i .i64 3, .fz 90 false 4, .fz 156 false 5, .ow 0], .sc (.s 6)], [.rw 158 false 7]⟩, post := ⟨[.ag [.i .i64 0, .i .i64 1, .i .i64 2, .i .i64 3, .i .i64 4, .ow 0, .fz 156 false 5, .ow 1, .s 6, .i .i64 7, .s 8, .s 9]], [.rw 90 false 10, .rw 158 false 11]⟩, sh := true, cuts := [⟨7, [1, 2, 4, 5, 6], ⟨[.sc (.s 0), .sc (.pt 0 0), .sc (.pt 1 0), .sc (.ow 2), .sc (.i .i64 1)], [.bx [.i .i64 2, .i .i64 3, .i .i64 4, .i .i64 5, .fz 90 false 6, .fz 156 false 7, .ow 3], .bx [.i .i64 8, .i .i64 9, .i .i64 10, .i .i64 11, .i .i64 12, .ow 4, .ow 5, .ow 6, .s 13, .i .i64 14, .s 15, .s 16], .rw 90 false 17, .rw 158 false 18, .rw 90 true 19, .rw 156 true 20, .rw 158 true 21]⟩⟩] }
noncomputable def Lq6 : Option Nat → Lv → Option Lv := Lim Tryz.prog [dqg.sig (Lqg none), dqp.sig (Lqp none), dqx.sig (Lqx none)] dq6 Tryz.f183
theorem eq6_i (a0 : Int) (a1 : Int) (a2 : Int) (a3 : Int) (a4 : Rw) (a5 : Rw) (a6 : ByteArray) (a7 : Rw) : Lq6 none [.i a0, .i a1, .i a2, .i a3, .l a4, .l a5, .s a6, .l a7] =
 (Lqg none [.i a0, .i a1, .i a2, .i a3, .l a4, .l a5, .l a7, .s a6]).bind fun y1 =>
 cond (decide ((g y1 0).int < 0)) (
 some [.i 2, .i 0, .i 0, .i 0, .i 0, .l ([]), .s (⟨#[]⟩ : ByteArray), .i 0, .s (⟨#[]⟩ : ByteArray), .s (⟨#[]⟩ : ByteArray), .l [], .l []]) (
 (Lqx none [.i a0, .i a1, .i a2, .i a3, .l a4, .l a5, .l a7, .s a6]).bind fun y2 =>
 cond ((g y2 0).bool) (
 some [.i 6, .i 0, .i 0, .i 0, .i 0, .l ([]), .s (⟨#[]⟩ : ByteArray), .i 0, .s (⟨#[]⟩ : ByteArray), .s (⟨#[]⟩ : ByteArray), .l [], .l []]) (
 Lq6 (some 7) [.s a6, .i 0, .i a0, .i a1, .i a2, .i a3, .l a4, .l a5, .i 0, .i 0, .i 0, .i 0, .i 0, .s (⟨#[]⟩ : ByteArray), .i 0, .s (⟨#[]⟩ : ByteArray), .s (⟨#[]⟩ : ByteArray), .l ([] : Rw), .l a7, .l [], .l [], .l []])) := (Lim_eq _ _).trans (by kernel_rfl)
theorem eq6_7 (a0 : ByteArray) (a1 : Int) (a2 : Int) (a3 : Int) (a4 : Int) (a5 : Int) (a6 : Rw) (a7 : Rw) (a8 : Int) (a9 : Int) (a10 : Int) (a11 : Int) (a12 : Int) (a13 : ByteArray) (a14 : Int) (a15 : ByteArray) (a16 : ByteArray) (a17 : Rw) (a18 : Rw) (a19 : Rw) (a20 : Rw) (a21 : Rw) : Lq6 (some 7) [.s a0, .i a1, .i a2, .i a3, .i a4, .i a5, .l a6, .l a7, .i a8, .i a9, .i a10, .i a11, .i a12, .s a13, .i a14, .s a15, .s a16, .l a17, .l a18, .l a19, .l a20, .l a21] =
 cond (decide (a1 < (a6.length : Int))) (
 cond (inb a1 a6.length) (
 (Lqp none [.l ((rd a6 a1.toNat 3).list), .s a0]).bind fun y1 =>
 cond ((g y1 0).bool) (
 some [.i 6, .i 0, .i 0, .i 0, .i 0, .l ([]), .s (⟨#[]⟩ : ByteArray), .i 0, .s (⟨#[]⟩ : ByteArray), .s (⟨#[]⟩ : ByteArray), .l [], .l []]) (
 cond (inb a1 a6.length) (
 cond (!Eng.seq ((rd a6 a1.toNat 0).str) a0) (
 cond (inb a1 a6.length) (
 cond (decide (a17.length + ([[.s ((rd a6 a1.toNat 0).str), .i ((rd a6 a1.toNat 1).int), .s ((rd a6 a1.toNat 2).str), .l ((rd a6 a1.toNat 3).list)]] : Rw).length ≤ most)) (
 Lq6 (some 7) [.s a0, .i (IntKind.i64.wrap (a1 + 1)), .i a2, .i a3, .i a4, .i a5, .l a6, .l a7, .i a8, .i a9, .i a10, .i a11, .i a12, .s a13, .i a14, .s a15, .s a16, .l (a17 ++ ([[.s ((rd a6 a1.toNat 0).str), .i ((rd a6 a1.toNat 1).int), .s ((rd a6 a1.toNat 2).str), .l ((rd a6 a1.toNat 3).list)]] : Rw)), .l a18, .l a19, .l a20, .l a21]) (
 none)) (
 none)) (
 Lq6 (some 7) [.s a0, .i (IntKind.i64.wrap (a1 + 1)), .i a2, .i a3, .i a4, .i a5, .l a6, .l a7, .i a8, .i a9, .i a10, .i a11, .i a12, .s a13, .i a14, .s a15, .s a16, .l a17, .l a18, .l a19, .l a20, .l a21])) (
 none))) (
 none)) (
 some [.i 0, .i a2, .i a3, .i a4, .i a5, .l a7, .s (⟨#[]⟩ : ByteArray), .i 0, .s (⟨#[]⟩ : ByteArray), .s (⟨#[]⟩ : ByteArray), .l a17, .l a18]) := (Lim_eq _ _).trans (by kernel_rfl)
theorem kq6 : SigOk Tryz.prog (dq6.sig (Lq6 none)) ∧ (dq6.sig (Lq6 none)).ok = true := sound_lim (known_cons kqg (by kernel_rfl) (known_cons kqp (by kernel_rfl) (known_cons kqx (by kernel_rfl) known_nil))) (by kernel_rfl) (by kernel_rfl) (by kernel_rfl)
end KV
end
section
set_option maxRecDepth 100000
namespace KV
open Go Go.Eng Go.Proofs
def dqct : FD := { fn := 114, nb := 0, pre := ⟨[.ag [.i .i64 0, .i .i64 1, .i .i64 2, .i .i64 3, .fz 90 false 4, .fz 156 false 5, .ow 0], .ag [.i .i64 6, .s 7, .s 8, .i .i64 9, .s 10, .fz 9 false 11]], [.rw 158 false 12]⟩, post := ⟨[.ag [.i .i64 0, .i .i64 1, .i .i64 2, .i .i64 3, .i .i64 4, .fz 90 false 5, .fz 156 false 6, .ow 0, .s 7, .i .i64 8, .s 9, .s 10]], [.rw 158 false 11]⟩, sh := true, cuts := [] }
noncomputable def Lqct : Option Nat → Lv → Option Lv := Lim Tryz.prog [dqo.sig (Lqo none), dqg.sig (Lqg none), dqcq.sig (Lqcq none), dqu.sig (Lqu none), dq1.sig (Lq1 none), dqby.sig (Lqby none), dqbz.sig (Lqbz none), dqb0.sig (Lqb0 none), dq6.sig (Lq6 none)] dqct Tryz.f114
theorem eqct_i (a0 : Int) (a1 : Int) (a2 : Int) (a3 : Int) (a4 : Rw) (a5 : Rw) (a6 : Int) (a7 : ByteArray) (a8 : ByteArray) (a9 : Int) (a10 : ByteArray) (a11 : Rw) (a12 : Rw) : Lqct none [.i a0, .i a1, .i a2, .i a3, .l a4, .l a5, .i a6, .s a7, .s a8, .i a9, .s a10, .l a11, .l a12] =
 cond (a6 == 1) (
 (Lqu none [.i a0, .i a1, .i a2, .i a3, .l a4, .l a5, .i a6, .s a7, .s a8, .i a9, .s a10, .l a11, .l a12]).bind fun y1 =>
 some [.i ((g y1 0).int), .i ((g y1 1).int), .i ((g y1 2).int), .i ((g y1 3).int), .i ((g y1 4).int), .l ((g y1 5).list), .l ((g y1 6).list), .s ((g y1 7).str), .i ((g y1 8).int), .s ((g y1 9).str), .s ((g y1 10).str), .l ((g y1 11).list)]) (
 cond (a6 == 2) (
 (Lq1 none [.i a0, .i a1, .i a2, .i a3, .l a4, .l a5, .i a6, .s a7, .s a8, .i a9, .s a10, .l a11, .l a12]).bind fun y2 =>
 some [.i ((g y2 0).int), .i ((g y2 1).int), .i ((g y2 2).int), .i ((g y2 3).int), .i ((g y2 4).int), .l ((g y2 5).list), .l ((g y2 10).list), .s ((g y2 6).str), .i ((g y2 7).int), .s ((g y2 8).str), .s ((g y2 9).str), .l ((g y2 11).list)]) (
 cond (a6 == 3) (
 (Lqby none [.i a0, .i a1, .i a2, .i a3, .l a4, .l a5, .s a8, .l a12]).bind fun y3 =>
 some [.i ((g y3 0).int), .i ((g y3 1).int), .i ((g y3 2).int), .i ((g y3 3).int), .i ((g y3 4).int), .l ((g y3 5).list), .l ((g y3 10).list), .s ((g y3 6).str), .i ((g y3 7).int), .s ((g y3 8).str), .s ((g y3 9).str), .l ((g y3 11).list)]) (
 cond (a6 == 4) (
 (Lqg none [.i a0, .i a1, .i a2, .i a3, .l a4, .l a5, .l a12, .s a7]).bind fun y4 =>
 cond (decide ((g y4 0).int < 0)) (
 some [.i 2, .i 0, .i 0, .i 0, .i 0, .l ([]), .l ([]), .s (⟨#[]⟩ : ByteArray), .i 0, .s (⟨#[]⟩ : ByteArray), .s (⟨#[]⟩ : ByteArray), .l []]) (
 (Lqo none [.i a0, .i a1, .i a2, .i a3, .l a4, .l a5, .l a12]).bind fun y5 =>
 (Lqcq none [.i ((g y5 0).int), .i ((g y5 1).int), .i ((g y5 2).int), .i ((g y5 3).int), .l ((g y5 4).list), .l ((g y5 5).list), .s a7, .i a9, .l ((g y5 6).list)]).bind fun y6 =>
 some [.i ((g y6 0).int), .i ((g y6 1).int), .i ((g y6 2).int), .i ((g y6 3).int), .i ((g y6 4).int), .l ((g y6 5).list), .l ((g y6 6).list), .s ((g y6 7).str), .i ((g y6 8).int), .s ((g y6 9).str), .s ((g y6 10).str), .l ((g y6 11).list)])) (
 cond (a6 == 5) (
 (Lqbz none [.i a0, .i a1, .i a2, .i a3, .l a4, .l a5, .i a9, .l a12]).bind fun y7 =>
 some [.i ((g y7 0).int), .i ((g y7 1).int), .i ((g y7 2).int), .i ((g y7 3).int), .i ((g y7 4).int), .l ((g y7 5).list), .l ((g y7 6).list), .s ((g y7 7).str), .i ((g y7 8).int), .s ((g y7 9).str), .s ((g y7 10).str), .l ((g y7 11).list)]) (
 cond (a6 == 6) (
 (Lqb0 none [.i a0, .i a1, .i a2, .i a3, .l a4, .l a5, .i a9, .l a12]).bind fun y8 =>
 some [.i ((g y8 0).int), .i ((g y8 1).int), .i ((g y8 2).int), .i ((g y8 3).int), .i ((g y8 4).int), .l ((g y8 5).list), .l ((g y8 6).list), .s ((g y8 7).str), .i ((g y8 8).int), .s ((g y8 9).str), .s ((g y8 10).str), .l ((g y8 11).list)]) (
 (Lq6 none [.i a0, .i a1, .i a2, .i a3, .l a4, .l a5, .s a7, .l a12]).bind fun y9 =>
 some [.i ((g y9 0).int), .i ((g y9 1).int), .i ((g y9 2).int), .i ((g y9 3).int), .i ((g y9 4).int), .l ((g y9 10).list), .l ((g y9 5).list), .s ((g y9 6).str), .i ((g y9 7).int), .s ((g y9 8).str), .s ((g y9 9).str), .l ((g y9 11).list)])))))) := (Lim_eq _ _).trans (by kernel_rfl)
theorem kqct : SigOk Tryz.prog (dqct.sig (Lqct none)) ∧ (dqct.sig (Lqct none)).ok = true := sound_lim (known_cons kqo (by kernel_rfl) (known_cons kqg (by kernel_rfl) (known_cons kqcq (by kernel_rfl) (known_cons kqu (by kernel_rfl) (known_cons kq1 (by kernel_rfl) (known_cons kqby (by kernel_rfl) (known_cons kqbz (by kernel_rfl) (known_cons kqb0 (by kernel_rfl) (known_cons kq6 (by kernel_rfl) known_nil))))))))) (by kernel_rfl) (by kernel_rfl) (by kernel_rfl)
def dqb1 : FD := { fn := 34, nb := 0, pre := ⟨[.sc (.i .i64 0), .sc (.fz 9 false 1)], []⟩, post := ⟨[.ag [.i .i64 0, .i .i64 1, .i .i64 2, .i .i64 3, .i .i64 4, .ow 0, .ow 1, .ow 2, .s 5, .i .i64 6, .s 7, .s 8]], [.rw 90 true 9, .rw 156 true 10, .rw 158 true 11]⟩, sh := false, cuts := [⟨5, [0, 1, 4, 5, 6], ⟨[.sc (.i .i64 0), .sc (.fz 9 false 1), .sc (.pt 0 0), .sc (.pt 1 0), .sc (.i .i64 2)], [.bx [.i .i64 3, .i .i64 4, .i .i64 5, .i .i64 6, .i .i64 7, .ow 2, .ow 3, .ow 4, .s 8, .i .i64 9, .s 10, .s 11], .bx [.i .i64 12, .i .i64 13, .i .i64 14, .i .i64 15, .fz 90 true 16, .fz 156 true 17, .ow 5], .rw 90 true 18, .rw 156 true 19, .rw 158 true 20, .rw 158 true 21]⟩⟩] }
noncomputable def Lqb1 : Option Nat → Lv → Option Lv := Lim Tryz.prog [dqh.sig (Lqh none), dqce.sig (Lqce none), dqo.sig (Lqo none), dqct.sig (Lqct none)] dqb1 Tryz.f34
theorem eqb1_i (a0 : Int) (a1 : Rw) : Lqb1 none [.i a0, .l a1] =
 (Lqh none [.i a0]).bind fun y1 =>
 cond (!(g y1 0).bool) (
 some [.i 1, .i 0, .i 0, .i 0, .i 0, .s (⟨#[]⟩ : ByteArray), .i 0, .s (⟨#[]⟩ : ByteArray), .s (⟨#[]⟩ : ByteArray), .l [], .l [], .l []]) (
 cond (decide (4000 < (a1.length : Int))) (
 some [.i 1, .i 0, .i 0, .i 0, .i 0, .s (⟨#[]⟩ : ByteArray), .i 0, .s (⟨#[]⟩ : ByteArray), .s (⟨#[]⟩ : ByteArray), .l [], .l [], .l []]) (
 Lqb1 (some 5) [.i a0, .l a1, .i 0, .i 0, .i 0, .i 0, .i 0, .i 0, .s (⟨#[]⟩ : ByteArray), .i 0, .s (⟨#[]⟩ : ByteArray), .s (⟨#[]⟩ : ByteArray), .i a0, .i 0, .i 0, .i 0, .l ([]), .l ([]), .l [], .l [], .l [], .l []])) := (Lim_eq _ _).trans (by kernel_rfl)
theorem eqb1_5 (a0 : Int) (a1 : Rw) (a2 : Int) (a3 : Int) (a4 : Int) (a5 : Int) (a6 : Int) (a7 : Int) (a8 : ByteArray) (a9 : Int) (a10 : ByteArray) (a11 : ByteArray) (a12 : Int) (a13 : Int) (a14 : Int) (a15 : Int) (a16 : Rw) (a17 : Rw) (a18 : Rw) (a19 : Rw) (a20 : Rw) (a21 : Rw) : Lqb1 (some 5) [.i a0, .l a1, .i a2, .i a3, .i a4, .i a5, .i a6, .i a7, .s a8, .i a9, .s a10, .s a11, .i a12, .i a13, .i a14, .i a15, .l a16, .l a17, .l a18, .l a19, .l a20, .l a21] =
 cond (decide (a2 < (a1.length : Int))) (
 cond (inb a2 a1.length) (
 (Lqce none [.s ((rd a1 a2.toNat 0).str), .i a0]).bind fun y1 =>
 cond (!(g y1 5).bool) (
 some [.i 7, .i 0, .i 0, .i 0, .i 0, .s (⟨#[]⟩ : ByteArray), .i (IntKind.i64.wrap (a2 + 1)), .s (⟨#[]⟩ : ByteArray), .s (⟨#[]⟩ : ByteArray), .l [], .l [], .l []]) (
 (Lqct none [.i a12, .i a13, .i a14, .i a15, .l a16, .l a17, .i ((g y1 0).int), .s ((g y1 1).str), .s ((g y1 2).str), .i ((g y1 3).int), .s ((g y1 4).str), .l ((g y1 6).list), .l a21]).bind fun y2 =>
 cond ((g y2 0).int != 0) (
 some [.i 7, .i 0, .i 0, .i 0, .i 0, .s (⟨#[]⟩ : ByteArray), .i (IntKind.i64.wrap (a2 + 1)), .s (⟨#[]⟩ : ByteArray), .s (⟨#[]⟩ : ByteArray), .l [], .l [], .l []]) (
 Lqb1 (some 5) [.i a0, .l a1, .i (IntKind.i64.wrap (a2 + 1)), .i a3, .i a4, .i a5, .i a6, .i a7, .s a8, .i a9, .s a10, .s a11, .i ((g y2 1).int), .i ((g y2 2).int), .i ((g y2 3).int), .i ((g y2 4).int), .l ((g y2 5).list), .l ((g y2 6).list), .l a18, .l a19, .l a20, .l ((g y2 11).list)]))) (
 none)) (
 (Lqo none [.i a12, .i a13, .i a14, .i a15, .l a16, .l a17, .l a21]).bind fun y3 =>
 some [.i 0, .i ((g y3 0).int), .i ((g y3 1).int), .i ((g y3 2).int), .i ((g y3 3).int), .s (⟨#[]⟩ : ByteArray), .i 0, .s (⟨#[]⟩ : ByteArray), .s (⟨#[]⟩ : ByteArray), .l ((g y3 4).list), .l ((g y3 5).list), .l ((g y3 6).list)]) := (Lim_eq _ _).trans (by kernel_rfl)
theorem kqb1 : SigOk Tryz.prog (dqb1.sig (Lqb1 none)) ∧ (dqb1.sig (Lqb1 none)).ok = true := sound_lim (known_cons kqh (by kernel_rfl) (known_cons kqce (by kernel_rfl) (known_cons kqo (by kernel_rfl) (known_cons kqct (by kernel_rfl) known_nil)))) (by kernel_rfl) (by kernel_rfl) (by kernel_rfl)
def dqy : FD := { fn := 87, nb := 0, pre := ⟨[.sc (.i .i64 0), .sc (.i .i64 1), .sc (.i .i64 2)], []⟩, post := ⟨[.sc (.b 0)], []⟩, sh := false, cuts := [] }
noncomputable def Lqy : Option Nat → Lv → Option Lv := Lim Tryz.prog [] dqy Tryz.f87
theorem eqy_i (a0 : Int) (a1 : Int) (a2 : Int) : Lqy none [.i a0, .i a1, .i a2] =
 cond (decide (a1 ≤ a0)) (
 some [.b (decide (a0 ≤ a2))]) (
 some [.b false]) := (Lim_eq _ _).trans (by kernel_rfl)
theorem kqy : SigOk Tryz.prog (dqy.sig (Lqy none)) ∧ (dqy.sig (Lqy none)).ok = true := sound_lim known_nil (by kernel_rfl) (by kernel_rfl) (by kernel_rfl)
def dqn : FD := { fn := 88, nb := 0, pre := ⟨[.ag [.fz 9 false 0, .fz 9 false 1]], []⟩, post := ⟨[.sc (.b 0)], []⟩, sh := false, cuts := [⟨2, [1, 3], ⟨[.sc (.pt 0 0), .sc (.i .i64 0)], [.bx [.fz 9 false 1, .fz 9 false 2]]⟩⟩, ⟨7, [1, 4], ⟨[.sc (.pt 0 0), .sc (.i .i64 0)], [.bx [.fz 9 false 1, .fz 9 false 2]]⟩⟩] }
noncomputable def Lqn : Option Nat → Lv → Option Lv := Lim Tryz.prog [] dqn Tryz.f88
theorem eqn_i (a0 : Rw) (a1 : Rw) : Lqn none [.l a0, .l a1] =
 Lqn (some 2) [.i 0, .l a0, .l a1] := (Lim_eq _ _).trans (by kernel_rfl)
theorem eqn_2 (a0 : Int) (a1 : Rw) (a2 : Rw) : Lqn (some 2) [.i a0, .l a1, .l a2] =
 cond (decide (a0 < (a1.length : Int))) (
 cond (inb a0 a1.length) (
 cond (decide (5000 < (((rd a1 a0.toNat 0).str).size : Int))) (
 some [.b false]) (
 Lqn (some 2) [.i (IntKind.i64.wrap (a0 + 1)), .l a1, .l a2])) (
 none)) (
 Lqn (some 7) [.i 0, .l a1, .l a2]) := (Lim_eq _ _).trans (by kernel_rfl)
theorem eqn_7 (a0 : Int) (a1 : Rw) (a2 : Rw) : Lqn (some 7) [.i a0, .l a1, .l a2] =
 cond (decide (a0 < (a2.length : Int))) (
 cond (inb a0 a2.length) (
 cond (decide (5000 < (((rd a2 a0.toNat 0).str).size : Int))) (
 some [.b false]) (
 Lqn (some 7) [.i (IntKind.i64.wrap (a0 + 1)), .l a1, .l a2])) (
 none)) (
 some [.b (decide ((IntKind.i64.wrap ((a1.length : Int) + (a2.length : Int))) ≤ 4000))]) := (Lim_eq _ _).trans (by kernel_rfl)
theorem kqn : SigOk Tryz.prog (dqn.sig (Lqn none)) ∧ (dqn.sig (Lqn none)).ok = true := sound_lim known_nil (by kernel_rfl) (by kernel_rfl) (by kernel_rfl)
def dqcz : FD := { fn := 89, nb := 0, pre := ⟨[.ag [.fz 9 false 0, .fz 9 false 1]], []⟩, post := ⟨[.sc (.ow 0)], [.rw 9 true 0]⟩, sh := false, cuts := [] }
noncomputable def Lqcz : Option Nat → Lv → Option Lv := Lim Tryz.prog [] dqcz Tryz.f89
theorem eqcz_i (a0 : Rw) (a1 : Rw) : Lqcz none [.l a0, .l a1] =
 cond (decide (([] : Rw).length + a0.length ≤ most)) (
 cond (decide ((([] : Rw) ++ a0).length + a1.length ≤ most)) (
 some [.l ((([] : Rw) ++ a0) ++ a1)]) (
 none)) (
 none) := (Lim_eq _ _).trans (by kernel_rfl)
theorem kqcz : SigOk Tryz.prog (dqcz.sig (Lqcz none)) ∧ (dqcz.sig (Lqcz none)).ok = true := sound_lim known_nil (by kernel_rfl) (by kernel_rfl) (by kernel_rfl)
def dqca : FD := { fn := 155, nb := 0, pre := ⟨[.ag [.s 0, .fz 9 false 1], .ag [.s 2, .fz 9 false 3]], []⟩, post := ⟨[.sc (.b 0)], []⟩, sh := false, cuts := [⟨4, [2, 3, 5], ⟨[.sc (.pt 0 0), .sc (.pt 1 0), .sc (.i .i64 0)], [.bx [.s 1, .fz 9 false 2], .bx [.s 3, .fz 9 false 4]]⟩⟩] }
noncomputable def Lqca : Option Nat → Lv → Option Lv := Lim Tryz.prog [] dqca Tryz.f155
theorem eqca_i (a0 : ByteArray) (a1 : Rw) (a2 : ByteArray) (a3 : Rw) : Lqca none [.s a0, .l a1, .s a2, .l a3] =
 cond (!Eng.seq a0 a2) (
 some [.b false]) (
 cond ((a1.length : Int) != (a3.length : Int)) (
 some [.b false]) (
 Lqca (some 4) [.i 0, .s a0, .l a1, .s a2, .l a3])) := (Lim_eq _ _).trans (by kernel_rfl)
theorem eqca_4 (a0 : Int) (a1 : ByteArray) (a2 : Rw) (a3 : ByteArray) (a4 : Rw) : Lqca (some 4) [.i a0, .s a1, .l a2, .s a3, .l a4] =
 cond (decide (a0 < (a2.length : Int))) (
 cond (inb a0 a2.length) (
 cond (inb a0 a4.length) (
 cond (!Eng.seq ((rd a2 a0.toNat 0).str) ((rd a4 a0.toNat 0).str)) (
 some [.b false]) (
 Lqca (some 4) [.i (IntKind.i64.wrap (a0 + 1)), .s a1, .l a2, .s a3, .l a4])) (
 none)) (
 none)) (
 some [.b true]) := (Lim_eq _ _).trans (by kernel_rfl)
theorem kqca : SigOk Tryz.prog (dqca.sig (Lqca none)) ∧ (dqca.sig (Lqca none)).ok = true := sound_lim known_nil (by kernel_rfl) (by kernel_rfl) (by kernel_rfl)
def dqk : FD := { fn := 90, nb := 0, pre := ⟨[.ag [.i .i64 0, .i .i64 1, .i .i64 2, .i .i64 3, .fz 90 false 4, .fz 156 false 5, .fz 158 false 6], .ag [.i .i64 7, .i .i64 8, .i .i64 9, .i .i64 10, .fz 90 false 11, .fz 156 false 12, .fz 158 false 13]], []⟩, post := ⟨[.sc (.b 0)], []⟩, sh := false, cuts := [⟨4, [2, 3, 5], ⟨[.sc (.pt 0 0), .sc (.pt 1 0), .sc (.i .i64 0)], [.bx [.i .i64 1, .i .i64 2, .i .i64 3, .i .i64 4, .fz 90 false 5, .fz 156 false 6, .fz 158 false 7], .bx [.i .i64 8, .i .i64 9, .i .i64 10, .i .i64 11, .fz 90 false 12, .fz 156 false 13, .fz 158 false 14]]⟩⟩, ⟨9, [2, 3, 6], ⟨[.sc (.pt 0 0), .sc (.pt 1 0), .sc (.i .i64 0)], [.bx [.i .i64 1, .i .i64 2, .i .i64 3, .i .i64 4, .fz 90 false 5, .fz 156 false 6, .fz 158 false 7], .bx [.i .i64 8, .i .i64 9, .i .i64 10, .i .i64 11, .fz 90 false 12, .fz 156 false 13, .fz 158 false 14]]⟩⟩, ⟨14, [2, 3, 7], ⟨[.sc (.pt 0 0), .sc (.pt 1 0), .sc (.i .i64 0)], [.bx [.i .i64 1, .i .i64 2, .i .i64 3, .i .i64 4, .fz 90 false 5, .fz 156 false 6, .fz 158 false 7], .bx [.i .i64 8, .i .i64 9, .i .i64 10, .i .i64 11, .fz 90 false 12, .fz 156 false 13, .fz 158 false 14]]⟩⟩] }
noncomputable def Lqk : Option Nat → Lv → Option Lv := Lim Tryz.prog [dqca.sig (Lqca none)] dqk Tryz.f90
theorem eqk_i (a0 : Int) (a1 : Int) (a2 : Int) (a3 : Int) (a4 : Rw) (a5 : Rw) (a6 : Rw) (a7 : Int) (a8 : Int) (a9 : Int) (a10 : Int) (a11 : Rw) (a12 : Rw) (a13 : Rw) : Lqk none [.i a0, .i a1, .i a2, .i a3, .l a4, .l a5, .l a6, .i a7, .i a8, .i a9, .i a10, .l a11, .l a12, .l a13] =
 cond (a0 != a7) (
 some [.b false]) (
 cond (a1 != a8) (
 some [.b false]) (
 cond (a2 != a9) (
 some [.b false]) (
 cond (a3 != a10) (
 some [.b false]) (
 cond ((a4.length : Int) != (a11.length : Int)) (
 some [.b false]) (
 cond ((a5.length : Int) != (a12.length : Int)) (
 some [.b false]) (
 cond ((a6.length : Int) != (a13.length : Int)) (
 some [.b false]) (
 Lqk (some 4) [.i 0, .i a0, .i a1, .i a2, .i a3, .l a4, .l a5, .l a6, .i a7, .i a8, .i a9, .i a10, .l a11, .l a12, .l a13]))))))) := (Lim_eq _ _).trans (by kernel_rfl)
theorem eqk_4 (a0 : Int) (a1 : Int) (a2 : Int) (a3 : Int) (a4 : Int) (a5 : Rw) (a6 : Rw) (a7 : Rw) (a8 : Int) (a9 : Int) (a10 : Int) (a11 : Int) (a12 : Rw) (a13 : Rw) (a14 : Rw) : Lqk (some 4) [.i a0, .i a1, .i a2, .i a3, .i a4, .l a5, .l a6, .l a7, .i a8, .i a9, .i a10, .i a11, .l a12, .l a13, .l a14] =
 cond (decide (a0 < (a5.length : Int))) (
 cond (inb a0 a5.length) (
 cond (inb a0 a12.length) (
 cond (!Eng.seq ((rd a5 a0.toNat 0).str) ((rd a12 a0.toNat 0).str)) (
 some [.b false]) (
 cond (inb a0 a5.length) (
 cond (inb a0 a12.length) (
 cond ((rd a5 a0.toNat 1).int != (rd a12 a0.toNat 1).int) (
 some [.b false]) (
 cond (inb a0 a5.length) (
 cond (inb a0 a12.length) (
 (Lqca none [.s ((rd a5 a0.toNat 2).str), .l ((rd a5 a0.toNat 3).list), .s ((rd a12 a0.toNat 2).str), .l ((rd a12 a0.toNat 3).list)]).bind fun y1 =>
 cond (!(g y1 0).bool) (
 some [.b false]) (
 Lqk (some 4) [.i (IntKind.i64.wrap (a0 + 1)), .i a1, .i a2, .i a3, .i a4, .l a5, .l a6, .l a7, .i a8, .i a9, .i a10, .i a11, .l a12, .l a13, .l a14])) (
 none)) (
 none))) (
 none)) (
 none))) (
 none)) (
 none)) (
 Lqk (some 9) [.i 0, .i a1, .i a2, .i a3, .i a4, .l a5, .l a6, .l a7, .i a8, .i a9, .i a10, .i a11, .l a12, .l a13, .l a14]) := (Lim_eq _ _).trans (by kernel_rfl)
theorem eqk_9 (a0 : Int) (a1 : Int) (a2 : Int) (a3 : Int) (a4 : Int) (a5 : Rw) (a6 : Rw) (a7 : Rw) (a8 : Int) (a9 : Int) (a10 : Int) (a11 : Int) (a12 : Rw) (a13 : Rw) (a14 : Rw) : Lqk (some 9) [.i a0, .i a1, .i a2, .i a3, .i a4, .l a5, .l a6, .l a7, .i a8, .i a9, .i a10, .i a11, .l a12, .l a13, .l a14] =
 cond (decide (a0 < (a6.length : Int))) (
 cond (inb a0 a6.length) (
 cond (inb a0 a13.length) (
 cond (!((Eng.seq ((rd a6 a0.toNat 0).str) ((rd a13 a0.toNat 0).str)) && ((Eng.seq ((rd a6 a0.toNat 1).str) ((rd a13 a0.toNat 1).str)) && true))) (
 some [.b false]) (
 Lqk (some 9) [.i (IntKind.i64.wrap (a0 + 1)), .i a1, .i a2, .i a3, .i a4, .l a5, .l a6, .l a7, .i a8, .i a9, .i a10, .i a11, .l a12, .l a13, .l a14])) (
 none)) (
 none)) (
 Lqk (some 14) [.i 0, .i a1, .i a2, .i a3, .i a4, .l a5, .l a6, .l a7, .i a8, .i a9, .i a10, .i a11, .l a12, .l a13, .l a14]) := (Lim_eq _ _).trans (by kernel_rfl)
theorem eqk_14 (a0 : Int) (a1 : Int) (a2 : Int) (a3 : Int) (a4 : Int) (a5 : Rw) (a6 : Rw) (a7 : Rw) (a8 : Int) (a9 : Int) (a10 : Int) (a11 : Int) (a12 : Rw) (a13 : Rw) (a14 : Rw) : Lqk (some 14) [.i a0, .i a1, .i a2, .i a3, .i a4, .l a5, .l a6, .l a7, .i a8, .i a9, .i a10, .i a11, .l a12, .l a13, .l a14] =
 cond (decide (a0 < (a7.length : Int))) (
 cond (inb a0 a7.length) (
 cond (inb a0 a14.length) (
 cond (!(((rd a7 a0.toNat 0).int == (rd a14 a0.toNat 0).int) && ((Eng.seq ((rd a7 a0.toNat 1).str) ((rd a14 a0.toNat 1).str)) && (((rd a7 a0.toNat 2).int == (rd a14 a0.toNat 2).int) && true)))) (
 some [.b false]) (
 Lqk (some 14) [.i (IntKind.i64.wrap (a0 + 1)), .i a1, .i a2, .i a3, .i a4, .l a5, .l a6, .l a7, .i a8, .i a9, .i a10, .i a11, .l a12, .l a13, .l a14])) (
 none)) (
 none)) (
 some [.b true]) := (Lim_eq _ _).trans (by kernel_rfl)
theorem kqk : SigOk Tryz.prog (dqk.sig (Lqk none)) ∧ (dqk.sig (Lqk none)).ok = true := sound_lim (known_cons kqca (by kernel_rfl) known_nil) (by kernel_rfl) (by kernel_rfl) (by kernel_rfl)
def dqr : FD := { fn := 91, nb := 0, pre := ⟨[.ag [.i .i64 0, .i .i64 1, .i .i64 2, .i .i64 3, .fz 90 false 4, .fz 156 false 5, .fz 158 false 6], .ag [.i .i64 7, .fz 9 false 8, .fz 9 false 9, .i .i64 10, .i .i64 11, .i .i64 12]], []⟩, post := ⟨[.sc (.b 0)], []⟩, sh := false, cuts := [⟨4, [2, 3, 5], ⟨[.sc (.pt 0 0), .sc (.pt 1 0), .sc (.i .i64 0)], [.bx [.i .i64 1, .i .i64 2, .i .i64 3, .i .i64 4, .fz 90 false 5, .fz 156 false 6, .fz 158 false 7], .bx [.i .i64 8, .fz 9 false 9, .fz 9 false 10, .i .i64 11, .i .i64 12, .i .i64 13]]⟩⟩, ⟨9, [2, 3, 6], ⟨[.sc (.pt 0 0), .sc (.pt 1 0), .sc (.i .i64 0)], [.bx [.i .i64 1, .i .i64 2, .i .i64 3, .i .i64 4, .fz 90 false 5, .fz 156 false 6, .fz 158 false 7], .bx [.i .i64 8, .fz 9 false 9, .fz 9 false 10, .i .i64 11, .i .i64 12, .i .i64 13]]⟩⟩] }
noncomputable def Lqr : Option Nat → Lv → Option Lv := Lim Tryz.prog [dqp.sig (Lqp none), dqy.sig (Lqy none)] dqr Tryz.f91
theorem eqr_i (a0 : Int) (a1 : Int) (a2 : Int) (a3 : Int) (a4 : Rw) (a5 : Rw) (a6 : Rw) (a7 : Int) (a8 : Rw) (a9 : Rw) (a10 : Int) (a11 : Int) (a12 : Int) : Lqr none [.i a0, .i a1, .i a2, .i a3, .l a4, .l a5, .l a6, .i a7, .l a8, .l a9, .i a10, .i a11, .i a12] =
 cond (decide (a7 < 0)) (
 some [.b false]) (
 cond (decide (2 < a7)) (
 some [.b false]) (
 (Lqy none [.i a12, .i 0, .i 1000000000]).bind fun y1 =>
 cond (!(g y1 0).bool) (
 some [.b false]) (
 cond (decide (23200 < (a8.length : Int))) (
 some [.b false]) (
 cond (decide (600 < (a9.length : Int))) (
 some [.b false]) (
 Lqr (some 4) [.i 0, .i a0, .i a1, .i a2, .i a3, .l a4, .l a5, .l a6, .i a7, .l a8, .l a9, .i a10, .i a11, .i a12]))))) := (Lim_eq _ _).trans (by kernel_rfl)
theorem eqr_4 (a0 : Int) (a1 : Int) (a2 : Int) (a3 : Int) (a4 : Int) (a5 : Rw) (a6 : Rw) (a7 : Rw) (a8 : Int) (a9 : Rw) (a10 : Rw) (a11 : Int) (a12 : Int) (a13 : Int) : Lqr (some 4) [.i a0, .i a1, .i a2, .i a3, .i a4, .l a5, .l a6, .l a7, .i a8, .l a9, .l a10, .i a11, .i a12, .i a13] =
 cond (decide (a0 < (a9.length : Int))) (
 cond (inb a0 a9.length) (
 cond ((((rd a9 a0.toNat 0).str).size : Int) != a1) (
 some [.b false]) (
 Lqr (some 4) [.i (IntKind.i64.wrap (a0 + 1)), .i a1, .i a2, .i a3, .i a4, .l a5, .l a6, .l a7, .i a8, .l a9, .l a10, .i a11, .i a12, .i a13])) (
 none)) (
 Lqr (some 9) [.i 0, .i a1, .i a2, .i a3, .i a4, .l a5, .l a6, .l a7, .i a8, .l a9, .l a10, .i a11, .i a12, .i a13]) := (Lim_eq _ _).trans (by kernel_rfl)
theorem eqr_9 (a0 : Int) (a1 : Int) (a2 : Int) (a3 : Int) (a4 : Int) (a5 : Rw) (a6 : Rw) (a7 : Rw) (a8 : Int) (a9 : Rw) (a10 : Rw) (a11 : Int) (a12 : Int) (a13 : Int) : Lqr (some 9) [.i a0, .i a1, .i a2, .i a3, .i a4, .l a5, .l a6, .l a7, .i a8, .l a9, .l a10, .i a11, .i a12, .i a13] =
 cond (decide (a0 < (a10.length : Int))) (
 cond (inb a0 a10.length) (
 cond ((((rd a10 a0.toNat 0).str).size : Int) != a1) (
 some [.b false]) (
 cond (decide (0 ≤ a0)) (
 cond (decide (a0 ≤ (a10.length : Int))) (
 cond (inb a0 a10.length) (
 (Lqp none [.l (Eng.sub a10 0 a0.toNat), .s ((rd a10 a0.toNat 0).str)]).bind fun y1 =>
 cond ((g y1 0).bool) (
 some [.b false]) (
 Lqr (some 9) [.i (IntKind.i64.wrap (a0 + 1)), .i a1, .i a2, .i a3, .i a4, .l a5, .l a6, .l a7, .i a8, .l a9, .l a10, .i a11, .i a12, .i a13])) (
 none)) (
 none)) (
 none))) (
 none)) (
 cond (a8 == 0) (
 cond ((a9.length : Int) == 0) (
 cond ((a10.length : Int) == 0) (
 cond (a11 == 0) (
 some [.b (a12 == 0)]) (
 some [.b false])) (
 some [.b false])) (
 some [.b false])) (
 (Lqy none [.i a11, .i 0, .i a4]).bind fun y2 =>
 cond (!(g y2 0).bool) (
 some [.b false]) (
 (Lqy none [.i a12, .i 1, .i (IntKind.i64.wrap (a11 + 1))]).bind fun y3 =>
 cond (!(g y3 0).bool) (
 some [.b false]) (
 cond (a8 == 2) (
 some [.b true]) (
 some [.b (a12 == (IntKind.i64.wrap (a11 + 1)))]))))) := (Lim_eq _ _).trans (by kernel_rfl)
theorem kqr : SigOk Tryz.prog (dqr.sig (Lqr none)) ∧ (dqr.sig (Lqr none)).ok = true := sound_lim (known_cons kqp (by kernel_rfl) (known_cons kqy (by kernel_rfl) known_nil)) (by kernel_rfl) (by kernel_rfl) (by kernel_rfl)
def dqbh : FD := { fn := 19, nb := 0, pre := ⟨[.ag [.i .i64 0, .i .i64 1, .fz 9 false 2, .fz 9 false 3, .i .i64 4, .i .i64 5, .i .i64 6, .i .i64 7, .fz 90 false 8, .fz 156 false 9, .fz 158 false 10, .i .i64 11, .fz 9 false 12, .fz 9 false 13, .i .i64 14, .i .i64 15, .i .i64 16]], []⟩, post := ⟨[.sc (.b 0)], []⟩, sh := false, cuts := [] }
noncomputable def Lqbh : Option Nat → Lv → Option Lv := Lim Tryz.prog [dqh.sig (Lqh none), dqb1.sig (Lqb1 none), dqy.sig (Lqy none), dqn.sig (Lqn none), dqcz.sig (Lqcz none), dqk.sig (Lqk none), dqr.sig (Lqr none)] dqbh Tryz.f19
theorem eqbh_i (a0 : Int) (a1 : Int) (a2 : Rw) (a3 : Rw) (a4 : Int) (a5 : Int) (a6 : Int) (a7 : Int) (a8 : Rw) (a9 : Rw) (a10 : Rw) (a11 : Int) (a12 : Rw) (a13 : Rw) (a14 : Int) (a15 : Int) (a16 : Int) : Lqbh none [.i a0, .i a1, .l a2, .l a3, .i a4, .i a5, .i a6, .i a7, .l a8, .l a9, .l a10, .i a11, .l a12, .l a13, .i a14, .i a15, .i a16] =
 (Lqh none [.i a0]).bind fun y1 =>
 cond (!(g y1 0).bool) (
 some [.b false]) (
 (Lqy none [.i a1, .i 0, .i 1000000]).bind fun y2 =>
 cond (!(g y2 0).bool) (
 some [.b false]) (
 (Lqn none [.l a2, .l a3]).bind fun y3 =>
 cond (!(g y3 0).bool) (
 some [.b false]) (
 (Lqcz none [.l a2, .l a3]).bind fun y4 =>
 (Lqb1 none [.i a0, .l ((g y4 0).list)]).bind fun y5 =>
 cond ((g y5 0).int == 0) (
 (Lqk none [.i ((g y5 1).int), .i ((g y5 2).int), .i ((g y5 3).int), .i ((g y5 4).int), .l ((g y5 9).list), .l ((g y5 10).list), .l ((g y5 11).list), .i a4, .i a5, .i a6, .i a7, .l a8, .l a9, .l a10]).bind fun y6 =>
 cond ((g y6 0).bool) (
 (Lqr none [.i a4, .i a5, .i a6, .i a7, .l a8, .l a9, .l a10, .i a11, .l a12, .l a13, .i a14, .i a15, .i a16]).bind fun y7 =>
 some [.b ((g y7 0).bool)]) (
 some [.b false])) (
 some [.b false])))) := (Lim_eq _ _).trans (by kernel_rfl)
theorem kqbh : SigOk Tryz.prog (dqbh.sig (Lqbh none)) ∧ (dqbh.sig (Lqbh none)).ok = true := sound_lim (known_cons kqh (by kernel_rfl) (known_cons kqb1 (by kernel_rfl) (known_cons kqy (by kernel_rfl) (known_cons kqn (by kernel_rfl) (known_cons kqcz (by kernel_rfl) (known_cons kqk (by kernel_rfl) (known_cons kqr (by kernel_rfl) known_nil))))))) (by kernel_rfl) (by kernel_rfl) (by kernel_rfl)
def dqc0 : FD := { fn := 206, nb := 0, pre := ⟨[.ag [.fz 9 false 0, .fz 9 false 1]], []⟩, post := ⟨[.ag [.ow 0, .ow 1]], [.rw 9 true 0, .rw 9 true 1]⟩, sh := false, cuts := [] }
noncomputable def Lqc0 : Option Nat → Lv → Option Lv := Lim Tryz.prog [] dqc0 Tryz.f206
theorem eqc0_i (a0 : Rw) (a1 : Rw) : Lqc0 none [.l a0, .l a1] =
 cond (decide (([] : Rw).length + a0.length ≤ most)) (
 cond (decide (([] : Rw).length + a1.length ≤ most)) (
 some [.l (([] : Rw) ++ a0), .l (([] : Rw) ++ a1)]) (
 none)) (
 none) := (Lim_eq _ _).trans (by kernel_rfl)
theorem kqc0 : SigOk Tryz.prog (dqc0.sig (Lqc0 none)) ∧ (dqc0.sig (Lqc0 none)).ok = true := sound_lim known_nil (by kernel_rfl) (by kernel_rfl) (by kernel_rfl)
def dqbi : FD := { fn := 207, nb := 0, pre := ⟨[.ag [.i .i64 0, .fz 9 false 1, .fz 9 false 2, .i .i64 3, .i .i64 4, .i .i64 5]], []⟩, post := ⟨[.ag [.i .i64 0, .ow 0, .ow 1, .i .i64 1, .i .i64 2, .i .i64 3]], [.rw 9 true 4, .rw 9 true 5]⟩, sh := false, cuts := [] }
noncomputable def Lqbi : Option Nat → Lv → Option Lv := Lim Tryz.prog [] dqbi Tryz.f207
theorem eqbi_i (a0 : Int) (a1 : Rw) (a2 : Rw) (a3 : Int) (a4 : Int) (a5 : Int) : Lqbi none [.i a0, .l a1, .l a2, .i a3, .i a4, .i a5] =
 cond (decide (([] : Rw).length + a1.length ≤ most)) (
 cond (decide (([] : Rw).length + a2.length ≤ most)) (
 some [.i a0, .i a3, .i a4, .i a5, .l (([] : Rw) ++ a1), .l (([] : Rw) ++ a2)]) (
 none)) (
 none) := (Lim_eq _ _).trans (by kernel_rfl)
theorem kqbi : SigOk Tryz.prog (dqbi.sig (Lqbi none)) ∧ (dqbi.sig (Lqbi none)).ok = true := sound_lim known_nil (by kernel_rfl) (by kernel_rfl) (by kernel_rfl)
def dqbv : FD := { fn := 156, nb := 0, pre := ⟨[.ag [.i .i64 0, .i .i64 1, .fz 9 false 2, .fz 9 false 3, .i .i64 4, .i .i64 5, .i .i64 6, .i .i64 7, .fz 90 false 8, .fz 156 false 9, .fz 158 false 10, .i .i64 11, .fz 9 false 12, .fz 9 false 13, .i .i64 14, .i .i64 15, .i .i64 16]], []⟩, post := ⟨[.ag [.i .i64 0, .i .i64 1, .ow 0, .ow 1, .i .i64 2, .i .i64 3, .i .i64 4, .i .i64 5, .ow 2, .ow 3, .ow 4, .i .i64 6, .ow 5, .ow 6, .i .i64 7, .i .i64 8, .i .i64 9]], [.rw 9 true 10, .rw 9 true 11, .rw 90 true 12, .rw 156 true 13, .rw 158 true 14, .rw 9 true 15, .rw 9 true 16]⟩, sh := false, cuts := [] }
noncomputable def Lqbv : Option Nat → Lv → Option Lv := Lim Tryz.prog [dqo.sig (Lqo none), dqc0.sig (Lqc0 none), dqbi.sig (Lqbi none)] dqbv Tryz.f156
theorem eqbv_i (a0 : Int) (a1 : Int) (a2 : Rw) (a3 : Rw) (a4 : Int) (a5 : Int) (a6 : Int) (a7 : Int) (a8 : Rw) (a9 : Rw) (a10 : Rw) (a11 : Int) (a12 : Rw) (a13 : Rw) (a14 : Int) (a15 : Int) (a16 : Int) : Lqbv none [.i a0, .i a1, .l a2, .l a3, .i a4, .i a5, .i a6, .i a7, .l a8, .l a9, .l a10, .i a11, .l a12, .l a13, .i a14, .i a15, .i a16] =
 (Lqc0 none [.l a2, .l a3]).bind fun y1 =>
 (Lqo none [.i a4, .i a5, .i a6, .i a7, .l a8, .l a9, .l a10]).bind fun y2 =>
 (Lqbi none [.i a11, .l a12, .l a13, .i a14, .i a15, .i a16]).bind fun y3 =>
 some [.i a0, .i a1, .i ((g y2 0).int), .i ((g y2 1).int), .i ((g y2 2).int), .i ((g y2 3).int), .i ((g y3 0).int), .i ((g y3 1).int), .i ((g y3 2).int), .i ((g y3 3).int), .l ((g y1 0).list), .l ((g y1 1).list), .l ((g y2 4).list), .l ((g y2 5).list), .l ((g y2 6).list), .l ((g y3 4).list), .l ((g y3 5).list)] := (Lim_eq _ _).trans (by kernel_rfl)
theorem kqbv : SigOk Tryz.prog (dqbv.sig (Lqbv none)) ∧ (dqbv.sig (Lqbv none)).ok = true := sound_lim (known_cons kqo (by kernel_rfl) (known_cons kqc0 (by kernel_rfl) (known_cons kqbi (by kernel_rfl) known_nil))) (by kernel_rfl) (by kernel_rfl) (by kernel_rfl)
def dqcb : FD := { fn := 202, nb := 0, pre := ⟨[.ag [.i .i64 0, .i .i64 1, .i .i64 2, .i .i64 3, .fz 90 false 4, .fz 156 false 5, .fz 158 false 6]], []⟩, post := ⟨[.sc (.i .i64 0)], []⟩, sh := false, cuts := [⟨3, [1, 3, 4], ⟨[.sc (.pt 0 0), .sc (.i .i64 0), .sc (.i .i64 1)], [.bx [.i .i64 2, .i .i64 3, .i .i64 4, .i .i64 5, .fz 90 false 6, .fz 156 false 7, .fz 158 false 8]]⟩⟩] }
noncomputable def Lqcb : Option Nat → Lv → Option Lv := Lim Tryz.prog [] dqcb Tryz.f202
theorem eqcb_i (a0 : Int) (a1 : Int) (a2 : Int) (a3 : Int) (a4 : Rw) (a5 : Rw) (a6 : Rw) : Lqcb none [.i a0, .i a1, .i a2, .i a3, .l a4, .l a5, .l a6] =
 Lqcb (some 3) [.i 0, .i 0, .i a0, .i a1, .i a2, .i a3, .l a4, .l a5, .l a6] := (Lim_eq _ _).trans (by kernel_rfl)
theorem eqcb_3 (a0 : Int) (a1 : Int) (a2 : Int) (a3 : Int) (a4 : Int) (a5 : Int) (a6 : Rw) (a7 : Rw) (a8 : Rw) : Lqcb (some 3) [.i a0, .i a1, .i a2, .i a3, .i a4, .i a5, .l a6, .l a7, .l a8] =
 cond (decide (a1 < (a6.length : Int))) (
 cond (inb a1 a6.length) (
 cond (inb a1 a6.length) (
 Lqcb (some 3) [.i (IntKind.i64.wrap ((IntKind.i64.wrap ((IntKind.i64.wrap (a0 + 1)) + (IntKind.i64.wrap ((((rd a6 a1.toNat 3).list).length : Int) * a2)))) + (((rd a6 a1.toNat 2).str).size : Int))), .i (IntKind.i64.wrap (a1 + 1)), .i a2, .i a3, .i a4, .i a5, .l a6, .l a7, .l a8]) (
 none)) (
 none)) (
 some [.i a0]) := (Lim_eq _ _).trans (by kernel_rfl)
theorem kqcb : SigOk Tryz.prog (dqcb.sig (Lqcb none)) ∧ (dqcb.sig (Lqcb none)).ok = true := sound_lim known_nil (by kernel_rfl) (by kernel_rfl) (by kernel_rfl)
def dqc8 : FD := { fn := 203, nb := 0, pre := ⟨[.ag [.i .i64 0, .i .i64 1, .i .i64 2, .i .i64 3, .fz 90 false 4, .fz 156 false 5, .fz 158 false 6], .ag [.i .i64 7, .fz 9 false 8, .fz 9 false 9, .i .i64 10, .i .i64 11, .i .i64 12], .sc (.s 13)], []⟩, post := ⟨[.ag [.i .i64 0, .ow 0, .ow 1, .i .i64 1, .i .i64 2, .i .i64 3]], [.rw 9 true 4, .rw 9 true 5]⟩, sh := false, cuts := [] }
noncomputable def Lqc8 : Option Nat → Lv → Option Lv := Lim Tryz.prog [dqg.sig (Lqg none), dqp.sig (Lqp none), dqbi.sig (Lqbi none)] dqc8 Tryz.f203
theorem eqc8_i (a0 : Int) (a1 : Int) (a2 : Int) (a3 : Int) (a4 : Rw) (a5 : Rw) (a6 : Rw) (a7 : Int) (a8 : Rw) (a9 : Rw) (a10 : Int) (a11 : Int) (a12 : Int) (a13 : ByteArray) : Lqc8 none [.i a0, .i a1, .i a2, .i a3, .l a4, .l a5, .l a6, .i a7, .l a8, .l a9, .i a10, .i a11, .i a12, .s a13] =
 cond (a7 == 0) (
 (Lqbi none [.i a7, .l a8, .l a9, .i a10, .i a11, .i a12]).bind fun y1 =>
 some [.i ((g y1 0).int), .i ((g y1 1).int), .i ((g y1 2).int), .i ((g y1 3).int), .l ((g y1 4).list), .l ((g y1 5).list)]) (
 (Lqg none [.i a0, .i a1, .i a2, .i a3, .l a4, .l a5, .l a6, .s a13]).bind fun y2 =>
 cond (decide ((g y2 0).int < 0)) (
 (Lqbi none [.i a7, .l a8, .l a9, .i a10, .i a11, .i a12]).bind fun y3 =>
 some [.i ((g y3 0).int), .i ((g y3 1).int), .i ((g y3 2).int), .i ((g y3 3).int), .l ((g y3 4).list), .l ((g y3 5).list)]) (
 (Lqp none [.l a9, .s a13]).bind fun y4 =>
 cond ((g y4 0).bool) (
 (Lqbi none [.i a7, .l a8, .l a9, .i a10, .i a11, .i a12]).bind fun y5 =>
 some [.i ((g y5 0).int), .i ((g y5 1).int), .i ((g y5 2).int), .i ((g y5 3).int), .l ((g y5 4).list), .l ((g y5 5).list)]) (
 cond (decide (23200 ≤ (a8.length : Int))) (
 (Lqbi none [.i a7, .l a8, .l a9, .i a10, .i a11, .i a12]).bind fun y6 =>
 some [.i ((g y6 0).int), .i ((g y6 1).int), .i ((g y6 2).int), .i ((g y6 3).int), .l ((g y6 4).list), .l ((g y6 5).list)]) (
 (Lqbi none [.i a7, .l a8, .l a9, .i a10, .i a11, .i a12]).bind fun y7 =>
 cond (decide (((g y7 4).list).length + ([[.s a13]] : Rw).length ≤ most)) (
 some [.i ((g y7 0).int), .i ((g y7 1).int), .i ((g y7 2).int), .i ((g y7 3).int), .l ((g y7 4).list ++ ([[.s a13]] : Rw)), .l ((g y7 5).list)]) (
 none))))) := (Lim_eq _ _).trans (by kernel_rfl)
theorem kqc8 : SigOk Tryz.prog (dqc8.sig (Lqc8 none)) ∧ (dqc8.sig (Lqc8 none)).ok = true := sound_lim (known_cons kqg (by kernel_rfl) (known_cons kqp (by kernel_rfl) (known_cons kqbi (by kernel_rfl) known_nil))) (by kernel_rfl) (by kernel_rfl) (by kernel_rfl)
end KV
end
section
set_option maxRecDepth 100000
namespace KV
open Go Go.Eng Go.Proofs
def dql : FD := { fn := 147, nb := 0, pre := ⟨[.ag [.i .i64 0, .i .i64 1, .fz 9 false 2, .fz 9 false 3, .i .i64 4, .i .i64 5, .i .i64 6, .i .i64 7, .fz 90 false 8, .fz 156 false 9, .fz 158 false 10, .i .i64 11, .fz 9 false 12, .fz 9 false 13, .i .i64 14, .i .i64 15, .i .i64 16], .ag [.i .i64 17, .s 18, .s 19, .i .i64 20, .s 21, .fz 9 false 22]], []⟩, post := ⟨[.ag [.i .i64 0, .i .i64 1, .i .i64 2, .ow 0, .ow 1, .i .i64 3, .i .i64 4, .i .i64 5, .i .i64 6, .ow 2, .ow 3, .ow 4, .i .i64 7, .ow 5, .ow 6, .i .i64 8, .i .i64 9, .i .i64 10, .s 11, .i .i64 12, .s 13, .s 14]], [.rw 9 true 15, .rw 9 true 16, .rw 90 true 17, .rw 156 true 18, .rw 158 true 19, .rw 9 true 20, .rw 9 true 21]⟩, sh := false, cuts := [⟨25, [4, 6, 7, 8], ⟨[.sc (.pt 0 0), .sc (.pt 1 0), .sc (.pt 2 0), .sc (.s 0)], [.bx [.i .i64 1, .i .i64 2, .i .i64 3, .ow 11, .ow 12, .i .i64 4, .i .i64 5, .i .i64 6, .i .i64 7, .ow 13, .ow 14, .ow 15, .i .i64 8, .ow 16, .ow 17, .i .i64 9, .i .i64 10, .i .i64 11, .s 12, .i .i64 13, .s 14, .s 15], .bx [.i .i64 16, .i .i64 17, .i .i64 18, .i .i64 19, .i .i64 20, .fz 90 false 21, .fz 156 false 22, .ow 3, .s 23, .i .i64 24, .s 25, .s 26], .bx [.i .i64 27, .i .i64 28, .ow 4, .ow 5, .i .i64 29, .i .i64 30, .i .i64 31, .i .i64 32, .ow 6, .ow 7, .ow 8, .i .i64 33, .ow 9, .ow 10, .i .i64 34, .i .i64 35, .i .i64 36], .rw 158 false 37, .rw 9 true 38, .rw 9 true 39, .rw 90 true 40, .rw 156 true 41, .rw 158 true 42, .rw 9 true 43, .rw 9 true 44, .rw 9 true 45, .rw 9 true 46, .rw 90 true 47, .rw 156 true 48, .rw 158 true 49, .rw 9 true 50, .rw 9 true 51]⟩⟩] }
noncomputable def Lql : Option Nat → Lv → Option Lv := Lim Tryz.prog [dqv.sig (Lqv none), dqw.sig (Lqw none), dqo.sig (Lqo none), dqct.sig (Lqct none), dqbh.sig (Lqbh none), dqbv.sig (Lqbv none), dqcb.sig (Lqcb none), dqc8.sig (Lqc8 none)] dql Tryz.f147
theorem eql_i (a0 : Int) (a1 : Int) (a2 : Rw) (a3 : Rw) (a4 : Int) (a5 : Int) (a6 : Int) (a7 : Int) (a8 : Rw) (a9 : Rw) (a10 : Rw) (a11 : Int) (a12 : Rw) (a13 : Rw) (a14 : Int) (a15 : Int) (a16 : Int) (a17 : Int) (a18 : ByteArray) (a19 : ByteArray) (a20 : Int) (a21 : ByteArray) (a22 : Rw) : Lql none [.i a0, .i a1, .l a2, .l a3, .i a4, .i a5, .i a6, .i a7, .l a8, .l a9, .l a10, .i a11, .l a12, .l a13, .i a14, .i a15, .i a16, .i a17, .s a18, .s a19, .i a20, .s a21, .l a22] =
 (Lqbh none [.i a0, .i a1, .l a2, .l a3, .i a4, .i a5, .i a6, .i a7, .l a8, .l a9, .l a10, .i a11, .l a12, .l a13, .i a14, .i a15, .i a16]).bind fun y1 =>
 cond (!(g y1 0).bool) (
 some [.i 1, .i 0, .i 0, .i 0, .i 0, .i 0, .i 0, .i 0, .i 0, .i 0, .i 0, .s (⟨#[]⟩ : ByteArray), .i 0, .s (⟨#[]⟩ : ByteArray), .s (⟨#[]⟩ : ByteArray), .l [], .l [], .l [], .l [], .l [], .l [], .l []]) (
 (Lqbv none [.i a0, .i a1, .l a2, .l a3, .i a4, .i a5, .i a6, .i a7, .l a8, .l a9, .l a10, .i a11, .l a12, .l a13, .i a14, .i a15, .i a16]).bind fun y2 =>
 (Lqv none [.i a17, .s a18, .s a19, .i a20, .s a21, .l a22, .i a0]).bind fun y3 =>
 cond (!(g y3 0).bool) (
 some [.i 1, .i ((g y2 0).int), .i ((g y2 1).int), .i ((g y2 2).int), .i ((g y2 3).int), .i ((g y2 4).int), .i ((g y2 5).int), .i ((g y2 6).int), .i ((g y2 7).int), .i ((g y2 8).int), .i ((g y2 9).int), .s (⟨#[]⟩ : ByteArray), .i 0, .s (⟨#[]⟩ : ByteArray), .s (⟨#[]⟩ : ByteArray), .l ((g y2 10).list), .l ((g y2 11).list), .l ((g y2 12).list), .l ((g y2 13).list), .l ((g y2 14).list), .l ((g y2 15).list), .l ((g y2 16).list)]) (
 (Lqo none [.i a4, .i a5, .i a6, .i a7, .l a8, .l a9, .l a10]).bind fun y4 =>
 (Lqct none [.i ((g y4 0).int), .i ((g y4 1).int), .i ((g y4 2).int), .i ((g y4 3).int), .l ((g y4 4).list), .l ((g y4 5).list), .i a17, .s a18, .s a19, .i a20, .s a21, .l a22, .l ((g y4 6).list)]).bind fun y5 =>
 cond ((g y5 0).int != 0) (
 some [.i ((g y5 0).int), .i ((g y2 0).int), .i ((g y2 1).int), .i ((g y2 2).int), .i ((g y2 3).int), .i ((g y2 4).int), .i ((g y2 5).int), .i ((g y2 6).int), .i ((g y2 7).int), .i ((g y2 8).int), .i ((g y2 9).int), .s (⟨#[]⟩ : ByteArray), .i 0, .s ((g y5 9).str), .s ((g y5 10).str), .l ((g y2 10).list), .l ((g y2 11).list), .l ((g y2 12).list), .l ((g y2 13).list), .l ((g y2 14).list), .l ((g y2 15).list), .l ((g y2 16).list)]) (
 cond (a17 == 1) (
 (Lqcb none [.i ((g y5 1).int), .i ((g y5 2).int), .i ((g y5 3).int), .i ((g y5 4).int), .l ((g y5 5).list), .l ((g y5 6).list), .l ((g y5 11).list)]).bind fun y6 =>
 cond (decide (a1 < (g y6 0).int)) (
 some [.i 8, .i ((g y2 0).int), .i ((g y2 1).int), .i ((g y2 2).int), .i ((g y2 3).int), .i ((g y2 4).int), .i ((g y2 5).int), .i ((g y2 6).int), .i ((g y2 7).int), .i ((g y2 8).int), .i ((g y2 9).int), .s (⟨#[]⟩ : ByteArray), .i 0, .s (⟨#[]⟩ : ByteArray), .s (⟨#[]⟩ : ByteArray), .l ((g y2 10).list), .l ((g y2 11).list), .l ((g y2 12).list), .l ((g y2 13).list), .l ((g y2 14).list), .l ((g y2 15).list), .l ((g y2 16).list)]) (
 cond (decide (4000 ≤ (IntKind.i64.wrap ((a2.length : Int) + (a3.length : Int))))) (
 some [.i 9, .i ((g y2 0).int), .i ((g y2 1).int), .i ((g y2 2).int), .i ((g y2 3).int), .i ((g y2 4).int), .i ((g y2 5).int), .i ((g y2 6).int), .i ((g y2 7).int), .i ((g y2 8).int), .i ((g y2 9).int), .s (⟨#[]⟩ : ByteArray), .i 0, .s (⟨#[]⟩ : ByteArray), .s (⟨#[]⟩ : ByteArray), .l ((g y2 10).list), .l ((g y2 11).list), .l ((g y2 12).list), .l ((g y2 13).list), .l ((g y2 14).list), .l ((g y2 15).list), .l ((g y2 16).list)]) (
 (Lqbv none [.i a0, .i a1, .l a2, .l a3, .i a4, .i a5, .i a6, .i a7, .l a8, .l a9, .l a10, .i a11, .l a12, .l a13, .i a14, .i a15, .i a16]).bind fun y7 =>
 (Lqw none [.i a17, .s a18, .s a19, .i a20, .s a21, .l a22, .i a0]).bind fun y8 =>
 cond (decide (((g y7 11).list).length + ([[.s ((g y8 0).str)]] : Rw).length ≤ most)) (
 (Lqo none [.i ((g y5 1).int), .i ((g y5 2).int), .i ((g y5 3).int), .i ((g y5 4).int), .l ((g y5 5).list), .l ((g y5 6).list), .l ((g y5 11).list)]).bind fun y9 =>
 cond (a17 == 1) (
 Lql (some 25) [.s ((g y5 7).str), .i 0, .i 0, .i 0, .i 0, .i 0, .i 0, .i 0, .i 0, .i 0, .i 0, .i 0, .s (⟨#[]⟩ : ByteArray), .i 0, .s (⟨#[]⟩ : ByteArray), .s (⟨#[]⟩ : ByteArray), .i ((g y5 0).int), .i ((g y5 1).int), .i ((g y5 2).int), .i ((g y5 3).int), .i ((g y5 4).int), .l ((g y5 5).list), .l ((g y5 6).list), .s ((g y5 7).str), .i ((g y5 8).int), .s ((g y5 9).str), .s ((g y5 10).str), .i ((g y7 0).int), .i ((g y7 1).int), .i ((g y9 0).int), .i ((g y9 1).int), .i ((g y9 2).int), .i ((g y9 3).int), .i ((g y7 6).int), .i ((g y7 7).int), .i ((g y7 8).int), .i ((g y7 9).int), .l ((g y5 11).list), .l ((g y7 10).list), .l ((g y7 11).list ++ ([[.s ((g y8 0).str)]] : Rw)), .l ((g y9 4).list), .l ((g y9 5).list), .l ((g y9 6).list), .l ((g y7 15).list), .l ((g y7 16).list), .l [], .l [], .l [], .l [], .l [], .l [], .l []]) (
 Lql (some 25) [.s a18, .i 0, .i 0, .i 0, .i 0, .i 0, .i 0, .i 0, .i 0, .i 0, .i 0, .i 0, .s (⟨#[]⟩ : ByteArray), .i 0, .s (⟨#[]⟩ : ByteArray), .s (⟨#[]⟩ : ByteArray), .i ((g y5 0).int), .i ((g y5 1).int), .i ((g y5 2).int), .i ((g y5 3).int), .i ((g y5 4).int), .l ((g y5 5).list), .l ((g y5 6).list), .s ((g y5 7).str), .i ((g y5 8).int), .s ((g y5 9).str), .s ((g y5 10).str), .i ((g y7 0).int), .i ((g y7 1).int), .i ((g y9 0).int), .i ((g y9 1).int), .i ((g y9 2).int), .i ((g y9 3).int), .i ((g y7 6).int), .i ((g y7 7).int), .i ((g y7 8).int), .i ((g y7 9).int), .l ((g y5 11).list), .l ((g y7 10).list), .l ((g y7 11).list ++ ([[.s ((g y8 0).str)]] : Rw)), .l ((g y9 4).list), .l ((g y9 5).list), .l ((g y9 6).list), .l ((g y7 15).list), .l ((g y7 16).list), .l [], .l [], .l [], .l [], .l [], .l [], .l []])) (
 none)))) (
 cond (decide (4000 ≤ (IntKind.i64.wrap ((a2.length : Int) + (a3.length : Int))))) (
 some [.i 9, .i ((g y2 0).int), .i ((g y2 1).int), .i ((g y2 2).int), .i ((g y2 3).int), .i ((g y2 4).int), .i ((g y2 5).int), .i ((g y2 6).int), .i ((g y2 7).int), .i ((g y2 8).int), .i ((g y2 9).int), .s (⟨#[]⟩ : ByteArray), .i 0, .s (⟨#[]⟩ : ByteArray), .s (⟨#[]⟩ : ByteArray), .l ((g y2 10).list), .l ((g y2 11).list), .l ((g y2 12).list), .l ((g y2 13).list), .l ((g y2 14).list), .l ((g y2 15).list), .l ((g y2 16).list)]) (
 (Lqbv none [.i a0, .i a1, .l a2, .l a3, .i a4, .i a5, .i a6, .i a7, .l a8, .l a9, .l a10, .i a11, .l a12, .l a13, .i a14, .i a15, .i a16]).bind fun y10 =>
 (Lqw none [.i a17, .s a18, .s a19, .i a20, .s a21, .l a22, .i a0]).bind fun y11 =>
 cond (decide (((g y10 11).list).length + ([[.s ((g y11 0).str)]] : Rw).length ≤ most)) (
 (Lqo none [.i ((g y5 1).int), .i ((g y5 2).int), .i ((g y5 3).int), .i ((g y5 4).int), .l ((g y5 5).list), .l ((g y5 6).list), .l ((g y5 11).list)]).bind fun y12 =>
 cond (a17 == 1) (
 Lql (some 25) [.s ((g y5 7).str), .i 0, .i 0, .i 0, .i 0, .i 0, .i 0, .i 0, .i 0, .i 0, .i 0, .i 0, .s (⟨#[]⟩ : ByteArray), .i 0, .s (⟨#[]⟩ : ByteArray), .s (⟨#[]⟩ : ByteArray), .i ((g y5 0).int), .i ((g y5 1).int), .i ((g y5 2).int), .i ((g y5 3).int), .i ((g y5 4).int), .l ((g y5 5).list), .l ((g y5 6).list), .s ((g y5 7).str), .i ((g y5 8).int), .s ((g y5 9).str), .s ((g y5 10).str), .i ((g y10 0).int), .i ((g y10 1).int), .i ((g y12 0).int), .i ((g y12 1).int), .i ((g y12 2).int), .i ((g y12 3).int), .i ((g y10 6).int), .i ((g y10 7).int), .i ((g y10 8).int), .i ((g y10 9).int), .l ((g y5 11).list), .l ((g y10 10).list), .l ((g y10 11).list ++ ([[.s ((g y11 0).str)]] : Rw)), .l ((g y12 4).list), .l ((g y12 5).list), .l ((g y12 6).list), .l ((g y10 15).list), .l ((g y10 16).list), .l [], .l [], .l [], .l [], .l [], .l [], .l []]) (
 Lql (some 25) [.s a18, .i 0, .i 0, .i 0, .i 0, .i 0, .i 0, .i 0, .i 0, .i 0, .i 0, .i 0, .s (⟨#[]⟩ : ByteArray), .i 0, .s (⟨#[]⟩ : ByteArray), .s (⟨#[]⟩ : ByteArray), .i ((g y5 0).int), .i ((g y5 1).int), .i ((g y5 2).int), .i ((g y5 3).int), .i ((g y5 4).int), .l ((g y5 5).list), .l ((g y5 6).list), .s ((g y5 7).str), .i ((g y5 8).int), .s ((g y5 9).str), .s ((g y5 10).str), .i ((g y10 0).int), .i ((g y10 1).int), .i ((g y12 0).int), .i ((g y12 1).int), .i ((g y12 2).int), .i ((g y12 3).int), .i ((g y10 6).int), .i ((g y10 7).int), .i ((g y10 8).int), .i ((g y10 9).int), .l ((g y5 11).list), .l ((g y10 10).list), .l ((g y10 11).list ++ ([[.s ((g y11 0).str)]] : Rw)), .l ((g y12 4).list), .l ((g y12 5).list), .l ((g y12 6).list), .l ((g y10 15).list), .l ((g y10 16).list), .l [], .l [], .l [], .l [], .l [], .l [], .l []])) (
 none)))))) := (Lim_eq _ _).trans (by kernel_rfl)
theorem eql_25 (a0 : ByteArray) (a1 : Int) (a2 : Int) (a3 : Int) (a4 : Int) (a5 : Int) (a6 : Int) (a7 : Int) (a8 : Int) (a9 : Int) (a10 : Int) (a11 : Int) (a12 : ByteArray) (a13 : Int) (a14 : ByteArray) (a15 : ByteArray) (a16 : Int) (a17 : Int) (a18 : Int) (a19 : Int) (a20 : Int) (a21 : Rw) (a22 : Rw) (a23 : ByteArray) (a24 : Int) (a25 : ByteArray) (a26 : ByteArray) (a27 : Int) (a28 : Int) (a29 : Int) (a30 : Int) (a31 : Int) (a32 : Int) (a33 : Int) (a34 : Int) (a35 : Int) (a36 : Int) (a37 : Rw) (a38 : Rw) (a39 : Rw) (a40 : Rw) (a41 : Rw) (a42 : Rw) (a43 : Rw) (a44 : Rw) (a45 : Rw) (a46 : Rw) (a47 : Rw) (a48 : Rw) (a49 : Rw) (a50 : Rw) (a51 : Rw) : Lql (some 25) [.s a0, .i a1, .i a2, .i a3, .i a4, .i a5, .i a6, .i a7, .i a8, .i a9, .i a10, .i a11, .s a12, .i a13, .s a14, .s a15, .i a16, .i a17, .i a18, .i a19, .i a20, .l a21, .l a22, .s a23, .i a24, .s a25, .s a26, .i a27, .i a28, .i a29, .i a30, .i a31, .i a32, .i a33, .i a34, .i a35, .i a36, .l a37, .l a38, .l a39, .l a40, .l a41, .l a42, .l a43, .l a44, .l a45, .l a46, .l a47, .l a48, .l a49, .l a50, .l a51] =
 cond (!Eng.seq a0 (⟨#[]⟩ : ByteArray)) (
 (Lqc8 none [.i a29, .i a30, .i a31, .i a32, .l a40, .l a41, .l a42, .i a33, .l a43, .l a44, .i a34, .i a35, .i a36, .s a0]).bind fun y1 =>
 some [.i 0, .i a27, .i a28, .i a29, .i a30, .i a31, .i a32, .i ((g y1 0).int), .i ((g y1 1).int), .i ((g y1 2).int), .i ((g y1 3).int), .s a23, .i a24, .s (⟨#[]⟩ : ByteArray), .s (⟨#[]⟩ : ByteArray), .l a38, .l a39, .l a40, .l a41, .l a42, .l ((g y1 4).list), .l ((g y1 5).list)]) (
 some [.i 0, .i a27, .i a28, .i a29, .i a30, .i a31, .i a32, .i a33, .i a34, .i a35, .i a36, .s a23, .i a24, .s (⟨#[]⟩ : ByteArray), .s (⟨#[]⟩ : ByteArray), .l a38, .l a39, .l a40, .l a41, .l a42, .l a43, .l a44]) := (Lim_eq _ _).trans (by kernel_rfl)
theorem kql : SigOk Tryz.prog (dql.sig (Lql none)) ∧ (dql.sig (Lql none)).ok = true := sound_lim (known_cons kqv (by kernel_rfl) (known_cons kqw (by kernel_rfl) (known_cons kqo (by kernel_rfl) (known_cons kqct (by kernel_rfl) (known_cons kqbh (by kernel_rfl) (known_cons kqbv (by kernel_rfl) (known_cons kqcb (by kernel_rfl) (known_cons kqc8 (by kernel_rfl) known_nil)))))))) (by kernel_rfl) (by kernel_rfl) (by kernel_rfl)
def dqcj : FD := { fn := 61, nb := 0, pre := ⟨[.ag [.i .i64 0, .i .i64 1, .fz 9 false 2, .fz 9 false 3, .i .i64 4, .i .i64 5, .i .i64 6, .i .i64 7, .fz 90 false 8, .fz 156 false 9, .fz 158 false 10, .i .i64 11, .fz 9 false 12, .fz 9 false 13, .i .i64 14, .i .i64 15, .i .i64 16], .ag [.s 17, .fz 9 false 18], .sc (.i .i64 19)], []⟩, post := ⟨[.ag [.i .i64 0, .i .i64 1, .i .i64 2, .ow 0, .ow 1, .i .i64 3, .i .i64 4, .i .i64 5, .i .i64 6, .ow 2, .ow 3, .ow 4, .i .i64 7, .ow 5, .ow 6, .i .i64 8, .i .i64 9, .i .i64 10, .s 11, .i .i64 12, .s 13, .s 14]], [.rw 9 true 15, .rw 9 true 16, .rw 90 true 17, .rw 156 true 18, .rw 158 true 19, .rw 9 true 20, .rw 9 true 21]⟩, sh := false, cuts := [] }
noncomputable def Lqcj : Option Nat → Lv → Option Lv := Lim Tryz.prog [dqbu.sig (Lqbu none), dql.sig (Lql none)] dqcj Tryz.f61
theorem eqcj_i (a0 : Int) (a1 : Int) (a2 : Rw) (a3 : Rw) (a4 : Int) (a5 : Int) (a6 : Int) (a7 : Int) (a8 : Rw) (a9 : Rw) (a10 : Rw) (a11 : Int) (a12 : Rw) (a13 : Rw) (a14 : Int) (a15 : Int) (a16 : Int) (a17 : ByteArray) (a18 : Rw) (a19 : Int) : Lqcj none [.i a0, .i a1, .l a2, .l a3, .i a4, .i a5, .i a6, .i a7, .l a8, .l a9, .l a10, .i a11, .l a12, .l a13, .i a14, .i a15, .i a16, .s a17, .l a18, .i a19] =
 (Lqbu none [.s a17, .l a18]).bind fun y1 =>
 (Lql none [.i a0, .i a1, .l a2, .l a3, .i a4, .i a5, .i a6, .i a7, .l a8, .l a9, .l a10, .i a11, .l a12, .l a13, .i a14, .i a15, .i a16, .i 1, .s (⟨#[]⟩ : ByteArray), .s (⟨#[]⟩ : ByteArray), .i a19, .s ((g y1 0).str), .l ((g y1 1).list)]).bind fun y2 =>
 some [.i ((g y2 0).int), .i ((g y2 1).int), .i ((g y2 2).int), .i ((g y2 3).int), .i ((g y2 4).int), .i ((g y2 5).int), .i ((g y2 6).int), .i ((g y2 7).int), .i ((g y2 8).int), .i ((g y2 9).int), .i ((g y2 10).int), .s ((g y2 11).str), .i ((g y2 12).int), .s ((g y2 13).str), .s ((g y2 14).str), .l ((g y2 15).list), .l ((g y2 16).list), .l ((g y2 17).list), .l ((g y2 18).list), .l ((g y2 19).list), .l ((g y2 20).list), .l ((g y2 21).list)] := (Lim_eq _ _).trans (by kernel_rfl)
theorem kqcj : SigOk Tryz.prog (dqcj.sig (Lqcj none)) ∧ (dqcj.sig (Lqcj none)).ok = true := sound_lim (known_cons kqbu (by kernel_rfl) (known_cons kql (by kernel_rfl) known_nil)) (by kernel_rfl) (by kernel_rfl) (by kernel_rfl)
def dqck : FD := { fn := 63, nb := 0, pre := ⟨[.ag [.i .i64 0, .i .i64 1, .fz 9 false 2, .fz 9 false 3, .i .i64 4, .i .i64 5, .i .i64 6, .i .i64 7, .fz 90 false 8, .fz 156 false 9, .fz 158 false 10, .i .i64 11, .fz 9 false 12, .fz 9 false 13, .i .i64 14, .i .i64 15, .i .i64 16], .sc (.s 17), .sc (.s 18)], []⟩, post := ⟨[.ag [.i .i64 0, .i .i64 1, .i .i64 2, .ow 0, .ow 1, .i .i64 3, .i .i64 4, .i .i64 5, .i .i64 6, .ow 2, .ow 3, .ow 4, .i .i64 7, .ow 5, .ow 6, .i .i64 8, .i .i64 9, .i .i64 10, .s 11, .i .i64 12, .s 13, .s 14]], [.rw 9 true 15, .rw 9 true 16, .rw 90 true 17, .rw 156 true 18, .rw 158 true 19, .rw 9 true 20, .rw 9 true 21]⟩, sh := false, cuts := [] }
noncomputable def Lqck : Option Nat → Lv → Option Lv := Lim Tryz.prog [dql.sig (Lql none)] dqck Tryz.f63
theorem eqck_i (a0 : Int) (a1 : Int) (a2 : Rw) (a3 : Rw) (a4 : Int) (a5 : Int) (a6 : Int) (a7 : Int) (a8 : Rw) (a9 : Rw) (a10 : Rw) (a11 : Int) (a12 : Rw) (a13 : Rw) (a14 : Int) (a15 : Int) (a16 : Int) (a17 : ByteArray) (a18 : ByteArray) : Lqck none [.i a0, .i a1, .l a2, .l a3, .i a4, .i a5, .i a6, .i a7, .l a8, .l a9, .l a10, .i a11, .l a12, .l a13, .i a14, .i a15, .i a16, .s a17, .s a18] =
 (Lql none [.i a0, .i a1, .l a2, .l a3, .i a4, .i a5, .i a6, .i a7, .l a8, .l a9, .l a10, .i a11, .l a12, .l a13, .i a14, .i a15, .i a16, .i 2, .s a18, .s a17, .i 0, .s (⟨#[]⟩ : ByteArray), .l ([])]).bind fun y1 =>
 some [.i ((g y1 0).int), .i ((g y1 1).int), .i ((g y1 2).int), .i ((g y1 3).int), .i ((g y1 4).int), .i ((g y1 5).int), .i ((g y1 6).int), .i ((g y1 7).int), .i ((g y1 8).int), .i ((g y1 9).int), .i ((g y1 10).int), .s ((g y1 11).str), .i ((g y1 12).int), .s ((g y1 13).str), .s ((g y1 14).str), .l ((g y1 15).list), .l ((g y1 16).list), .l ((g y1 17).list), .l ((g y1 18).list), .l ((g y1 19).list), .l ((g y1 20).list), .l ((g y1 21).list)] := (Lim_eq _ _).trans (by kernel_rfl)
theorem kqck : SigOk Tryz.prog (dqck.sig (Lqck none)) ∧ (dqck.sig (Lqck none)).ok = true := sound_lim (known_cons kql (by kernel_rfl) known_nil) (by kernel_rfl) (by kernel_rfl) (by kernel_rfl)
def dqbf : FD := { fn := 56, nb := 0, pre := ⟨[.sc (.fz 9 false 0), .sc (.fz 9 false 1)], []⟩, post := ⟨[.sc (.b 0)], []⟩, sh := false, cuts := [⟨4, [0, 1, 5], ⟨[.sc (.fz 9 false 0), .sc (.fz 9 false 1), .sc (.i .i64 2)], []⟩⟩] }
noncomputable def Lqbf : Option Nat → Lv → Option Lv := Lim Tryz.prog [] dqbf Tryz.f56
theorem eqbf_i (a0 : Rw) (a1 : Rw) : Lqbf none [.l a0, .l a1] =
 cond ((a0.length : Int) != (a1.length : Int)) (
 some [.b false]) (
 Lqbf (some 4) [.l a0, .l a1, .i 0]) := (Lim_eq _ _).trans (by kernel_rfl)
theorem eqbf_4 (a0 : Rw) (a1 : Rw) (a2 : Int) : Lqbf (some 4) [.l a0, .l a1, .i a2] =
 cond (decide (a2 < (a0.length : Int))) (
 cond (inb a2 a0.length) (
 cond (inb a2 a1.length) (
 cond (!Eng.seq ((rd a0 a2.toNat 0).str) ((rd a1 a2.toNat 0).str)) (
 some [.b false]) (
 Lqbf (some 4) [.l a0, .l a1, .i (IntKind.i64.wrap (a2 + 1))])) (
 none)) (
 none)) (
 some [.b true]) := (Lim_eq _ _).trans (by kernel_rfl)
theorem kqbf : SigOk Tryz.prog (dqbf.sig (Lqbf none)) ∧ (dqbf.sig (Lqbf none)).ok = true := sound_lim known_nil (by kernel_rfl) (by kernel_rfl) (by kernel_rfl)
def dqc1 : FD := { fn := 65, nb := 0, pre := ⟨[.ag [.s 0, .fz 9 false 1], .ag [.s 2, .fz 9 false 3]], []⟩, post := ⟨[.sc (.b 0)], []⟩, sh := false, cuts := [] }
noncomputable def Lqc1 : Option Nat → Lv → Option Lv := Lim Tryz.prog [dqbf.sig (Lqbf none)] dqc1 Tryz.f65
theorem eqc1_i (a0 : ByteArray) (a1 : Rw) (a2 : ByteArray) (a3 : Rw) : Lqc1 none [.s a0, .l a1, .s a2, .l a3] =
 cond (Eng.seq a0 a2) (
 (Lqbf none [.l a1, .l a3]).bind fun y1 =>
 some [.b ((g y1 0).bool)]) (
 some [.b false]) := (Lim_eq _ _).trans (by kernel_rfl)
theorem kqc1 : SigOk Tryz.prog (dqc1.sig (Lqc1 none)) ∧ (dqc1.sig (Lqc1 none)).ok = true := sound_lim (known_cons kqbf (by kernel_rfl) known_nil) (by kernel_rfl) (by kernel_rfl) (by kernel_rfl)
def dqcl : FD := { fn := 50, nb := 0, pre := ⟨[.ag [.i .i64 0, .fz 9 false 1, .fz 9 false 2, .i .i64 3, .i .i64 4, .i .i64 5], .ag [.i .i64 6, .fz 9 false 7, .fz 9 false 8, .i .i64 9, .i .i64 10, .i .i64 11]], []⟩, post := ⟨[.sc (.b 0)], []⟩, sh := false, cuts := [] }
noncomputable def Lqcl : Option Nat → Lv → Option Lv := Lim Tryz.prog [dqbf.sig (Lqbf none)] dqcl Tryz.f50
theorem eqcl_i (a0 : Int) (a1 : Rw) (a2 : Rw) (a3 : Int) (a4 : Int) (a5 : Int) (a6 : Int) (a7 : Rw) (a8 : Rw) (a9 : Int) (a10 : Int) (a11 : Int) : Lqcl none [.i a0, .l a1, .l a2, .i a3, .i a4, .i a5, .i a6, .l a7, .l a8, .i a9, .i a10, .i a11] =
 cond (a0 == a6) (
 cond (a3 == a9) (
 cond (a4 == a10) (
 cond (a5 == a11) (
 (Lqbf none [.l a1, .l a7]).bind fun y1 =>
 cond ((g y1 0).bool) (
 (Lqbf none [.l a2, .l a8]).bind fun y2 =>
 some [.b ((g y2 0).bool)]) (
 some [.b false])) (
 some [.b false])) (
 some [.b false])) (
 some [.b false])) (
 some [.b false]) := (Lim_eq _ _).trans (by kernel_rfl)
theorem kqcl : SigOk Tryz.prog (dqcl.sig (Lqcl none)) ∧ (dqcl.sig (Lqcl none)).ok = true := sound_lim (known_cons kqbf (by kernel_rfl) known_nil) (by kernel_rfl) (by kernel_rfl) (by kernel_rfl)
def dqm : FD := { fn := 35, nb := 0, pre := ⟨[.ag [.i .i64 0, .i .i64 1, .i .i64 2, .i .i64 3, .fz 90 false 4, .fz 156 false 5, .fz 158 false 6], .ag [.i .i64 7, .i .i64 8, .i .i64 9, .i .i64 10, .fz 90 false 11, .fz 156 false 12, .fz 158 false 13]], []⟩, post := ⟨[.sc (.b 0)], []⟩, sh := false, cuts := [⟨4, [2, 3, 5], ⟨[.sc (.pt 0 0), .sc (.pt 1 0), .sc (.i .i64 0)], [.bx [.i .i64 1, .i .i64 2, .i .i64 3, .i .i64 4, .fz 90 false 5, .fz 156 false 6, .fz 158 false 7], .bx [.i .i64 8, .i .i64 9, .i .i64 10, .i .i64 11, .fz 90 false 12, .fz 156 false 13, .fz 158 false 14]]⟩⟩, ⟨9, [2, 3, 6], ⟨[.sc (.pt 0 0), .sc (.pt 1 0), .sc (.i .i64 0)], [.bx [.i .i64 1, .i .i64 2, .i .i64 3, .i .i64 4, .fz 90 false 5, .fz 156 false 6, .fz 158 false 7], .bx [.i .i64 8, .i .i64 9, .i .i64 10, .i .i64 11, .fz 90 false 12, .fz 156 false 13, .fz 158 false 14]]⟩⟩, ⟨14, [2, 3, 7], ⟨[.sc (.pt 0 0), .sc (.pt 1 0), .sc (.i .i64 0)], [.bx [.i .i64 1, .i .i64 2, .i .i64 3, .i .i64 4, .fz 90 false 5, .fz 156 false 6, .fz 158 false 7], .bx [.i .i64 8, .i .i64 9, .i .i64 10, .i .i64 11, .fz 90 false 12, .fz 156 false 13, .fz 158 false 14]]⟩⟩] }
noncomputable def Lqm : Option Nat → Lv → Option Lv := Lim Tryz.prog [dqc1.sig (Lqc1 none)] dqm Tryz.f35
theorem eqm_i (a0 : Int) (a1 : Int) (a2 : Int) (a3 : Int) (a4 : Rw) (a5 : Rw) (a6 : Rw) (a7 : Int) (a8 : Int) (a9 : Int) (a10 : Int) (a11 : Rw) (a12 : Rw) (a13 : Rw) : Lqm none [.i a0, .i a1, .i a2, .i a3, .l a4, .l a5, .l a6, .i a7, .i a8, .i a9, .i a10, .l a11, .l a12, .l a13] =
 cond (a0 != a7) (
 some [.b false]) (
 cond (a1 != a8) (
 some [.b false]) (
 cond (a2 != a9) (
 some [.b false]) (
 cond (a3 != a10) (
 some [.b false]) (
 cond ((a4.length : Int) != (a11.length : Int)) (
 some [.b false]) (
 cond ((a5.length : Int) != (a12.length : Int)) (
 some [.b false]) (
 cond ((a6.length : Int) != (a13.length : Int)) (
 some [.b false]) (
 Lqm (some 4) [.i 0, .i a0, .i a1, .i a2, .i a3, .l a4, .l a5, .l a6, .i a7, .i a8, .i a9, .i a10, .l a11, .l a12, .l a13]))))))) := (Lim_eq _ _).trans (by kernel_rfl)
theorem eqm_4 (a0 : Int) (a1 : Int) (a2 : Int) (a3 : Int) (a4 : Int) (a5 : Rw) (a6 : Rw) (a7 : Rw) (a8 : Int) (a9 : Int) (a10 : Int) (a11 : Int) (a12 : Rw) (a13 : Rw) (a14 : Rw) : Lqm (some 4) [.i a0, .i a1, .i a2, .i a3, .i a4, .l a5, .l a6, .l a7, .i a8, .i a9, .i a10, .i a11, .l a12, .l a13, .l a14] =
 cond (decide (a0 < (a5.length : Int))) (
 cond (inb a0 a5.length) (
 cond (inb a0 a12.length) (
 cond (!Eng.seq ((rd a5 a0.toNat 0).str) ((rd a12 a0.toNat 0).str)) (
 some [.b false]) (
 cond (inb a0 a5.length) (
 cond (inb a0 a12.length) (
 cond ((rd a5 a0.toNat 1).int != (rd a12 a0.toNat 1).int) (
 some [.b false]) (
 cond (inb a0 a5.length) (
 cond (inb a0 a12.length) (
 (Lqc1 none [.s ((rd a5 a0.toNat 2).str), .l ((rd a5 a0.toNat 3).list), .s ((rd a12 a0.toNat 2).str), .l ((rd a12 a0.toNat 3).list)]).bind fun y1 =>
 cond (!(g y1 0).bool) (
 some [.b false]) (
 Lqm (some 4) [.i (IntKind.i64.wrap (a0 + 1)), .i a1, .i a2, .i a3, .i a4, .l a5, .l a6, .l a7, .i a8, .i a9, .i a10, .i a11, .l a12, .l a13, .l a14])) (
 none)) (
 none))) (
 none)) (
 none))) (
 none)) (
 none)) (
 Lqm (some 9) [.i 0, .i a1, .i a2, .i a3, .i a4, .l a5, .l a6, .l a7, .i a8, .i a9, .i a10, .i a11, .l a12, .l a13, .l a14]) := (Lim_eq _ _).trans (by kernel_rfl)
theorem eqm_9 (a0 : Int) (a1 : Int) (a2 : Int) (a3 : Int) (a4 : Int) (a5 : Rw) (a6 : Rw) (a7 : Rw) (a8 : Int) (a9 : Int) (a10 : Int) (a11 : Int) (a12 : Rw) (a13 : Rw) (a14 : Rw) : Lqm (some 9) [.i a0, .i a1, .i a2, .i a3, .i a4, .l a5, .l a6, .l a7, .i a8, .i a9, .i a10, .i a11, .l a12, .l a13, .l a14] =
 cond (decide (a0 < (a6.length : Int))) (
 cond (inb a0 a6.length) (
 cond (inb a0 a13.length) (
 cond (!((Eng.seq ((rd a6 a0.toNat 0).str) ((rd a13 a0.toNat 0).str)) && ((Eng.seq ((rd a6 a0.toNat 1).str) ((rd a13 a0.toNat 1).str)) && true))) (
 some [.b false]) (
 Lqm (some 9) [.i (IntKind.i64.wrap (a0 + 1)), .i a1, .i a2, .i a3, .i a4, .l a5, .l a6, .l a7, .i a8, .i a9, .i a10, .i a11, .l a12, .l a13, .l a14])) (
 none)) (
 none)) (
 Lqm (some 14) [.i 0, .i a1, .i a2, .i a3, .i a4, .l a5, .l a6, .l a7, .i a8, .i a9, .i a10, .i a11, .l a12, .l a13, .l a14]) := (Lim_eq _ _).trans (by kernel_rfl)
theorem eqm_14 (a0 : Int) (a1 : Int) (a2 : Int) (a3 : Int) (a4 : Int) (a5 : Rw) (a6 : Rw) (a7 : Rw) (a8 : Int) (a9 : Int) (a10 : Int) (a11 : Int) (a12 : Rw) (a13 : Rw) (a14 : Rw) : Lqm (some 14) [.i a0, .i a1, .i a2, .i a3, .i a4, .l a5, .l a6, .l a7, .i a8, .i a9, .i a10, .i a11, .l a12, .l a13, .l a14] =
 cond (decide (a0 < (a7.length : Int))) (
 cond (inb a0 a7.length) (
 cond (inb a0 a14.length) (
 cond (!(((rd a7 a0.toNat 0).int == (rd a14 a0.toNat 0).int) && ((Eng.seq ((rd a7 a0.toNat 1).str) ((rd a14 a0.toNat 1).str)) && (((rd a7 a0.toNat 2).int == (rd a14 a0.toNat 2).int) && true)))) (
 some [.b false]) (
 Lqm (some 14) [.i (IntKind.i64.wrap (a0 + 1)), .i a1, .i a2, .i a3, .i a4, .l a5, .l a6, .l a7, .i a8, .i a9, .i a10, .i a11, .l a12, .l a13, .l a14])) (
 none)) (
 none)) (
 some [.b true]) := (Lim_eq _ _).trans (by kernel_rfl)
theorem kqm : SigOk Tryz.prog (dqm.sig (Lqm none)) ∧ (dqm.sig (Lqm none)).ok = true := sound_lim (known_cons kqc1 (by kernel_rfl) known_nil) (by kernel_rfl) (by kernel_rfl) (by kernel_rfl)
def dqcr : FD := { fn := 20, nb := 0, pre := ⟨[.ag [.i .i64 0, .i .i64 1, .fz 9 false 2, .fz 9 false 3, .i .i64 4, .i .i64 5, .i .i64 6, .i .i64 7, .fz 90 false 8, .fz 156 false 9, .fz 158 false 10, .i .i64 11, .fz 9 false 12, .fz 9 false 13, .i .i64 14, .i .i64 15, .i .i64 16], .ag [.i .i64 17, .i .i64 18, .fz 9 false 19, .fz 9 false 20, .i .i64 21, .i .i64 22, .i .i64 23, .i .i64 24, .fz 90 false 25, .fz 156 false 26, .fz 158 false 27, .i .i64 28, .fz 9 false 29, .fz 9 false 30, .i .i64 31, .i .i64 32, .i .i64 33]], []⟩, post := ⟨[.sc (.b 0)], []⟩, sh := false, cuts := [] }
noncomputable def Lqcr : Option Nat → Lv → Option Lv := Lim Tryz.prog [dqbf.sig (Lqbf none), dqm.sig (Lqm none), dqcl.sig (Lqcl none)] dqcr Tryz.f20
theorem eqcr_i (a0 : Int) (a1 : Int) (a2 : Rw) (a3 : Rw) (a4 : Int) (a5 : Int) (a6 : Int) (a7 : Int) (a8 : Rw) (a9 : Rw) (a10 : Rw) (a11 : Int) (a12 : Rw) (a13 : Rw) (a14 : Int) (a15 : Int) (a16 : Int) (a17 : Int) (a18 : Int) (a19 : Rw) (a20 : Rw) (a21 : Int) (a22 : Int) (a23 : Int) (a24 : Int) (a25 : Rw) (a26 : Rw) (a27 : Rw) (a28 : Int) (a29 : Rw) (a30 : Rw) (a31 : Int) (a32 : Int) (a33 : Int) : Lqcr none [.i a0, .i a1, .l a2, .l a3, .i a4, .i a5, .i a6, .i a7, .l a8, .l a9, .l a10, .i a11, .l a12, .l a13, .i a14, .i a15, .i a16, .i a17, .i a18, .l a19, .l a20, .i a21, .i a22, .i a23, .i a24, .l a25, .l a26, .l a27, .i a28, .l a29, .l a30, .i a31, .i a32, .i a33] =
 cond (a0 == a17) (
 cond (a1 == a18) (
 (Lqbf none [.l a2, .l a19]).bind fun y1 =>
 cond ((g y1 0).bool) (
 (Lqbf none [.l a3, .l a20]).bind fun y2 =>
 cond ((g y2 0).bool) (
 (Lqm none [.i a4, .i a5, .i a6, .i a7, .l a8, .l a9, .l a10, .i a21, .i a22, .i a23, .i a24, .l a25, .l a26, .l a27]).bind fun y3 =>
 cond ((g y3 0).bool) (
 (Lqcl none [.i a11, .l a12, .l a13, .i a14, .i a15, .i a16, .i a28, .l a29, .l a30, .i a31, .i a32, .i a33]).bind fun y4 =>
 some [.b ((g y4 0).bool)]) (
 some [.b false])) (
 some [.b false])) (
 some [.b false])) (
 some [.b false])) (
 some [.b false]) := (Lim_eq _ _).trans (by kernel_rfl)
theorem kqcr : SigOk Tryz.prog (dqcr.sig (Lqcr none)) ∧ (dqcr.sig (Lqcr none)).ok = true := sound_lim (known_cons kqbf (by kernel_rfl) (known_cons kqm (by kernel_rfl) (known_cons kqcl (by kernel_rfl) known_nil))) (by kernel_rfl) (by kernel_rfl) (by kernel_rfl)
def dqc3 : FD := { fn := 26, nb := 0, pre := ⟨[.ag [.i .i64 0, .i .i64 1, .fz 9 false 2, .fz 9 false 3, .i .i64 4, .i .i64 5, .i .i64 6, .i .i64 7, .fz 90 false 8, .fz 156 false 9, .fz 158 false 10, .i .i64 11, .fz 9 false 12, .fz 9 false 13, .i .i64 14, .i .i64 15, .i .i64 16], .sc (.s 17)], []⟩, post := ⟨[.tu [(true, [.s 0, .ow 0]), (false, [.b 1])]], [.rw 9 true 2]⟩, sh := false, cuts := [] }
noncomputable def Lqc3 : Option Nat → Lv → Option Lv := Lim Tryz.prog [dqbj.sig (Lqbj none), dq0.sig (Lq0 none), dqcw.sig (Lqcw none)] dqc3 Tryz.f26
theorem eqc3_i (a0 : Int) (a1 : Int) (a2 : Rw) (a3 : Rw) (a4 : Int) (a5 : Int) (a6 : Int) (a7 : Int) (a8 : Rw) (a9 : Rw) (a10 : Rw) (a11 : Int) (a12 : Rw) (a13 : Rw) (a14 : Int) (a15 : Int) (a16 : Int) (a17 : ByteArray) : Lqc3 none [.i a0, .i a1, .l a2, .l a3, .i a4, .i a5, .i a6, .i a7, .l a8, .l a9, .l a10, .i a11, .l a12, .l a13, .i a14, .i a15, .i a16, .s a17] =
 (Lqcw none [.i a0, .i a1, .l a2, .l a3, .i a4, .i a5, .i a6, .i a7, .l a8, .l a9, .l a10, .i a11, .l a12, .l a13, .i a14, .i a15, .i a16]).bind fun y1 =>
 cond (!(g y1 0).bool) (
 some [.s (⟨#[]⟩ : ByteArray), .b false, .l []]) (
 (Lqbj none [.s a17, .i a4, .i a5, .i a6, .i a7, .l a8, .l a9, .l a10]).bind fun y2 =>
 cond (!(g y2 1).bool) (
 some [.s (⟨#[]⟩ : ByteArray), .b false, .l []]) (
 cond (inb ((g y2 0).int) a8.length) (
 (Lq0 none [.l ((rd a8 (((g y2 0).int).toNat) 3).list)]).bind fun y3 =>
 some [.s ((rd a8 (((g y2 0).int).toNat) 2).str), .b true, .l ((g y3 0).list)]) (
 none))) := (Lim_eq _ _).trans (by kernel_rfl)
theorem kqc3 : SigOk Tryz.prog (dqc3.sig (Lqc3 none)) ∧ (dqc3.sig (Lqc3 none)).ok = true := sound_lim (known_cons kqbj (by kernel_rfl) (known_cons kq0 (by kernel_rfl) (known_cons kqcw (by kernel_rfl) known_nil))) (by kernel_rfl) (by kernel_rfl) (by kernel_rfl)
def dqc : FD := { fn := 55, nb := 0, pre := ⟨[.ag [.i .i64 0, .i .i64 1, .i .i64 2, .i .i64 3, .fz 90 false 4, .fz 156 false 5, .fz 158 false 6]], []⟩, post := ⟨[.sc (.b 0)], []⟩, sh := false, cuts := [⟨5, [1, 3, 62, 63, 64], ⟨[.sc (.pt 0 0), .sc (.mp 1), .sc (.fz 90 false 0), .sc (.i .i64 1), .sc (.i .i64 2)], [.bx [.i .i64 3, .i .i64 4, .i .i64 5, .i .i64 6, .fz 90 false 7, .fz 156 false 8, .fz 158 false 9], .mp 3 4 10]⟩⟩, ⟨12, [1, 125, 126, 127], ⟨[.sc (.pt 0 0), .sc (.fz 90 false 0), .sc (.i .i64 1), .sc (.i .i64 2)], [.bx [.i .i64 3, .i .i64 4, .i .i64 5, .i .i64 6, .fz 90 false 7, .fz 156 false 8, .fz 158 false 9]]⟩⟩, ⟨15, [1, 7, 125, 126, 127, 133, 134, 135], ⟨[.sc (.pt 0 0), .sc (.pt 1 0), .sc (.fz 90 false 0), .sc (.i .i64 1), .sc (.i .i64 2), .sc (.fz 9 false 3), .sc (.i .i64 4), .sc (.i .i64 5)], [.bx [.i .i64 6, .i .i64 7, .i .i64 8, .i .i64 9, .fz 90 false 10, .fz 156 false 11, .fz 158 false 12], .bx [.s 13, .i .i64 14, .s 15, .fz 9 false 16]]⟩⟩, ⟨23, [1, 160, 161, 162], ⟨[.sc (.pt 0 0), .sc (.fz 156 false 0), .sc (.i .i64 1), .sc (.i .i64 2)], [.bx [.i .i64 3, .i .i64 4, .i .i64 5, .i .i64 6, .fz 90 false 7, .fz 156 false 8, .fz 158 false 9]]⟩⟩, ⟨30, [1, 199, 200, 201], ⟨[.sc (.pt 0 0), .sc (.fz 158 false 0), .sc (.i .i64 1), .sc (.i .i64 2)], [.bx [.i .i64 3, .i .i64 4, .i .i64 5, .i .i64 6, .fz 90 false 7, .fz 156 false 8, .fz 158 false 9]]⟩⟩] }
noncomputable def Lqc : Option Nat → Lv → Option Lv := Lim Tryz.prog [dq3.sig (Lq3 none), dqba.sig (Lqba none), dqbo.sig (Lqbo none), dqbb.sig (Lqbb none), dqbj.sig (Lqbj none), dqs.sig (Lqs none), dqcp.sig (Lqcp none)] dqc Tryz.f55
theorem eqc_i (a0 : Int) (a1 : Int) (a2 : Int) (a3 : Int) (a4 : Rw) (a5 : Rw) (a6 : Rw) : Lqc none [.i a0, .i a1, .i a2, .i a3, .l a4, .l a5, .l a6] =
 (Lq3 none [.i a0]).bind fun y1 =>
 cond (!(g y1 0).bool) (
 some [.b false]) (
 (Lqcp none [.i a1]).bind fun y2 =>
 cond (!(g y2 0).bool) (
 some [.b false]) (
 (Lqcp none [.i a2]).bind fun y3 =>
 cond (!(g y3 0).bool) (
 some [.b false]) (
 (Lqcp none [.i a3]).bind fun y4 =>
 cond (!(g y4 0).bool) (
 some [.b false]) (
 cond (decide (600 < (a4.length : Int))) (
 some [.b false]) (
 cond (decide (100 < (a5.length : Int))) (
 some [.b false]) (
 cond (decide (200 < (a6.length : Int))) (
 some [.b false]) (
 Lqc (some 5) [.l a4, .i (a4.length : Int), .i 0, .i a0, .i a1, .i a2, .i a3, .l a4, .l a5, .l a6, .m ([])]))))))) := (Lim_eq _ _).trans (by kernel_rfl)
theorem eqc_5 (a0 : Rw) (a1 : Int) (a2 : Int) (a3 : Int) (a4 : Int) (a5 : Int) (a6 : Int) (a7 : Rw) (a8 : Rw) (a9 : Rw) (a10 : List (C × C)) : Lqc (some 5) [.l a0, .i a1, .i a2, .i a3, .i a4, .i a5, .i a6, .l a7, .l a8, .l a9, .m a10] =
 cond (decide (a2 < a1)) (
 cond (inb a2 a0.length) (
 cond (decide (0 < a2)) (
 cond (inb (IntKind.i64.wrap (a2 - 1)) a7.length) (
 cond (!slt ((rd a7 ((IntKind.i64.wrap (a2 - 1)).toNat) 0).str) ((rd a0 a2.toNat 0).str)) (
 some [.b false]) (
 (Lqba none [.s ((rd a0 a2.toNat 2).str), .l ((rd a0 a2.toNat 3).list), .i a3]).bind fun y1 =>
 cond (!(g y1 0).bool) (
 some [.b false]) (
 (Lqs none [.s ((rd a0 a2.toNat 2).str), .l ((rd a0 a2.toNat 3).list)]).bind fun y2 =>
 (Lqbb none [.s ((g y2 0).str), .i a3]).bind fun y3 =>
 cond (!Eng.seq ((rd a0 a2.toNat 0).str) ((g y3 0).str)) (
 some [.b false]) (
 cond (decide ((rd a0 a2.toNat 1).int < 1)) (
 some [.b false]) (
 cond (decide (a6 < (rd a0 a2.toNat 1).int)) (
 some [.b false]) (
 cond (((mget (.i .i64) (.i ((rd a0 a2.toNat 1).int)) a10).getD (.b false)).bool) (
 some [.b false]) (
 Lqc (some 5) [.l a0, .i a1, .i (IntKind.i64.wrap (a2 + 1)), .i a3, .i a4, .i a5, .i a6, .l a7, .l a8, .l a9, .m (mput (.i .i64) (.i ((rd a0 a2.toNat 1).int)) (.b true) a10)]))))))) (
 none)) (
 (Lqba none [.s ((rd a0 a2.toNat 2).str), .l ((rd a0 a2.toNat 3).list), .i a3]).bind fun y4 =>
 cond (!(g y4 0).bool) (
 some [.b false]) (
 (Lqs none [.s ((rd a0 a2.toNat 2).str), .l ((rd a0 a2.toNat 3).list)]).bind fun y5 =>
 (Lqbb none [.s ((g y5 0).str), .i a3]).bind fun y6 =>
 cond (!Eng.seq ((rd a0 a2.toNat 0).str) ((g y6 0).str)) (
 some [.b false]) (
 cond (decide ((rd a0 a2.toNat 1).int < 1)) (
 some [.b false]) (
 cond (decide (a6 < (rd a0 a2.toNat 1).int)) (
 some [.b false]) (
 cond (((mget (.i .i64) (.i ((rd a0 a2.toNat 1).int)) a10).getD (.b false)).bool) (
 some [.b false]) (
 Lqc (some 5) [.l a0, .i a1, .i (IntKind.i64.wrap (a2 + 1)), .i a3, .i a4, .i a5, .i a6, .l a7, .l a8, .l a9, .m (mput (.i .i64) (.i ((rd a0 a2.toNat 1).int)) (.b true) a10)]))))))) (
 none)) (
 Lqc (some 12) [.l a7, .i (a7.length : Int), .i 0, .i a3, .i a4, .i a5, .i a6, .l a7, .l a8, .l a9]) := (Lim_eq _ _).trans (by kernel_rfl)
theorem eqc_12 (a0 : Rw) (a1 : Int) (a2 : Int) (a3 : Int) (a4 : Int) (a5 : Int) (a6 : Int) (a7 : Rw) (a8 : Rw) (a9 : Rw) : Lqc (some 12) [.l a0, .i a1, .i a2, .i a3, .i a4, .i a5, .i a6, .l a7, .l a8, .l a9] =
 cond (decide (a2 < a1)) (
 cond (inb a2 a0.length) (
 Lqc (some 15) [.l a0, .i a1, .i a2, .l ((rd a0 a2.toNat 3).list), .i (((rd a0 a2.toNat 3).list).length : Int), .i 0, .i a3, .i a4, .i a5, .i a6, .l a7, .l a8, .l a9, .s ((rd a0 a2.toNat 0).str), .i ((rd a0 a2.toNat 1).int), .s ((rd a0 a2.toNat 2).str), .l ((rd a0 a2.toNat 3).list)]) (
 none)) (
 Lqc (some 23) [.l a8, .i (a8.length : Int), .i 0, .i a3, .i a4, .i a5, .i a6, .l a7, .l a8, .l a9]) := (Lim_eq _ _).trans (by kernel_rfl)
theorem eqc_15 (a0 : Rw) (a1 : Int) (a2 : Int) (a3 : Rw) (a4 : Int) (a5 : Int) (a6 : Int) (a7 : Int) (a8 : Int) (a9 : Int) (a10 : Rw) (a11 : Rw) (a12 : Rw) (a13 : ByteArray) (a14 : Int) (a15 : ByteArray) (a16 : Rw) : Lqc (some 15) [.l a0, .i a1, .i a2, .l a3, .i a4, .i a5, .i a6, .i a7, .i a8, .i a9, .l a10, .l a11, .l a12, .s a13, .i a14, .s a15, .l a16] =
 cond (decide (a5 < a4)) (
 cond (inb a5 a3.length) (
 (Lqbj none [.s ((rd a3 a5.toNat 0).str), .i a6, .i a7, .i a8, .i a9, .l a10, .l a11, .l a12]).bind fun y1 =>
 cond (!(g y1 1).bool) (
 some [.b false]) (
 cond (inb ((g y1 0).int) a10.length) (
 cond (decide (a14 ≤ (rd a10 (((g y1 0).int).toNat) 1).int)) (
 some [.b false]) (
 Lqc (some 15) [.l a0, .i a1, .i a2, .l a3, .i a4, .i (IntKind.i64.wrap (a5 + 1)), .i a6, .i a7, .i a8, .i a9, .l a10, .l a11, .l a12, .s a13, .i a14, .s a15, .l a16])) (
 none))) (
 none)) (
 Lqc (some 12) [.l a0, .i a1, .i (IntKind.i64.wrap (a2 + 1)), .i a6, .i a7, .i a8, .i a9, .l a10, .l a11, .l a12]) := (Lim_eq _ _).trans (by kernel_rfl)
theorem eqc_23 (a0 : Rw) (a1 : Int) (a2 : Int) (a3 : Int) (a4 : Int) (a5 : Int) (a6 : Int) (a7 : Rw) (a8 : Rw) (a9 : Rw) : Lqc (some 23) [.l a0, .i a1, .i a2, .i a3, .i a4, .i a5, .i a6, .l a7, .l a8, .l a9] =
 cond (decide (a2 < a1)) (
 cond (inb a2 a0.length) (
 (Lqbj none [.s ((rd a0 a2.toNat 1).str), .i a3, .i a4, .i a5, .i a6, .l a7, .l a8, .l a9]).bind fun y1 =>
 cond (!(g y1 1).bool) (
 some [.b false]) (
 (Lqbo none [.s ((rd a0 a2.toNat 0).str)]).bind fun y2 =>
 cond (!(g y2 0).bool) (
 some [.b false]) (
 cond (decide (0 < a2)) (
 cond (inb (IntKind.i64.wrap (a2 - 1)) a8.length) (
 cond (!slt ((rd a8 ((IntKind.i64.wrap (a2 - 1)).toNat) 0).str) ((rd a0 a2.toNat 0).str)) (
 some [.b false]) (
 Lqc (some 23) [.l a0, .i a1, .i (IntKind.i64.wrap (a2 + 1)), .i a3, .i a4, .i a5, .i a6, .l a7, .l a8, .l a9])) (
 none)) (
 Lqc (some 23) [.l a0, .i a1, .i (IntKind.i64.wrap (a2 + 1)), .i a3, .i a4, .i a5, .i a6, .l a7, .l a8, .l a9])))) (
 none)) (
 Lqc (some 30) [.l a9, .i (a9.length : Int), .i 0, .i a3, .i a4, .i a5, .i a6, .l a7, .l a8, .l a9]) := (Lim_eq _ _).trans (by kernel_rfl)
theorem eqc_30 (a0 : Rw) (a1 : Int) (a2 : Int) (a3 : Int) (a4 : Int) (a5 : Int) (a6 : Int) (a7 : Rw) (a8 : Rw) (a9 : Rw) : Lqc (some 30) [.l a0, .i a1, .i a2, .i a3, .i a4, .i a5, .i a6, .l a7, .l a8, .l a9] =
 cond (decide (a2 < a1)) (
 cond (inb a2 a0.length) (
 (Lqbj none [.s ((rd a0 a2.toNat 1).str), .i a3, .i a4, .i a5, .i a6, .l a7, .l a8, .l a9]).bind fun y1 =>
 cond (!(g y1 1).bool) (
 some [.b false]) (
 cond (decide ((rd a0 a2.toNat 0).int < 1)) (
 some [.b false]) (
 cond (decide (a5 < (rd a0 a2.toNat 0).int)) (
 some [.b false]) (
 cond (decide (0 < a2)) (
 cond (inb (IntKind.i64.wrap (a2 - 1)) a9.length) (
 cond (decide ((rd a0 a2.toNat 0).int ≤ (rd a9 ((IntKind.i64.wrap (a2 - 1)).toNat) 0).int)) (
 some [.b false]) (
 cond (decide ((rd a0 a2.toNat 2).int ≤ a4)) (
 some [.b false]) (
 cond (decide ((IntKind.i64.wrap (a4 + 100000)) < (rd a0 a2.toNat 2).int)) (
 some [.b false]) (
 Lqc (some 30) [.l a0, .i a1, .i (IntKind.i64.wrap (a2 + 1)), .i a3, .i a4, .i a5, .i a6, .l a7, .l a8, .l a9])))) (
 none)) (
 cond (decide ((rd a0 a2.toNat 2).int ≤ a4)) (
 some [.b false]) (
 cond (decide ((IntKind.i64.wrap (a4 + 100000)) < (rd a0 a2.toNat 2).int)) (
 some [.b false]) (
 Lqc (some 30) [.l a0, .i a1, .i (IntKind.i64.wrap (a2 + 1)), .i a3, .i a4, .i a5, .i a6, .l a7, .l a8, .l a9]))))))) (
 none)) (
 some [.b true]) := (Lim_eq _ _).trans (by kernel_rfl)
theorem kqc : SigOk Tryz.prog (dqc.sig (Lqc none)) ∧ (dqc.sig (Lqc none)).ok = true := sound_lim (known_cons kq3 (by kernel_rfl) (known_cons kqba (by kernel_rfl) (known_cons kqbo (by kernel_rfl) (known_cons kqbb (by kernel_rfl) (known_cons kqbj (by kernel_rfl) (known_cons kqs (by kernel_rfl) (known_cons kqcp (by kernel_rfl) known_nil))))))) (by kernel_rfl) (by kernel_rfl) (by kernel_rfl)
def dqdt : FD := { fn := 54, nb := 0, pre := ⟨[.ag [.i .i64 0, .i .i64 1, .i .i64 2, .i .i64 3, .fz 90 false 4, .fz 156 false 5, .fz 158 false 6]], []⟩, post := ⟨[.sc (.i .i64 0)], []⟩, sh := false, cuts := [] }
noncomputable def Lqdt : Option Nat → Lv → Option Lv := Lim Tryz.prog [dqbp.sig (Lqbp none), dqc.sig (Lqc none)] dqdt Tryz.f54
theorem eqdt_i (a0 : Int) (a1 : Int) (a2 : Int) (a3 : Int) (a4 : Rw) (a5 : Rw) (a6 : Rw) : Lqdt none [.i a0, .i a1, .i a2, .i a3, .l a4, .l a5, .l a6] =
 (Lqc none [.i a0, .i a1, .i a2, .i a3, .l a4, .l a5, .l a6]).bind fun y1 =>
 cond (!(g y1 0).bool) (
 some [.i 0]) (
 (Lqbp none [.i a0, .i a1, .i a2, .i a3, .l a4, .l a5, .l a6]).bind fun y2 =>
 some [.i ((g y2 0).int)]) := (Lim_eq _ _).trans (by kernel_rfl)
theorem kqdt : SigOk Tryz.prog (dqdt.sig (Lqdt none)) ∧ (dqdt.sig (Lqdt none)).ok = true := sound_lim (known_cons kqbp (by kernel_rfl) (known_cons kqc (by kernel_rfl) known_nil)) (by kernel_rfl) (by kernel_rfl) (by kernel_rfl)
def dqcm : FD := { fn := 73, nb := 0, pre := ⟨[.sc (.fz 5 false 0)], []⟩, post := ⟨[.sc (.pt 0 0)], [.bx [.fz 5 false 0, .i .i64 1]]⟩, sh := true, cuts := [] }
noncomputable def Lqcm : Option Nat → Lv → Option Lv := Lim Tryz.prog [] dqcm Tryz.f73
theorem eqcm_i (a0 : Rw) : Lqcm none [.l a0] =
 cond (decide (2000 < (a0.length : Int))) (
 cond (decide (2000 ≤ (a0.length : Int))) (
 some [.l (Eng.sub a0 0 2000), .i 0]) (
 none)) (
 some [.l a0, .i 0]) := (Lim_eq _ _).trans (by kernel_rfl)
theorem kqcm : SigOk Tryz.prog (dqcm.sig (Lqcm none)) ∧ (dqcm.sig (Lqcm none)).ok = true := sound_lim known_nil (by kernel_rfl) (by kernel_rfl) (by kernel_rfl)
def dqb : FD := { fn := 74, nb := 1, pre := ⟨[.sc (.pt 0 0), .sc (.i .i64 0)], [.bx [.fz 5 false 1, .i .i64 2]]⟩, post := ⟨[.sc (.i .i64 0)], [.bx [.fz 5 false 1, .i .i64 2]]⟩, sh := true, cuts := [] }
noncomputable def Lqb : Option Nat → Lv → Option Lv := Lim Tryz.prog [] dqb Tryz.f74
theorem eqb_i (a0 : Int) (a1 : Rw) (a2 : Int) : Lqb none [.i a0, .l a1, .i a2] =
 cond (decide (a0 < 1)) (
 some [.i 0, .l a1, .i (IntKind.i64.wrap (a2 + 1))]) (
 cond ((a1.length : Int) == 0) (
 some [.i 0, .l a1, .i (IntKind.i64.wrap (a2 + 1))]) (
 cond (decide ((IntKind.i64.wrap ((IntKind.i64.wrap (a2 + 1)) - 1)) < (a1.length : Int))) (
 cond (inb (IntKind.i64.wrap ((IntKind.i64.wrap (a2 + 1)) - 1)) a1.length) (
 cond (a0 != 0) (
 some [.i ((IntKind.i64.wrap ((rd a1 ((IntKind.i64.wrap ((IntKind.i64.wrap (a2 + 1)) - 1)).toNat) 0).int)).tmod a0), .l a1, .i (IntKind.i64.wrap (a2 + 1))]) (
 none)) (
 none)) (
 cond ((a1.length : Int) != 0) (
 cond (inb ((IntKind.i64.wrap ((IntKind.i64.wrap (a2 + 1)) - 1)).tmod (a1.length : Int)) a1.length) (
 cond ((a1.length : Int) != 0) (
 cond (inb ((IntKind.i64.wrap ((IntKind.i64.wrap ((IntKind.i64.wrap ((IntKind.i64.wrap (a2 + 1)) - 1)) * 7)) + 3)).tmod (a1.length : Int)) a1.length) (
 cond ((a1.length : Int) != 0) (
 cond (a0 != 0) (
 some [.i ((IntKind.i64.wrap (BitVec.ofInt (IntKind.i64).bits (IntKind.i64.wrap ((IntKind.i64.wrap ((IntKind.i64.wrap ((IntKind.i64.wrap ((IntKind.i64.wrap ((rd a1 (((IntKind.i64.wrap ((IntKind.i64.wrap (a2 + 1)) - 1)).tmod (a1.length : Int)).toNat) 0).int)) * 131)) + (IntKind.i64.wrap ((IntKind.i64.wrap ((rd a1 (((IntKind.i64.wrap ((IntKind.i64.wrap ((IntKind.i64.wrap ((IntKind.i64.wrap (a2 + 1)) - 1)) * 7)) + 3)).tmod (a1.length : Int)).toNat) 0).int)) * 1117)))) + (IntKind.i64.wrap ((IntKind.i64.wrap ((IntKind.i64.wrap (a2 + 1)) - 1)) * 29)))) + (IntKind.i64.wrap ((IntKind.i64.wrap ((IntKind.i64.wrap ((IntKind.i64.wrap (a2 + 1)) - 1)).tdiv (a1.length : Int))) * 53)))) ^^^ BitVec.ofInt (IntKind.i64).bits (IntKind.i64.wrap ((IntKind.i64.wrap ((IntKind.i64.wrap ((IntKind.i64.wrap ((IntKind.i64.wrap ((IntKind.i64.wrap ((rd a1 (((IntKind.i64.wrap ((IntKind.i64.wrap (a2 + 1)) - 1)).tmod (a1.length : Int)).toNat) 0).int)) * 131)) + (IntKind.i64.wrap ((IntKind.i64.wrap ((rd a1 (((IntKind.i64.wrap ((IntKind.i64.wrap ((IntKind.i64.wrap ((IntKind.i64.wrap (a2 + 1)) - 1)) * 7)) + 3)).tmod (a1.length : Int)).toNat) 0).int)) * 1117)))) + (IntKind.i64.wrap ((IntKind.i64.wrap ((IntKind.i64.wrap (a2 + 1)) - 1)) * 29)))) + (IntKind.i64.wrap ((IntKind.i64.wrap ((IntKind.i64.wrap ((IntKind.i64.wrap (a2 + 1)) - 1)).tdiv (a1.length : Int))) * 53)))).tdiv 64))).toNat).tmod a0), .l a1, .i (IntKind.i64.wrap (a2 + 1))]) (
 none)) (
 none)) (
 none)) (
 none)) (
 none)) (
 none)))) := (Lim_eq _ _).trans (by kernel_rfl)
theorem kqb : SigOk Tryz.prog (dqb.sig (Lqb none)) ∧ (dqb.sig (Lqb none)).ok = true := sound_lim known_nil (by kernel_rfl) (by kernel_rfl) (by kernel_rfl)
def dqcf : FD := { fn := 201, nb := 0, pre := ⟨[.sc (.s 0), .sc (.i .i64 1)], []⟩, post := ⟨[.sc (.s 0)], []⟩, sh := false, cuts := [⟨2, [0, 1, 5], ⟨[.sc (.s 0), .sc (.i .i64 1), .sc (.s 2)], []⟩⟩] }
noncomputable def Lqcf : Option Nat → Lv → Option Lv := Lim Tryz.prog [] dqcf Tryz.f201
theorem eqcf_i (a0 : ByteArray) (a1 : Int) : Lqcf none [.s a0, .i a1] =
 Lqcf (some 2) [.s a0, .i a1, .s (⟨#[]⟩ : ByteArray)] := (Lim_eq _ _).trans (by kernel_rfl)
theorem eqcf_2 (a0 : ByteArray) (a1 : Int) (a2 : ByteArray) : Lqcf (some 2) [.s a0, .i a1, .s a2] =
 cond (decide (0 < a1)) (
 cond ((a1.tmod 2) == 1) (
 cond (decide (a2.size + a0.size ≤ most)) (
 cond (decide (a0.size + a0.size ≤ most)) (
 Lqcf (some 2) [.s (a0 ++ a0), .i (IntKind.i64.wrap (a1.tdiv 2)), .s (a2 ++ a0)]) (
 none)) (
 none)) (
 cond (decide (a0.size + a0.size ≤ most)) (
 Lqcf (some 2) [.s (a0 ++ a0), .i (IntKind.i64.wrap (a1.tdiv 2)), .s a2]) (
 none))) (
 some [.s a2]) := (Lim_eq _ _).trans (by kernel_rfl)
theorem kqcf : SigOk Tryz.prog (dqcf.sig (Lqcf none)) ∧ (dqcf.sig (Lqcf none)).ok = true := sound_lim known_nil (by kernel_rfl) (by kernel_rfl) (by kernel_rfl)
end KV
end
