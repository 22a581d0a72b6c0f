/- Walks of Go functions, printed by a program of ours. -/
import Derived.Test.YtbgmclgeikflaaaGreatProg
import Derived.Test.YtbgmclgeikflaaaGreatM1
import Derived.Test.YtbgmclgeikflaaaGreatM2
set_option linter.unusedSimpArgs false
set_option linter.unusedVariables false
set_option linter.unusedSectionVars false
section
set_option maxRecDepth 100000
namespace KV
open Go Go.Eng Go.Proofs
def dqbc : FD := { fn := 111, nb := 0, pre := ⟨[.sc (.i .i64 0)], []⟩, post := ⟨[.sc (.b 0)], []⟩, sh := false, cuts := [] }
noncomputable def Lqbc : Option Nat → Lv → Option Lv := Lim Tryz.prog [] dqbc Tryz.f111
theorem eqbc_i (a0 : Int) : Lqbc none [.i a0] =
 cond (decide (1 ≤ a0)) (
 some [.b (decide (a0 ≤ 8))]) (
 some [.b false]) := (zd _ _).trans (by kernel_rfl)
theorem kqbc : SigOk Tryz.prog (dqbc.sig (Lqbc none)) ∧ (dqbc.sig (Lqbc none)).ok = true := zf ze (by kernel_rfl) (by kernel_rfl) (by kernel_rfl)
def dqdo : FD := { fn := 116, nb := 0, pre := ⟨[.ag [], .sc (.fz 5 false 0)], []⟩, post := ⟨[.sc (.i .u32 0)], []⟩, sh := false, cuts := [] }
noncomputable def Lqdo : Option Nat → Lv → Option Lv := Lim Tryz.prog [] dqdo Tryz.f116
theorem eqdo_i (a0 : Rw) : Lqdo none [.l a0] =
 cond (inb 3 a0.length) (
 cond (inb 3 a0.length) (
 cond (inb 2 a0.length) (
 cond (inb 1 a0.length) (
 cond (inb 0 a0.length) (
 some [.i (IntKind.u32.wrap (BitVec.ofInt (IntKind.u32).bits (IntKind.u32.wrap (BitVec.ofInt (IntKind.u32).bits (IntKind.u32.wrap (BitVec.ofInt (IntKind.u32).bits (IntKind.u32.wrap ((rd a0 3 0).int)) ||| BitVec.ofInt (IntKind.u32).bits (IntKind.u32.wrap ((IntKind.u32.wrap ((rd a0 2 0).int)) * 2 ^ 8))).toNat) ||| BitVec.ofInt (IntKind.u32).bits (IntKind.u32.wrap ((IntKind.u32.wrap ((rd a0 1 0).int)) * 2 ^ 16))).toNat) ||| BitVec.ofInt (IntKind.u32).bits (IntKind.u32.wrap ((IntKind.u32.wrap ((rd a0 0 0).int)) * 2 ^ 24))).toNat)]) (
 none)) (
 none)) (
 none)) (
 none)) (
 none) := (zd _ _).trans (by kernel_rfl)
theorem kqdo : SigOk Tryz.prog (dqdo.sig (Lqdo none)) ∧ (dqdo.sig (Lqdo none)).ok = true := zf ze (by kernel_rfl) (by kernel_rfl) (by kernel_rfl)
def dqbi : FD := { fn := 141, nb := 0, pre := ⟨[.ag [.s 0, .fz 9 false 1], .sc (.i .i64 2)], []⟩, post := ⟨[.sc (.b 0)], []⟩, sh := false, cuts := [⟨4, [1, 2, 18, 19, 20], ⟨[.sc (.i .i64 0), .sc (.pt 0 0), .sc (.fz 9 false 1), .sc (.i .i64 2), .sc (.i .i64 3)], [.bx [.s 4, .fz 9 false 5]]⟩⟩] }
noncomputable def Lqbi : Option Nat → Lv → Option Lv := Lim Tryz.prog [dqbc.sig (Lqbc none)] dqbi Tryz.f141
theorem eqbi_i (a0 : ByteArray) (a1 : Rw) (a2 : Int) : Lqbi none [.s a0, .l a1, .i a2] =
 cond (decide (2000 < (a0.size : Int))) (
 some [.b false]) (
 cond (decide (30 < (a1.length : Int))) (
 some [.b false]) (
 Lqbi (some 4) [.i a2, .l a1, .i (a1.length : Int), .i 0, .s a0, .l a1])) := (zd _ _).trans (by kernel_rfl)
theorem eqbi_4 (a0 : Int) (a1 : Rw) (a2 a3 : Int) (a4 : ByteArray) (a5 : Rw) : Lqbi (some 4) [.i a0, .l a1, .i a2, .i a3, .s a4, .l a5] =
 cond (decide (a3 < a2)) (
 cond (inb a3 a1.length) (
 cond ((((rd a1 a3.toNat 0).str).size : Int) != a0) (
 some [.b false]) (
 cond (decide (0 < a3)) (
 cond (inb (IntKind.i64.wrap (a3 - 1)) a5.length) (
 cond (!slt ((rd a5 ((IntKind.i64.wrap (a3 - 1)).toNat) 0).str) ((rd a1 a3.toNat 0).str)) (
 some [.b false]) (
 Lqbi (some 4) [.i a0, .l a1, .i a2, .i (IntKind.i64.wrap (a3 + 1)), .s a4, .l a5])) (
 none)) (
 Lqbi (some 4) [.i a0, .l a1, .i a2, .i (IntKind.i64.wrap (a3 + 1)), .s a4, .l a5]))) (
 none)) (
 (Lqbc none [.i a0]).bind fun y1 =>
 some [.b ((g y1 0).bool)]) := (zd _ _).trans (by kernel_rfl)
theorem kqbi : SigOk Tryz.prog (dqbi.sig (Lqbi none)) ∧ (dqbi.sig (Lqbi none)).ok = true := zf (zb kqbc (by kernel_rfl) ze) (by kernel_rfl) (by kernel_rfl) (by kernel_rfl)
def dqb5 : FD := { fn := 117, nb := 0, pre := ⟨[.sc (.s 0), .sc (.i .i64 1)], []⟩, post := ⟨[.tu [(true, [.s 0, .ow 0]), (false, [.b 1])]], [.rw 9 true 2]⟩, sh := false, cuts := [⟨6, [0, 1, 4, 6, 7], ⟨[.sc (.s 0), .sc (.i .i64 1), .sc (.pt 0 0), .sc (.pt 1 0), .sc (.i .i64 2)], [.bx [.s 3, .ow 2], .bx [.s 4, .ow 3], .rw 9 true 5, .rw 9 true 6]⟩⟩] }
noncomputable def Lqb5 : Option Nat → Lv → Option Lv := Lim Tryz.prog [dqbc.sig (Lqbc none), dqbi.sig (Lqbi none)] dqb5 Tryz.f117
theorem eqb5_i (a0 : ByteArray) (a1 : Int) : Lqb5 none [.s a0, .i a1] =
 (Lqbc none [.i a1]).bind fun y1 =>
 cond (!(g y1 0).bool) (
 some [.s (⟨#[]⟩ : ByteArray), .b false, .l []]) (
 cond (Eng.seq a0 (⟨#[]⟩ : ByteArray)) (
 some [.s (⟨#[]⟩ : ByteArray), .b false, .l []]) (
 cond (inb 0 a0.size) (
 cond (decide ((a0.size : Int) < (IntKind.i64.wrap (1 + (IntKind.i64.wrap ((IntKind.i64.wrap (byteAt a0 0)) * a1)))))) (
 some [.s (⟨#[]⟩ : ByteArray), .b false, .l []]) (
 cond (inb 0 a0.size) (
 cond (decide (1 ≤ (a0.size : Int))) (
 Lqb5 (some 6) [.s (a0.extract 1 a0.size), .i a1, .i (IntKind.i64.wrap (byteAt a0 0)), .s (⟨#[]⟩ : ByteArray), .s (⟨#[]⟩ : ByteArray), .l [], .l []]) (
 none)) (
 none))) (
 none))) := (zd _ _).trans (by kernel_rfl)
theorem eqb5_6 (a0 : ByteArray) (a1 a2 : Int) (a3 a4 : ByteArray) (a5 a6 : Rw) : Lqb5 (some 6) [.s a0, .i a1, .i a2, .s a3, .s a4, .l a5, .l a6] =
 cond (decide (0 < a2)) (
 cond (decide (0 ≤ a1)) (
 cond (decide (a1 ≤ (a0.size : Int))) (
 cond (decide (a6.length + ([[.s (a0.extract 0 a1.toNat)]] : Rw).length ≤ most)) (
 cond (decide (0 ≤ a1)) (
 cond (decide (a1 ≤ (a0.size : Int))) (
 Lqb5 (some 6) [.s (a0.extract a1.toNat a0.size), .i a1, .i (IntKind.i64.wrap (a2 - 1)), .s a3, .s a4, .l a5, .l (a6 ++ ([[.s (a0.extract 0 a1.toNat)]] : Rw))]) (
 none)) (
 none)) (
 none)) (
 none)) (
 none)) (
 (Lqbi none [.s a0, .l a6, .i a1]).bind fun y1 =>
 cond (!(g y1 0).bool) (
 some [.s (⟨#[]⟩ : ByteArray), .b false, .l []]) (
 some [.s a0, .b true, .l a6])) := (zd _ _).trans (by kernel_rfl)
theorem kqb5 : SigOk Tryz.prog (dqb5.sig (Lqb5 none)) ∧ (dqb5.sig (Lqb5 none)).ok = true := zf (zb kqbc (by kernel_rfl) (zb kqbi (by kernel_rfl) ze)) (by kernel_rfl) (by kernel_rfl) (by kernel_rfl)
def dqb6 : FD := { fn := 142, nb := 0, pre := ⟨[.sc (.s 0)], []⟩, post := ⟨[.sc (.b 0)], []⟩, sh := false, cuts := [⟨2, [0, 5, 6], ⟨[.sc (.s 0), .sc (.i .i64 1), .sc (.i .i64 2)], []⟩⟩] }
noncomputable def Lqb6 : Option Nat → Lv → Option Lv := Lim Tryz.prog [] dqb6 Tryz.f142
theorem eqb6_i (a0 : ByteArray) : Lqb6 none [.s a0] =
 Lqb6 (some 2) [.s a0, .i (a0.size : Int), .i 0] := (zd _ _).trans (by kernel_rfl)
theorem eqb6_2 (a0 : ByteArray) (a1 a2 : Int) : Lqb6 (some 2) [.s a0, .i a1, .i a2] =
 cond (decide (a2 < a1)) (
 cond (inb a2 a0.size) (
 cond (decide ((byteAt a0 a2.toNat) < 33)) (
 some [.b false]) (
 cond (inb a2 a0.size) (
 cond (decide (126 < (byteAt a0 a2.toNat))) (
 some [.b false]) (
 Lqb6 (some 2) [.s a0, .i a1, .i (IntKind.i64.wrap (a2 + 1))])) (
 none))) (
 none)) (
 cond (decide (1 ≤ (a0.size : Int))) (
 some [.b (decide ((a0.size : Int) ≤ 40))]) (
 some [.b false])) := (zd _ _).trans (by kernel_rfl)
theorem kqb6 : SigOk Tryz.prog (dqb6.sig (Lqb6 none)) ∧ (dqb6.sig (Lqb6 none)).ok = true := zf ze (by kernel_rfl) (by kernel_rfl) (by kernel_rfl)
def dqc1 : FD := { fn := 184, nb := 0, pre := ⟨[.sc (.i .i64 0)], []⟩, post := ⟨[.sc (.b 0)], []⟩, sh := false, cuts := [] }
noncomputable def Lqc1 : Option Nat → Lv → Option Lv := Lim Tryz.prog [] dqc1 Tryz.f184
theorem eqc1_i (a0 : Int) : Lqc1 none [.i a0] =
 cond (a0 == 2) (
 some [.b true]) (
 cond (a0 == 4) (
 some [.b true]) (
 some [.b (a0 == 7)])) := (zd _ _).trans (by kernel_rfl)
theorem kqc1 : SigOk Tryz.prog (dqc1.sig (Lqc1 none)) ∧ (dqc1.sig (Lqc1 none)).ok = true := zf ze (by kernel_rfl) (by kernel_rfl) (by kernel_rfl)
def dqc2 : FD := { fn := 185, nb := 0, pre := ⟨[.sc (.i .i64 0)], []⟩, post := ⟨[.sc (.b 0)], []⟩, sh := false, cuts := [] }
noncomputable def Lqc2 : Option Nat → Lv → Option Lv := Lim Tryz.prog [] dqc2 Tryz.f185
theorem eqc2_i (a0 : Int) : Lqc2 none [.i a0] =
 cond (a0 == 2) (
 some [.b true]) (
 some [.b (a0 == 3)]) := (zd _ _).trans (by kernel_rfl)
theorem kqc2 : SigOk Tryz.prog (dqc2.sig (Lqc2 none)) ∧ (dqc2.sig (Lqc2 none)).ok = true := zf ze (by kernel_rfl) (by kernel_rfl) (by kernel_rfl)
def dqe : FD := { fn := 118, nb := 0, pre := ⟨[.ag [.i .i64 0, .s 1, .s 2, .i .i64 3, .s 4, .fz 9 false 5], .sc (.i .i64 6)], []⟩, post := ⟨[.sc (.b 0)], []⟩, sh := false, cuts := [⟨5, [1, 2], ⟨[.sc (.i .i64 0), .sc (.pt 0 0)], [.bx [.i .i64 1, .s 2, .s 3, .i .i64 4, .s 5, .fz 9 false 6]]⟩⟩, ⟨7, [1, 2], ⟨[.sc (.i .i64 0), .sc (.pt 0 0)], [.bx [.i .i64 1, .s 2, .s 3, .i .i64 4, .s 5, .fz 9 false 6]]⟩⟩, ⟨13, [1, 2, 5, 6, 62], ⟨[.sc (.i .i64 0), .sc (.pt 0 0), .sc (.i .i64 1), .sc (.i .i64 2), .sc (.i .i64 3)], [.bx [.i .i64 4, .s 5, .s 6, .i .i64 7, .s 8, .fz 9 false 9]]⟩⟩, ⟨15, [1, 2, 5, 6], ⟨[.sc (.i .i64 0), .sc (.pt 0 0), .sc (.i .i64 1), .sc (.i .i64 2)], [.bx [.i .i64 3, .s 4, .s 5, .i .i64 6, .s 7, .fz 9 false 8]]⟩⟩] }
noncomputable def Lqe : Option Nat → Lv → Option Lv := Lim Tryz.prog [dqbc.sig (Lqbc none), dqbi.sig (Lqbi none), dqb6.sig (Lqb6 none), dqc1.sig (Lqc1 none), dqc2.sig (Lqc2 none)] dqe Tryz.f118
theorem eqe_i (a0 : Int) (a1 a2 : ByteArray) (a3 : Int) (a4 : ByteArray) (a5 : Rw) (a6 : Int) : Lqe none [.i a0, .s a1, .s a2, .i a3, .s a4, .l a5, .i a6] =
 cond (decide (a0 < 1)) (
 some [.b false]) (
 cond (decide (7 < a0)) (
 some [.b false]) (
 (Lqbc none [.i a6]).bind fun y1 =>
 cond (!(g y1 0).bool) (
 some [.b false]) (
 (Lqc1 none [.i a0]).bind fun y2 =>
 cond ((g y2 0).bool) (
 cond ((a1.size : Int) != a6) (
 some [.b false]) (
 (Lqc1 none [.i a0]).bind fun y3 =>
 cond (!(g y3 0).bool) (
 cond (!Eng.seq a1 (⟨#[]⟩ : ByteArray)) (
 some [.b false]) (
 Lqe (some 5) [.i a6, .i a0, .s a1, .s a2, .i a3, .s a4, .l a5])) (
 Lqe (some 5) [.i a6, .i a0, .s a1, .s a2, .i a3, .s a4, .l a5]))) (
 (Lqc1 none [.i a0]).bind fun y4 =>
 cond (!(g y4 0).bool) (
 cond (!Eng.seq a1 (⟨#[]⟩ : ByteArray)) (
 some [.b false]) (
 Lqe (some 5) [.i a6, .i a0, .s a1, .s a2, .i a3, .s a4, .l a5])) (
 Lqe (some 5) [.i a6, .i a0, .s a1, .s a2, .i a3, .s a4, .l a5]))))) := (zd _ _).trans (by kernel_rfl)
theorem eqe_5 (a0 a1 : Int) (a2 a3 : ByteArray) (a4 : Int) (a5 : ByteArray) (a6 : Rw) : Lqe (some 5) [.i a0, .i a1, .s a2, .s a3, .i a4, .s a5, .l a6] =
 (Lqc2 none [.i a1]).bind fun y1 =>
 cond ((g y1 0).bool) (
 (Lqb6 none [.s a3]).bind fun y2 =>
 cond (!(g y2 0).bool) (
 some [.b false]) (
 (Lqc2 none [.i a1]).bind fun y3 =>
 cond (!(g y3 0).bool) (
 cond (!Eng.seq a3 (⟨#[]⟩ : ByteArray)) (
 some [.b false]) (
 Lqe (some 7) [.i a0, .i a1, .s a2, .s a3, .i a4, .s a5, .l a6])) (
 Lqe (some 7) [.i a0, .i a1, .s a2, .s a3, .i a4, .s a5, .l a6]))) (
 (Lqc2 none [.i a1]).bind fun y4 =>
 cond (!(g y4 0).bool) (
 cond (!Eng.seq a3 (⟨#[]⟩ : ByteArray)) (
 some [.b false]) (
 Lqe (some 7) [.i a0, .i a1, .s a2, .s a3, .i a4, .s a5, .l a6])) (
 Lqe (some 7) [.i a0, .i a1, .s a2, .s a3, .i a4, .s a5, .l a6])) := (zd _ _).trans (by kernel_rfl)
theorem eqe_7 (a0 a1 : Int) (a2 a3 : ByteArray) (a4 : Int) (a5 : ByteArray) (a6 : Rw) : Lqe (some 7) [.i a0, .i a1, .s a2, .s a3, .i a4, .s a5, .l a6] =
 cond (a1 == 1) (
 cond (a1 == 1) (
 Lqe (some 15) [.i a0, .i 1, .i 100000, .i a1, .s a2, .s a3, .i a4, .s a5, .l a6]) (
 Lqe (some 13) [.i a0, .i 0, .i 0, .i a1, .i a1, .s a2, .s a3, .i a4, .s a5, .l a6])) (
 cond (a1 == 4) (
 cond (a1 == 4) (
 Lqe (some 15) [.i a0, .i 1, .i 100000, .i a1, .s a2, .s a3, .i a4, .s a5, .l a6]) (
 Lqe (some 13) [.i a0, .i 0, .i 0, .i a1, .i a1, .s a2, .s a3, .i a4, .s a5, .l a6])) (
 cond (a1 == 6) (
 Lqe (some 15) [.i a0, .i 1, .i 100000, .i a1, .s a2, .s a3, .i a4, .s a5, .l a6]) (
 Lqe (some 13) [.i a0, .i 0, .i 0, .i a1, .i a1, .s a2, .s a3, .i a4, .s a5, .l a6]))) := (zd _ _).trans (by kernel_rfl)
theorem eqe_13 (a0 a1 a2 a3 a4 : Int) (a5 a6 : ByteArray) (a7 : Int) (a8 : ByteArray) (a9 : Rw) : Lqe (some 13) [.i a0, .i a1, .i a2, .i a3, .i a4, .s a5, .s a6, .i a7, .s a8, .l a9] =
 cond (a3 == 5) (
 Lqe (some 15) [.i a0, .i 1, .i 1000000000, .i a4, .s a5, .s a6, .i a7, .s a8, .l a9]) (
 Lqe (some 15) [.i a0, .i a1, .i a2, .i a4, .s a5, .s a6, .i a7, .s a8, .l a9]) := (zd _ _).trans (by kernel_rfl)
theorem eqe_15 (a0 a1 a2 a3 : Int) (a4 a5 : ByteArray) (a6 : Int) (a7 : ByteArray) (a8 : Rw) : Lqe (some 15) [.i a0, .i a1, .i a2, .i a3, .s a4, .s a5, .i a6, .s a7, .l a8] =
 cond (decide (a6 < a1)) (
 some [.b false]) (
 cond (decide (a2 < a6)) (
 some [.b false]) (
 cond (a3 == 1) (
 (Lqbi none [.s a7, .l a8, .i a0]).bind fun y1 =>
 some [.b ((g y1 0).bool)]) (
 cond (Eng.seq a7 (⟨#[]⟩ : ByteArray)) (
 some [.b ((a8.length : Int) == 0)]) (
 some [.b false])))) := (zd _ _).trans (by kernel_rfl)
theorem kqe : SigOk Tryz.prog (dqe.sig (Lqe none)) ∧ (dqe.sig (Lqe none)).ok = true := zf (zb kqbc (by kernel_rfl) (zb kqbi (by kernel_rfl) (zb kqb6 (by kernel_rfl) (zb kqc1 (by kernel_rfl) (zb kqc2 (by kernel_rfl) ze))))) (by kernel_rfl) (by kernel_rfl) (by kernel_rfl)
def dqdp : FD := { fn := 36, nb := 0, pre := ⟨[.sc (.s 0), .sc (.i .i64 1)], []⟩, post := ⟨[.tu [(true, [.i .i64 0, .s 1, .s 2, .i .i64 3, .s 4, .ow 0]), (false, [.b 5])]], [.rw 9 true 6]⟩, sh := false, cuts := [] }
noncomputable def Lqdp : Option Nat → Lv → Option Lv := Lim Tryz.prog [dqbc.sig (Lqbc none), dqdo.sig (Lqdo none), dqb5.sig (Lqb5 none), dqe.sig (Lqe none)] dqdp Tryz.f36
theorem eqdp_i (a0 : ByteArray) (a1 : Int) : Lqdp none [.s a0, .i a1] =
 cond (decide ((a0.size : Int) < 6)) (
 some [.i 0, .s (⟨#[]⟩ : ByteArray), .s (⟨#[]⟩ : ByteArray), .i 0, .s (⟨#[]⟩ : ByteArray), .b false, .l []]) (
 (Lqbc none [.i a1]).bind fun y1 =>
 cond (!(g y1 0).bool) (
 some [.i 0, .s (⟨#[]⟩ : ByteArray), .s (⟨#[]⟩ : ByteArray), .i 0, .s (⟨#[]⟩ : ByteArray), .b false, .l []]) (
 cond (inb 5 a0.size) (
 cond (inb 0 a0.size) (
 cond (decide (5 ≤ (a0.size : Int))) (
 (Lqdo none [.l (rowsOf (a0.extract 1 5))]).bind fun y2 =>
 cond (decide (6 ≤ (a0.size : Int))) (
 cond (decide (((a0.extract 6 a0.size).size : Int) < (IntKind.i64.wrap (byteAt a0 5)))) (
 some [.i 0, .s (⟨#[]⟩ : ByteArray), .s (⟨#[]⟩ : ByteArray), .i 0, .s (⟨#[]⟩ : ByteArray), .b false, .l []]) (
 cond (decide (0 ≤ (IntKind.i64.wrap (byteAt a0 5)))) (
 cond (decide ((IntKind.i64.wrap (byteAt a0 5)) ≤ ((a0.extract 6 a0.size).size : Int))) (
 cond (decide (0 ≤ (IntKind.i64.wrap (byteAt a0 5)))) (
 cond (decide ((IntKind.i64.wrap (byteAt a0 5)) ≤ ((a0.extract 6 a0.size).size : Int))) (
 cond ((IntKind.i64.wrap (byteAt a0 0)) == 1) (
 (Lqb5 none [.s ((a0.extract 6 a0.size).extract ((IntKind.i64.wrap (byteAt a0 5)).toNat) ((a0.extract 6 a0.size).size)), .i a1]).bind fun y3 =>
 cond (!(g y3 1).bool) (
 some [.i 0, .s (⟨#[]⟩ : ByteArray), .s (⟨#[]⟩ : ByteArray), .i 0, .s (⟨#[]⟩ : ByteArray), .b false, .l []]) (
 (Lqe none [.i (IntKind.i64.wrap (byteAt a0 0)), .s (⟨#[]⟩ : ByteArray), .s ((a0.extract 6 a0.size).extract 0 ((IntKind.i64.wrap (byteAt a0 5)).toNat)), .i (IntKind.i64.wrap ((g y2 0).int)), .s ((g y3 0).str), .l ((g y3 2).list), .i a1]).bind fun y4 =>
 cond (!(g y4 0).bool) (
 some [.i 0, .s (⟨#[]⟩ : ByteArray), .s (⟨#[]⟩ : ByteArray), .i 0, .s (⟨#[]⟩ : ByteArray), .b false, .l []]) (
 some [.i (IntKind.i64.wrap (byteAt a0 0)), .s (⟨#[]⟩ : ByteArray), .s ((a0.extract 6 a0.size).extract 0 ((IntKind.i64.wrap (byteAt a0 5)).toNat)), .i (IntKind.i64.wrap ((g y2 0).int)), .s ((g y3 0).str), .b true, .l ((g y3 2).list)]))) (
 (Lqe none [.i (IntKind.i64.wrap (byteAt a0 0)), .s ((a0.extract 6 a0.size).extract ((IntKind.i64.wrap (byteAt a0 5)).toNat) ((a0.extract 6 a0.size).size)), .s ((a0.extract 6 a0.size).extract 0 ((IntKind.i64.wrap (byteAt a0 5)).toNat)), .i (IntKind.i64.wrap ((g y2 0).int)), .s (⟨#[]⟩ : ByteArray), .l ([]), .i a1]).bind fun y5 =>
 cond (!(g y5 0).bool) (
 some [.i 0, .s (⟨#[]⟩ : ByteArray), .s (⟨#[]⟩ : ByteArray), .i 0, .s (⟨#[]⟩ : ByteArray), .b false, .l []]) (
 some [.i (IntKind.i64.wrap (byteAt a0 0)), .s ((a0.extract 6 a0.size).extract ((IntKind.i64.wrap (byteAt a0 5)).toNat) ((a0.extract 6 a0.size).size)), .s ((a0.extract 6 a0.size).extract 0 ((IntKind.i64.wrap (byteAt a0 5)).toNat)), .i (IntKind.i64.wrap ((g y2 0).int)), .s (⟨#[]⟩ : ByteArray), .b true, .l []]))) (
 none)) (
 none)) (
 none)) (
 none))) (
 none)) (
 none)) (
 none)) (
 none))) := (zd _ _).trans (by kernel_rfl)
theorem kqdp : SigOk Tryz.prog (dqdp.sig (Lqdp none)) ∧ (dqdp.sig (Lqdp none)).ok = true := zf (zb kqbc (by kernel_rfl) (zb kqdo (by kernel_rfl) (zb kqb5 (by kernel_rfl) (zb kqe (by kernel_rfl) ze)))) (by kernel_rfl) (by kernel_rfl) (by kernel_rfl)
def dqbj : FD := { fn := 71, nb := 0, pre := ⟨[.sc (.s 0), .sc (.i .i64 1)], []⟩, post := ⟨[.sc (.s 0)], []⟩, sh := false, cuts := [⟨5, [0, 1, 5, 13, 14], ⟨[.sc (.s 0), .sc (.i .i64 1), .sc (.i .u64 2), .sc (.i .i64 3), .sc (.i .i64 4)], []⟩⟩, ⟨12, [5, 7, 8], ⟨[.sc (.i .u64 0), .sc (.ow 0), .sc (.i .i64 1)], [.rw 5 true 2]⟩⟩] }
noncomputable def Lqbj : Option Nat → Lv → Option Lv := Lim Tryz.prog [dqbc.sig (Lqbc none)] dqbj Tryz.f71
theorem eqbj_i (a0 : ByteArray) (a1 : Int) : Lqbj none [.s a0, .i a1] =
 (Lqbc none [.i a1]).bind fun y1 =>
 cond (!(g y1 0).bool) (
 some [.s (⟨#[]⟩ : ByteArray)]) (
 Lqbj (some 5) [.s a0, .i a1, .i 14695981039346656037, .i (a0.size : Int), .i 0]) := (zd _ _).trans (by kernel_rfl)
theorem eqbj_5 (a0 : ByteArray) (a1 a2 a3 a4 : Int) : Lqbj (some 5) [.s a0, .i a1, .i a2, .i a3, .i a4] =
 cond (decide (a4 < a3)) (
 cond (inb a4 a0.size) (
 Lqbj (some 5) [.s a0, .i a1, .i (IntKind.u64.wrap ((IntKind.u64.wrap (BitVec.ofInt (IntKind.u64).bits a2 ^^^ BitVec.ofInt (IntKind.u64).bits (IntKind.u64.wrap (byteAt a0 a4.toNat))).toNat) * 1099511628211)), .i a3, .i (IntKind.i64.wrap (a4 + 1))]) (
 none)) (
 cond (decide (0 ≤ a1)) (
 cond (a1 == a1) (
 cond (decide (a1 ≤ (most : Int))) (
 Lqbj (some 12) [.i a2, .i (IntKind.i64.wrap (a1 - 1)), .l (List.replicate a1.toNat ([.i 0] : List C))]) (
 none)) (
 none)) (
 none)) := (zd _ _).trans (by kernel_rfl)
theorem eqbj_12 (a0 a1 : Int) (a2 : Rw) : Lqbj (some 12) [.i a0, .i a1, .l a2] =
 cond (decide (0 ≤ a1)) (
 cond (inb a1 a2.length) (
 Lqbj (some 12) [.i (a0.fdiv (2 ^ 8)), .i (IntKind.i64.wrap (a1 - 1)), .l (wrs a2 a1.toNat 0 ([.i (IntKind.u8.wrap a0)] : List C))]) (
 none)) (
 some [.s (bytesOf a2)]) := (zd _ _).trans (by kernel_rfl)
theorem kqbj : SigOk Tryz.prog (dqbj.sig (Lqbj none)) ∧ (dqbj.sig (Lqbj none)).ok = true := zf (zb kqbc (by kernel_rfl) ze) (by kernel_rfl) (by kernel_rfl) (by kernel_rfl)
def dqd0 : FD := { fn := 160, nb := 0, pre := ⟨[.sc (.i .i64 0), .sc (.pt 0 0), .sc (.pt 2 0)], [.rb [.pt 1 0], .rb [.i .i64 1, .i .i64 2, .i .i64 3, .i .i64 4, .fz 90 false 5, .fz 156 false 6, .fz 158 false 7], .rb [.s 8]]⟩, post := ⟨[.sc (.b 0)], []⟩, sh := false, cuts := [] }
noncomputable def Lqd0 : Option Nat → Lv → Option Lv := Lim Tryz.prog [] dqd0 Tryz.f160
theorem eqd0_i (a0 a1 a2 a3 a4 : Int) (a5 a6 a7 : Rw) (a8 : ByteArray) : Lqd0 none [.i a0, .i a1, .i a2, .i a3, .i a4, .l a5, .l a6, .l a7, .s a8] =
 cond (inb a0 a5.length) (
 some [.b (!slt ((rd a5 a0.toNat 0).str) a8)]) (
 none) := (zd _ _).trans (by kernel_rfl)
theorem kqd0 : SigOk Tryz.prog (dqd0.sig (Lqd0 none)) ∧ (dqd0.sig (Lqd0 none)).ok = true := zf ze (by kernel_rfl) (by kernel_rfl) (by kernel_rfl)
def dqb7 : FD := { fn := 159, nb := 0, pre := ⟨[.sc (.i .i64 0), .sc (.fn 160 [(0, 0), (2, 0)])], [.rb [.pt 1 0], .rb [.i .i64 1, .i .i64 2, .i .i64 3, .i .i64 4, .fz 90 false 5, .fz 156 false 6, .fz 158 false 7], .rb [.s 8]]⟩, post := ⟨[.sc (.i .i64 0)], []⟩, sh := false, cuts := [⟨2, [1, 5, 6], ⟨[.sc (.fn 160 [(0, 0), (1, 0)]), .sc (.i .i64 0), .sc (.i .i64 1)], [.rb [.pt 2 0], .rb [.s 2], .rb [.i .i64 3, .i .i64 4, .i .i64 5, .i .i64 6, .fz 90 false 7, .fz 156 false 8, .fz 158 false 9]]⟩⟩] }
noncomputable def Lqb7 : Option Nat → Lv → Option Lv := Lim Tryz.prog [dqd0.sig (Lqd0 none)] dqb7 Tryz.f159
theorem eqb7_i (a0 a1 a2 a3 a4 : Int) (a5 a6 a7 : Rw) (a8 : ByteArray) : Lqb7 none [.i a0, .i a1, .i a2, .i a3, .i a4, .l a5, .l a6, .l a7, .s a8] =
 Lqb7 (some 2) [.i 0, .i a0, .s a8, .i a1, .i a2, .i a3, .i a4, .l a5, .l a6, .l a7] := (zd _ _).trans (by kernel_rfl)
theorem eqb7_2 (a0 a1 : Int) (a2 : ByteArray) (a3 a4 a5 a6 : Int) (a7 a8 a9 : Rw) : Lqb7 (some 2) [.i a0, .i a1, .s a2, .i a3, .i a4, .i a5, .i a6, .l a7, .l a8, .l a9] =
 cond (decide (a0 < a1)) (
 (Lqd0 none [.i (IntKind.i64.wrap ((IntKind.u64.wrap (IntKind.i64.wrap (a0 + a1))).fdiv (2 ^ 1))), .i a3, .i a4, .i a5, .i a6, .l a7, .l a8, .l a9, .s a2]).bind fun y1 =>
 cond (!(g y1 0).bool) (
 Lqb7 (some 2) [.i (IntKind.i64.wrap ((IntKind.i64.wrap ((IntKind.u64.wrap (IntKind.i64.wrap (a0 + a1))).fdiv (2 ^ 1))) + 1)), .i a1, .s a2, .i a3, .i a4, .i a5, .i a6, .l a7, .l a8, .l a9]) (
 Lqb7 (some 2) [.i a0, .i (IntKind.i64.wrap ((IntKind.u64.wrap (IntKind.i64.wrap (a0 + a1))).fdiv (2 ^ 1))), .s a2, .i a3, .i a4, .i a5, .i a6, .l a7, .l a8, .l a9])) (
 some [.i a0]) := (zd _ _).trans (by kernel_rfl)
theorem kqb7 : SigOk Tryz.prog (dqb7.sig (Lqb7 none)) ∧ (dqb7.sig (Lqb7 none)).ok = true := zf (zb kqd0 (by kernel_rfl) ze) (by kernel_rfl) (by kernel_rfl) (by kernel_rfl)
def dqbk : FD := { fn := 96, nb := 0, pre := ⟨[.sc (.pt 0 0), .sc (.s 0)], [.rb [.i .i64 1, .i .i64 2, .i .i64 3, .i .i64 4, .fz 90 false 5, .fz 156 false 6, .fz 158 false 7]]⟩, post := ⟨[.tu [(false, [.i .i64 0]), (false, [.b 1])]], []⟩, sh := false, cuts := [] }
noncomputable def Lqbk : Option Nat → Lv → Option Lv := Lim Tryz.prog [dqb7.sig (Lqb7 none)] dqbk Tryz.f96
theorem eqbk_i (a0 : ByteArray) (a1 a2 a3 a4 : Int) (a5 a6 a7 : Rw) : Lqbk none [.s a0, .i a1, .i a2, .i a3, .i a4, .l a5, .l a6, .l a7] =
 (Lqb7 none [.i (a5.length : Int), .i a1, .i a2, .i a3, .i a4, .l a5, .l a6, .l a7, .s a0]).bind fun y1 =>
 cond (decide ((g y1 0).int < (a5.length : Int))) (
 cond (inb ((g y1 0).int) a5.length) (
 some [.i ((g y1 0).int), .b (Eng.seq ((rd a5 (((g y1 0).int).toNat) 0).str) a0)]) (
 none)) (
 some [.i ((g y1 0).int), .b false]) := (zd _ _).trans (by kernel_rfl)
theorem kqbk : SigOk Tryz.prog (dqbk.sig (Lqbk none)) ∧ (dqbk.sig (Lqbk none)).ok = true := zf (zb kqb7 (by kernel_rfl) ze) (by kernel_rfl) (by kernel_rfl) (by kernel_rfl)
def dqz : FD := { fn := 97, nb := 0, pre := ⟨[.sc (.fz 9 false 0)], []⟩, post := ⟨[.sc (.ow 0)], [.rw 9 true 0]⟩, sh := false, cuts := [] }
noncomputable def Lqz : Option Nat → Lv → Option Lv := Lim Tryz.prog [] dqz Tryz.f97
theorem eqz_i (a0 : Rw) : Lqz none [.l a0] =
 cond (decide (a0.length ≤ most)) (
 some [.l a0]) (
 none) := (zd _ _).trans (by kernel_rfl)
theorem kqz : SigOk Tryz.prog (dqz.sig (Lqz none)) ∧ (dqz.sig (Lqz none)).ok = true := zf ze (by kernel_rfl) (by kernel_rfl) (by kernel_rfl)
end KV
end
section
set_option maxRecDepth 100000
namespace KV
open Go Go.Eng Go.Proofs
def dq1 : FD := { fn := 122, nb := 0, pre := ⟨[.ag [.s 0, .fz 9 false 1]], []⟩, post := ⟨[.sc (.s 0)], []⟩, sh := false, cuts := [⟨3, [1, 3, 13, 14, 15], ⟨[.sc (.pt 0 0), .sc (.s 0), .sc (.fz 9 false 1), .sc (.i .i64 2), .sc (.i .i64 3)], [.bx [.s 4, .fz 9 false 5]]⟩⟩] }
noncomputable def Lq1 : Option Nat → Lv → Option Lv := Lim Tryz.prog [] dq1 Tryz.f122
theorem eq1_i (a0 : ByteArray) (a1 : Rw) : Lq1 none [.s a0, .l a1] =
 Lq1 (some 3) [.s (bytesOf ([[.i (IntKind.u8.wrap (a1.length : Int))]] : Rw)), .l a1, .i (a1.length : Int), .i 0, .s a0, .l a1] := (zd _ _).trans (by kernel_rfl)
theorem eq1_3 (a0 : ByteArray) (a1 : Rw) (a2 a3 : Int) (a4 : ByteArray) (a5 : Rw) : Lq1 (some 3) [.s a0, .l a1, .i a2, .i a3, .s a4, .l a5] =
 cond (decide (a3 < a2)) (
 cond (inb a3 a1.length) (
 cond (decide (a0.size + ((rd a1 a3.toNat 0).str).size ≤ most)) (
 Lq1 (some 3) [.s (a0 ++ ((rd a1 a3.toNat 0).str)), .l a1, .i a2, .i (IntKind.i64.wrap (a3 + 1)), .s a4, .l a5]) (
 none)) (
 none)) (
 cond (decide (a0.size + a4.size ≤ most)) (
 some [.s (a0 ++ a4)]) (
 none)) := (zd _ _).trans (by kernel_rfl)
theorem kq1 : SigOk Tryz.prog (dq1.sig (Lq1 none)) ∧ (dq1.sig (Lq1 none)).ok = true := zf ze (by kernel_rfl) (by kernel_rfl) (by kernel_rfl)
def dqbt : FD := { fn := 186, nb := 0, pre := ⟨[.sc (.i .i64 0)], []⟩, post := ⟨[.ag [.i .i64 0, .i .i64 1, .i .i64 2, .i .i64 3, .i .i64 4, .fz 90 true 5, .fz 156 true 6, .fz 158 true 7, .s 8, .i .i64 9, .s 10, .s 11]], []⟩, sh := false, cuts := [] }
noncomputable def Lqbt : Option Nat → Lv → Option Lv := Lim Tryz.prog [] dqbt Tryz.f186
theorem eqbt_i (a0 : Int) : Lqbt none [.i a0] =
 some [.i a0, .i 0, .i 0, .i 0, .i 0, .l ([]), .l ([]), .l ([]), .s (⟨#[]⟩ : ByteArray), .i 0, .s (⟨#[]⟩ : ByteArray), .s (⟨#[]⟩ : ByteArray)] := (zd _ _).trans (by kernel_rfl)
theorem kqbt : SigOk Tryz.prog (dqbt.sig (Lqbt none)) ∧ (dqbt.sig (Lqbt none)).ok = true := zf ze (by kernel_rfl) (by kernel_rfl) (by kernel_rfl)
def dqdl : FD := { fn := 187, nb := 3, pre := ⟨[.sc (.s 0), .sc (.pt 0 0), .sc (.pt 2 0)], [.bx [.pt 1 0], .bx [.i .i64 1, .i .i64 2, .i .i64 3, .i .i64 4, .ow 3, .ow 4, .ow 5], .bx [.i .i64 5, .s 6, .s 7, .i .i64 8, .s 9, .fz 9 false 10], .rw 90 false 11, .rw 156 false 12, .rw 158 false 13]⟩, post := ⟨[.ag [.i .i64 0, .i .i64 1, .i .i64 2, .i .i64 3, .i .i64 4, .fz 90 true 5, .fz 156 true 6, .fz 158 true 7, .s 8, .i .i64 9, .s 10, .s 11]], [.bx [.pt 1 0], .bx [.i .i64 12, .i .i64 13, .i .i64 14, .i .i64 15, .ow 3, .ow 4, .ow 5], .bx [.i .i64 16, .s 17, .s 18, .i .i64 19, .s 20, .fz 9 false 21], .rw 90 false 22, .rw 156 false 23, .rw 158 false 24]⟩, sh := true, cuts := [] }
noncomputable def Lqdl : Option Nat → Lv → Option Lv := Lim Tryz.prog [] dqdl Tryz.f187
theorem eqdl_i (a0 : ByteArray) (a1 a2 a3 a4 a5 : Int) (a6 a7 : ByteArray) (a8 : Int) (a9 : ByteArray) (a10 a11 a12 a13 : Rw) : Lqdl none [.s a0, .i a1, .i a2, .i a3, .i a4, .i a5, .s a6, .s a7, .i a8, .s a9, .l a10, .l a11, .l a12, .l a13] =
 cond (decide (a13.length + ([[.i (IntKind.i64.wrap (a3 + 1)), .s a0, .i (IntKind.i64.wrap (a2 + a8))]] : Rw).length ≤ most)) (
 some [.i 0, .i 0, .i 0, .i 0, .i 0, .l ([]), .l ([]), .l ([]), .s (⟨#[]⟩ : ByteArray), .i (IntKind.i64.wrap (a3 + 1)), .s (⟨#[]⟩ : ByteArray), .s (⟨#[]⟩ : ByteArray), .i a1, .i a2, .i (IntKind.i64.wrap (a3 + 1)), .i a4, .i a5, .s a6, .s a7, .i a8, .s a9, .l a10, .l a11, .l a12, .l (a13 ++ ([[.i (IntKind.i64.wrap (a3 + 1)), .s a0, .i (IntKind.i64.wrap (a2 + a8))]] : Rw))]) (
 none) := (zd _ _).trans (by kernel_rfl)
theorem kqdl : SigOk Tryz.prog (dqdl.sig (Lqdl none)) ∧ (dqdl.sig (Lqdl none)).ok = true := zf ze (by kernel_rfl) (by kernel_rfl) (by kernel_rfl)
def dqd1 : FD := { fn := 221, nb := 0, pre := ⟨[.sc (.i .i64 0), .sc (.pt 0 0), .sc (.pt 2 0)], [.rb [.pt 1 0], .rb [.i .i64 1, .i .i64 2, .i .i64 3, .i .i64 4, .fz 90 false 5, .fz 156 false 6, .fz 158 false 7], .rb [.s 8]]⟩, post := ⟨[.sc (.b 0)], []⟩, sh := false, cuts := [] }
noncomputable def Lqd1 : Option Nat → Lv → Option Lv := Lim Tryz.prog [] dqd1 Tryz.f221
theorem eqd1_i (a0 a1 a2 a3 a4 : Int) (a5 a6 a7 : Rw) (a8 : ByteArray) : Lqd1 none [.i a0, .i a1, .i a2, .i a3, .i a4, .l a5, .l a6, .l a7, .s a8] =
 cond (inb a0 a6.length) (
 some [.b (!slt ((rd a6 a0.toNat 0).str) a8)]) (
 none) := (zd _ _).trans (by kernel_rfl)
theorem kqd1 : SigOk Tryz.prog (dqd1.sig (Lqd1 none)) ∧ (dqd1.sig (Lqd1 none)).ok = true := zf ze (by kernel_rfl) (by kernel_rfl) (by kernel_rfl)
def dqb8 : FD := { fn := 159, nb := 0, pre := ⟨[.sc (.i .i64 0), .sc (.fn 221 [(0, 0), (2, 0)])], [.rb [.pt 1 0], .rb [.i .i64 1, .i .i64 2, .i .i64 3, .i .i64 4, .fz 90 false 5, .fz 156 false 6, .fz 158 false 7], .rb [.s 8]]⟩, post := ⟨[.sc (.i .i64 0)], []⟩, sh := false, cuts := [⟨2, [1, 5, 6], ⟨[.sc (.fn 221 [(0, 0), (1, 0)]), .sc (.i .i64 0), .sc (.i .i64 1)], [.rb [.pt 2 0], .rb [.s 2], .rb [.i .i64 3, .i .i64 4, .i .i64 5, .i .i64 6, .fz 90 false 7, .fz 156 false 8, .fz 158 false 9]]⟩⟩] }
noncomputable def Lqb8 : Option Nat → Lv → Option Lv := Lim Tryz.prog [dqd1.sig (Lqd1 none)] dqb8 Tryz.f159
theorem eqb8_i (a0 a1 a2 a3 a4 : Int) (a5 a6 a7 : Rw) (a8 : ByteArray) : Lqb8 none [.i a0, .i a1, .i a2, .i a3, .i a4, .l a5, .l a6, .l a7, .s a8] =
 Lqb8 (some 2) [.i 0, .i a0, .s a8, .i a1, .i a2, .i a3, .i a4, .l a5, .l a6, .l a7] := (zd _ _).trans (by kernel_rfl)
theorem eqb8_2 (a0 a1 : Int) (a2 : ByteArray) (a3 a4 a5 a6 : Int) (a7 a8 a9 : Rw) : Lqb8 (some 2) [.i a0, .i a1, .s a2, .i a3, .i a4, .i a5, .i a6, .l a7, .l a8, .l a9] =
 cond (decide (a0 < a1)) (
 (Lqd1 none [.i (IntKind.i64.wrap ((IntKind.u64.wrap (IntKind.i64.wrap (a0 + a1))).fdiv (2 ^ 1))), .i a3, .i a4, .i a5, .i a6, .l a7, .l a8, .l a9, .s a2]).bind fun y1 =>
 cond (!(g y1 0).bool) (
 Lqb8 (some 2) [.i (IntKind.i64.wrap ((IntKind.i64.wrap ((IntKind.u64.wrap (IntKind.i64.wrap (a0 + a1))).fdiv (2 ^ 1))) + 1)), .i a1, .s a2, .i a3, .i a4, .i a5, .i a6, .l a7, .l a8, .l a9]) (
 Lqb8 (some 2) [.i a0, .i (IntKind.i64.wrap ((IntKind.u64.wrap (IntKind.i64.wrap (a0 + a1))).fdiv (2 ^ 1))), .s a2, .i a3, .i a4, .i a5, .i a6, .l a7, .l a8, .l a9])) (
 some [.i a0]) := (zd _ _).trans (by kernel_rfl)
theorem kqb8 : SigOk Tryz.prog (dqb8.sig (Lqb8 none)) ∧ (dqb8.sig (Lqb8 none)).ok = true := zf (zb kqd1 (by kernel_rfl) ze) (by kernel_rfl) (by kernel_rfl) (by kernel_rfl)
def dqdm : FD := { fn := 188, nb := 0, pre := ⟨[.sc (.pt 0 0), .sc (.s 0)], [.rb [.i .i64 1, .i .i64 2, .i .i64 3, .i .i64 4, .fz 90 false 5, .fz 156 false 6, .fz 158 false 7]]⟩, post := ⟨[.tu [(false, [.i .i64 0]), (false, [.b 1])]], []⟩, sh := false, cuts := [] }
noncomputable def Lqdm : Option Nat → Lv → Option Lv := Lim Tryz.prog [dqb8.sig (Lqb8 none)] dqdm Tryz.f188
theorem eqdm_i (a0 : ByteArray) (a1 a2 a3 a4 : Int) (a5 a6 a7 : Rw) : Lqdm none [.s a0, .i a1, .i a2, .i a3, .i a4, .l a5, .l a6, .l a7] =
 (Lqb8 none [.i (a6.length : Int), .i a1, .i a2, .i a3, .i a4, .l a5, .l a6, .l a7, .s a0]).bind fun y1 =>
 cond (decide ((g y1 0).int < (a6.length : Int))) (
 cond (inb ((g y1 0).int) a6.length) (
 some [.i ((g y1 0).int), .b (Eng.seq ((rd a6 (((g y1 0).int).toNat) 0).str) a0)]) (
 none)) (
 some [.i ((g y1 0).int), .b false]) := (zd _ _).trans (by kernel_rfl)
theorem kqdm : SigOk Tryz.prog (dqdm.sig (Lqdm none)) ∧ (dqdm.sig (Lqdm none)).ok = true := zf (zb kqb8 (by kernel_rfl) ze) (by kernel_rfl) (by kernel_rfl) (by kernel_rfl)
def dqd2 : FD := { fn := 222, nb := 0, pre := ⟨[.sc (.i .i64 0), .sc (.pt 0 0), .sc (.pt 2 0)], [.rb [.pt 1 0], .rb [.i .i64 1, .i .i64 2, .i .i64 3, .i .i64 4, .fz 90 false 5, .fz 156 false 6, .fz 158 false 7], .rb [.i .i64 8]]⟩, post := ⟨[.sc (.b 0)], []⟩, sh := false, cuts := [] }
noncomputable def Lqd2 : Option Nat → Lv → Option Lv := Lim Tryz.prog [] dqd2 Tryz.f222
theorem eqd2_i (a0 a1 a2 a3 a4 : Int) (a5 a6 a7 : Rw) (a8 : Int) : Lqd2 none [.i a0, .i a1, .i a2, .i a3, .i a4, .l a5, .l a6, .l a7, .i a8] =
 cond (inb a0 a7.length) (
 some [.b (decide (a8 ≤ (rd a7 a0.toNat 0).int))]) (
 none) := (zd _ _).trans (by kernel_rfl)
theorem kqd2 : SigOk Tryz.prog (dqd2.sig (Lqd2 none)) ∧ (dqd2.sig (Lqd2 none)).ok = true := zf ze (by kernel_rfl) (by kernel_rfl) (by kernel_rfl)
def dqb9 : FD := { fn := 159, nb := 0, pre := ⟨[.sc (.i .i64 0), .sc (.fn 222 [(0, 0), (2, 0)])], [.rb [.pt 1 0], .rb [.i .i64 1, .i .i64 2, .i .i64 3, .i .i64 4, .fz 90 false 5, .fz 156 false 6, .fz 158 false 7], .rb [.i .i64 8]]⟩, post := ⟨[.sc (.i .i64 0)], []⟩, sh := false, cuts := [⟨2, [1, 5, 6], ⟨[.sc (.fn 222 [(0, 0), (1, 0)]), .sc (.i .i64 0), .sc (.i .i64 1)], [.rb [.pt 2 0], .rb [.i .i64 2], .rb [.i .i64 3, .i .i64 4, .i .i64 5, .i .i64 6, .fz 90 false 7, .fz 156 false 8, .fz 158 false 9]]⟩⟩] }
noncomputable def Lqb9 : Option Nat → Lv → Option Lv := Lim Tryz.prog [dqd2.sig (Lqd2 none)] dqb9 Tryz.f159
theorem eqb9_i (a0 a1 a2 a3 a4 : Int) (a5 a6 a7 : Rw) (a8 : Int) : Lqb9 none [.i a0, .i a1, .i a2, .i a3, .i a4, .l a5, .l a6, .l a7, .i a8] =
 Lqb9 (some 2) [.i 0, .i a0, .i a8, .i a1, .i a2, .i a3, .i a4, .l a5, .l a6, .l a7] := (zd _ _).trans (by kernel_rfl)
theorem eqb9_2 (a0 a1 a2 a3 a4 a5 a6 : Int) (a7 a8 a9 : Rw) : Lqb9 (some 2) [.i a0, .i a1, .i a2, .i a3, .i a4, .i a5, .i a6, .l a7, .l a8, .l a9] =
 cond (decide (a0 < a1)) (
 (Lqd2 none [.i (IntKind.i64.wrap ((IntKind.u64.wrap (IntKind.i64.wrap (a0 + a1))).fdiv (2 ^ 1))), .i a3, .i a4, .i a5, .i a6, .l a7, .l a8, .l a9, .i a2]).bind fun y1 =>
 cond (!(g y1 0).bool) (
 Lqb9 (some 2) [.i (IntKind.i64.wrap ((IntKind.i64.wrap ((IntKind.u64.wrap (IntKind.i64.wrap (a0 + a1))).fdiv (2 ^ 1))) + 1)), .i a1, .i a2, .i a3, .i a4, .i a5, .i a6, .l a7, .l a8, .l a9]) (
 Lqb9 (some 2) [.i a0, .i (IntKind.i64.wrap ((IntKind.u64.wrap (IntKind.i64.wrap (a0 + a1))).fdiv (2 ^ 1))), .i a2, .i a3, .i a4, .i a5, .i a6, .l a7, .l a8, .l a9])) (
 some [.i a0]) := (zd _ _).trans (by kernel_rfl)
theorem kqb9 : SigOk Tryz.prog (dqb9.sig (Lqb9 none)) ∧ (dqb9.sig (Lqb9 none)).ok = true := zf (zb kqd2 (by kernel_rfl) ze) (by kernel_rfl) (by kernel_rfl) (by kernel_rfl)
def dqdq : FD := { fn := 189, nb := 0, pre := ⟨[.sc (.pt 0 0), .sc (.i .i64 0)], [.rb [.i .i64 1, .i .i64 2, .i .i64 3, .i .i64 4, .fz 90 false 5, .fz 156 false 6, .fz 158 false 7]]⟩, post := ⟨[.tu [(false, [.i .i64 0]), (false, [.b 1])]], []⟩, sh := false, cuts := [] }
noncomputable def Lqdq : Option Nat → Lv → Option Lv := Lim Tryz.prog [dqb9.sig (Lqb9 none)] dqdq Tryz.f189
theorem eqdq_i (a0 a1 a2 a3 a4 : Int) (a5 a6 a7 : Rw) : Lqdq none [.i a0, .i a1, .i a2, .i a3, .i a4, .l a5, .l a6, .l a7] =
 (Lqb9 none [.i (a7.length : Int), .i a1, .i a2, .i a3, .i a4, .l a5, .l a6, .l a7, .i a0]).bind fun y1 =>
 cond (decide ((g y1 0).int < (a7.length : Int))) (
 cond (inb ((g y1 0).int) a7.length) (
 some [.i ((g y1 0).int), .b ((rd a7 (((g y1 0).int).toNat) 0).int == a0)]) (
 none)) (
 some [.i ((g y1 0).int), .b false]) := (zd _ _).trans (by kernel_rfl)
theorem kqdq : SigOk Tryz.prog (dqdq.sig (Lqdq none)) ∧ (dqdq.sig (Lqdq none)).ok = true := zf (zb kqb9 (by kernel_rfl) ze) (by kernel_rfl) (by kernel_rfl) (by kernel_rfl)
def dq0 : FD := { fn := 190, nb := 0, pre := ⟨[.sc (.pt 0 0), .sc (.s 0)], [.rb [.i .i64 1, .i .i64 2, .i .i64 3, .i .i64 4, .fz 90 false 5, .fz 156 false 6, .fz 158 false 7]]⟩, post := ⟨[.sc (.b 0)], []⟩, sh := false, cuts := [⟨2, [0, 1, 12, 13, 14], ⟨[.sc (.pt 0 0), .sc (.s 0), .sc (.fz 156 false 1), .sc (.i .i64 2), .sc (.i .i64 3)], [.rb [.i .i64 4, .i .i64 5, .i .i64 6, .i .i64 7, .fz 90 false 8, .fz 156 false 9, .fz 158 false 10]]⟩⟩, ⟨8, [1, 26, 27, 28], ⟨[.sc (.s 0), .sc (.fz 158 false 1), .sc (.i .i64 2), .sc (.i .i64 3)], []⟩⟩] }
noncomputable def Lq0 : Option Nat → Lv → Option Lv := Lim Tryz.prog [] dq0 Tryz.f190
theorem eq0_i (a0 : ByteArray) (a1 a2 a3 a4 : Int) (a5 a6 a7 : Rw) : Lq0 none [.s a0, .i a1, .i a2, .i a3, .i a4, .l a5, .l a6, .l a7] =
 Lq0 (some 2) [.s a0, .l a6, .i (a6.length : Int), .i 0, .i a1, .i a2, .i a3, .i a4, .l a5, .l a6, .l a7] := (zd _ _).trans (by kernel_rfl)
theorem eq0_2 (a0 : ByteArray) (a1 : Rw) (a2 a3 a4 a5 a6 a7 : Int) (a8 a9 a10 : Rw) : Lq0 (some 2) [.s a0, .l a1, .i a2, .i a3, .i a4, .i a5, .i a6, .i a7, .l a8, .l a9, .l a10] =
 cond (decide (a3 < a2)) (
 cond (inb a3 a1.length) (
 cond (Eng.seq ((rd a1 a3.toNat 1).str) a0) (
 some [.b true]) (
 Lq0 (some 2) [.s a0, .l a1, .i a2, .i (IntKind.i64.wrap (a3 + 1)), .i a4, .i a5, .i a6, .i a7, .l a8, .l a9, .l a10])) (
 none)) (
 Lq0 (some 8) [.s a0, .l a10, .i (a10.length : Int), .i 0]) := (zd _ _).trans (by kernel_rfl)
theorem eq0_8 (a0 : ByteArray) (a1 : Rw) (a2 a3 : Int) : Lq0 (some 8) [.s a0, .l a1, .i a2, .i a3] =
 cond (decide (a3 < a2)) (
 cond (inb a3 a1.length) (
 cond (Eng.seq ((rd a1 a3.toNat 1).str) a0) (
 some [.b true]) (
 Lq0 (some 8) [.s a0, .l a1, .i a2, .i (IntKind.i64.wrap (a3 + 1))])) (
 none)) (
 some [.b false]) := (zd _ _).trans (by kernel_rfl)
theorem kq0 : SigOk Tryz.prog (dq0.sig (Lq0 none)) ∧ (dq0.sig (Lq0 none)).ok = true := zf ze (by kernel_rfl) (by kernel_rfl) (by kernel_rfl)
def dq2 : FD := { fn := 191, nb := 0, pre := ⟨[.sc (.pt 0 0), .sc (.s 0)], [.rb [.i .i64 1, .i .i64 2, .i .i64 3, .i .i64 4, .fz 90 false 5, .fz 156 false 6, .fz 158 false 7]]⟩, post := ⟨[.sc (.b 0)], []⟩, sh := false, cuts := [⟨2, [1, 12, 13, 14], ⟨[.sc (.s 0), .sc (.fz 90 false 1), .sc (.i .i64 2), .sc (.i .i64 3)], []⟩⟩, ⟨5, [1, 12, 13, 14, 20, 21, 22], ⟨[.sc (.s 0), .sc (.fz 90 false 1), .sc (.i .i64 2), .sc (.i .i64 3), .sc (.fz 9 false 4), .sc (.i .i64 5), .sc (.i .i64 6)], []⟩⟩] }
noncomputable def Lq2 : Option Nat → Lv → Option Lv := Lim Tryz.prog [] dq2 Tryz.f191
theorem eq2_i (a0 : ByteArray) (a1 a2 a3 a4 : Int) (a5 a6 a7 : Rw) : Lq2 none [.s a0, .i a1, .i a2, .i a3, .i a4, .l a5, .l a6, .l a7] =
 Lq2 (some 2) [.s a0, .l a5, .i (a5.length : Int), .i 0] := (zd _ _).trans (by kernel_rfl)
theorem eq2_2 (a0 : ByteArray) (a1 : Rw) (a2 a3 : Int) : Lq2 (some 2) [.s a0, .l a1, .i a2, .i a3] =
 cond (decide (a3 < a2)) (
 cond (inb a3 a1.length) (
 Lq2 (some 5) [.s a0, .l a1, .i a2, .i a3, .l ((rd a1 a3.toNat 3).list), .i (((rd a1 a3.toNat 3).list).length : Int), .i 0]) (
 none)) (
 some [.b false]) := (zd _ _).trans (by kernel_rfl)
theorem eq2_5 (a0 : ByteArray) (a1 : Rw) (a2 a3 : Int) (a4 : Rw) (a5 a6 : Int) : Lq2 (some 5) [.s a0, .l a1, .i a2, .i a3, .l a4, .i a5, .i a6] =
 cond (decide (a6 < a5)) (
 cond (inb a6 a4.length) (
 cond (Eng.seq ((rd a4 a6.toNat 0).str) a0) (
 some [.b true]) (
 Lq2 (some 5) [.s a0, .l a1, .i a2, .i a3, .l a4, .i a5, .i (IntKind.i64.wrap (a6 + 1))])) (
 none)) (
 Lq2 (some 2) [.s a0, .l a1, .i a2, .i (IntKind.i64.wrap (a3 + 1))]) := (zd _ _).trans (by kernel_rfl)
theorem kq2 : SigOk Tryz.prog (dq2.sig (Lq2 none)) ∧ (dq2.sig (Lq2 none)).ok = true := zf ze (by kernel_rfl) (by kernel_rfl) (by kernel_rfl)
def dqa : FD := { fn := 120, nb := 1, pre := ⟨[.sc (.pt 0 0), .ag [.i .i64 0, .s 1, .s 2, .i .i64 3, .s 4, .fz 9 false 5]], [.bx [.i .i64 6, .i .i64 7, .i .i64 8, .i .i64 9, .ow 1, .ow 2, .ow 3], .rw 90 false 10, .rw 156 false 11, .rw 158 false 12]⟩, post := ⟨[.ag [.i .i64 0, .i .i64 1, .i .i64 2, .i .i64 3, .i .i64 4, .fz 90 true 5, .fz 156 true 6, .fz 158 true 7, .s 8, .i .i64 9, .s 10, .s 11]], [.bx [.i .i64 12, .i .i64 13, .i .i64 14, .i .i64 15, .ow 1, .ow 2, .ow 3], .rw 90 false 16, .rw 156 false 17, .rw 158 false 18]⟩, sh := true, cuts := [⟨4, [2, 3, 4, 5, 6, 7], ⟨[.sc (.pt 1 0), .sc (.pt 2 0), .sc (.pt 3 0), .sc (.fn 186 []), .sc (.fn 187 [(1, 0), (2, 0)]), .sc (.b 0)], [.bx [.i .i64 1, .i .i64 2, .i .i64 3, .i .i64 4, .ow 4, .ow 5, .ow 6], .bx [.pt 0 0], .bx [.i .i64 5, .s 6, .s 7, .i .i64 8, .s 9, .fz 9 false 10], .bx [.i .i64 11, .i .i64 12, .i .i64 13, .i .i64 14, .i .i64 15, .ow 7, .ow 8, .ow 9, .s 16, .i .i64 17, .s 18, .s 19], .rw 90 false 20, .rw 156 false 21, .rw 158 false 22, .rw 90 true 23, .rw 156 true 24, .rw 158 true 25]⟩⟩, ⟨7, [2, 3, 4, 5, 6, 7, 55, 56, 57], ⟨[.sc (.pt 1 0), .sc (.pt 2 0), .sc (.pt 3 0), .sc (.fn 186 []), .sc (.fn 187 [(1, 0), (2, 0)]), .sc (.b 0), .sc (.fz 9 false 1), .sc (.i .i64 2), .sc (.i .i64 3)], [.bx [.i .i64 4, .i .i64 5, .i .i64 6, .i .i64 7, .ow 4, .ow 5, .ow 6], .bx [.pt 0 0], .bx [.i .i64 8, .s 9, .s 10, .i .i64 11, .s 12, .fz 9 false 13], .bx [.i .i64 14, .i .i64 15, .i .i64 16, .i .i64 17, .i .i64 18, .ow 7, .ow 8, .ow 9, .s 19, .i .i64 20, .s 21, .s 22], .rw 90 false 23, .rw 156 false 24, .rw 158 false 25, .rw 90 true 26, .rw 156 true 27, .rw 158 true 28]⟩⟩, ⟨21, [4, 5], ⟨[.sc (.pt 1 0), .sc (.fn 186 [])], [.bx [.i .i64 0, .i .i64 1, .i .i64 2, .i .i64 3, .ow 2, .ow 3, .ow 4], .bx [.i .i64 4, .i .i64 5, .i .i64 6, .i .i64 7, .i .i64 8, .ow 5, .ow 6, .ow 7, .s 9, .i .i64 10, .s 11, .s 12], .rw 90 false 13, .rw 156 false 14, .rw 158 false 15, .rw 90 true 16, .rw 156 true 17, .rw 158 true 18]⟩⟩, ⟨22, [2, 3, 4, 6, 13, 14, 15], ⟨[.sc (.pt 1 0), .sc (.pt 2 0), .sc (.pt 3 0), .sc (.fn 187 [(1, 0), (2, 0)]), .sc (.s 0), .sc (.i .i64 1), .sc (.b 2)], [.bx [.i .i64 3, .i .i64 4, .i .i64 5, .i .i64 6, .ow 4, .ow 5, .ow 6], .bx [.pt 0 0], .bx [.i .i64 7, .s 8, .s 9, .i .i64 10, .s 11, .fz 9 false 12], .bx [.i .i64 13, .i .i64 14, .i .i64 15, .i .i64 16, .i .i64 17, .ow 7, .ow 8, .ow 9, .s 18, .i .i64 19, .s 20, .s 21], .rw 90 false 22, .rw 156 false 23, .rw 158 false 24, .rw 90 true 25, .rw 156 true 26, .rw 158 true 27]⟩⟩, ⟨27, [4, 6, 13], ⟨[.sc (.pt 1 0), .sc (.fn 187 [(2, 0), (3, 0)]), .sc (.s 0)], [.bx [.i .i64 1, .i .i64 2, .i .i64 3, .i .i64 4, .ow 4, .ow 5, .ow 6], .bx [.i .i64 5, .i .i64 6, .i .i64 7, .i .i64 8, .i .i64 9, .ow 7, .ow 8, .ow 9, .s 10, .i .i64 11, .s 12, .s 13], .bx [.pt 0 0], .bx [.i .i64 14, .s 15, .s 16, .i .i64 17, .s 18, .fz 9 false 19], .rw 90 false 20, .rw 156 false 21, .rw 158 false 22, .rw 90 true 23, .rw 156 true 24, .rw 158 true 25]⟩⟩, ⟨65, [2, 4, 5, 30, 346, 347, 348], ⟨[.sc (.pt 1 0), .sc (.pt 2 0), .sc (.fn 186 []), .sc (.ow 3), .sc (.ow 4), .sc (.i .i64 0), .sc (.i .i64 1)], [.bx [.i .i64 2, .i .i64 3, .i .i64 4, .i .i64 5, .ow 5, .ow 6, .ow 4], .bx [.pt 0 0], .bx [.i .i64 6, .i .i64 7, .i .i64 8, .i .i64 9, .i .i64 10, .ow 7, .ow 8, .ow 9, .s 11, .i .i64 12, .s 13, .s 14], .rw 158 true 15, .rw 158 false 16, .rw 90 false 17, .rw 156 false 18, .rw 90 true 19, .rw 156 true 20, .rw 158 true 21]⟩⟩, ⟨76, [4, 5], ⟨[.sc (.pt 1 0), .sc (.fn 186 [])], [.bx [.i .i64 0, .i .i64 1, .i .i64 2, .i .i64 3, .ow 2, .ow 3, .ow 4], .bx [.i .i64 4, .i .i64 5, .i .i64 6, .i .i64 7, .i .i64 8, .ow 5, .ow 6, .ow 7, .s 9, .i .i64 10, .s 11, .s 12], .rw 90 false 13, .rw 156 false 14, .rw 158 false 15, .rw 90 true 16, .rw 156 true 17, .rw 158 true 18]⟩⟩, ⟨78, [4, 5], ⟨[.sc (.pt 1 0), .sc (.fn 186 [])], [.bx [.i .i64 0, .i .i64 1, .i .i64 2, .i .i64 3, .ow 2, .ow 3, .ow 4], .bx [.i .i64 4, .i .i64 5, .i .i64 6, .i .i64 7, .i .i64 8, .ow 5, .ow 6, .ow 7, .s 9, .i .i64 10, .s 11, .s 12], .rw 90 false 13, .rw 156 false 14, .rw 158 false 15, .rw 90 true 16, .rw 156 true 17, .rw 158 true 18]⟩⟩] }
noncomputable def Lqa : Option Nat → Lv → Option Lv := Lim Tryz.prog [dqbj.sig (Lqbj none), dqbk.sig (Lqbk none), dqz.sig (Lqz none), dq1.sig (Lq1 none), dqbt.sig (Lqbt none), dqdl.sig (Lqdl none), dqdm.sig (Lqdm none), dqdq.sig (Lqdq none), dq0.sig (Lq0 none), dq2.sig (Lq2 none)] dqa Tryz.f120
theorem eqa_i (a0 : Int) (a1 a2 : ByteArray) (a3 : Int) (a4 : ByteArray) (a5 : Rw) (a6 a7 a8 a9 : Int) (a10 a11 a12 : Rw) : Lqa none [.i a0, .s a1, .s a2, .i a3, .s a4, .l a5, .i a6, .i a7, .i a8, .i a9, .l a10, .l a11, .l a12] =
 cond (decide ((a12.length : Int) < 200)) (
 Lqa (some 4) [.b (decide (a8 < 1000000000)), .i a6, .i a7, .i a8, .i a9, .i a0, .s a1, .s a2, .i a3, .s a4, .l a5, .i 0, .i 0, .i 0, .i 0, .i 0, .s (⟨#[]⟩ : ByteArray), .i 0, .s (⟨#[]⟩ : ByteArray), .s (⟨#[]⟩ : ByteArray), .l a10, .l a11, .l a12, .l [], .l [], .l []]) (
 Lqa (some 4) [.b false, .i a6, .i a7, .i a8, .i a9, .i a0, .s a1, .s a2, .i a3, .s a4, .l a5, .i 0, .i 0, .i 0, .i 0, .i 0, .s (⟨#[]⟩ : ByteArray), .i 0, .s (⟨#[]⟩ : ByteArray), .s (⟨#[]⟩ : ByteArray), .l a10, .l a11, .l a12, .l [], .l [], .l []]) := (zd _ _).trans (by kernel_rfl)
theorem eqa_4 (a0 : Bool) (a1 a2 a3 a4 a5 : Int) (a6 a7 : ByteArray) (a8 : Int) (a9 : ByteArray) (a10 : Rw) (a11 a12 a13 a14 a15 : Int) (a16 : ByteArray) (a17 : Int) (a18 a19 : ByteArray) (a20 a21 a22 a23 a24 a25 : Rw) : Lqa (some 4) [.b a0, .i a1, .i a2, .i a3, .i a4, .i a5, .s a6, .s a7, .i a8, .s a9, .l a10, .i a11, .i a12, .i a13, .i a14, .i a15, .s a16, .i a17, .s a18, .s a19, .l a20, .l a21, .l a22, .l a23, .l a24, .l a25] =
 cond (a5 == 1) (
 Lqa (some 7) [.b a0, .l a10, .i (a10.length : Int), .i 0, .i a1, .i a2, .i a3, .i a4, .i a5, .s a6, .s a7, .i a8, .s a9, .l a10, .i a11, .i a12, .i a13, .i a14, .i a15, .s a16, .i a17, .s a18, .s a19, .l a20, .l a21, .l a22, .l a23, .l a24, .l a25]) (
 cond (a5 == 2) (
 (Lqbk none [.s a6, .i a1, .i a2, .i a3, .i a4, .l a20, .l a21, .l a22]).bind fun y1 =>
 cond (!(g y1 1).bool) (
 (Lqbt none [.i 2]).bind fun y2 =>
 some [.i ((g y2 0).int), .i ((g y2 1).int), .i ((g y2 2).int), .i ((g y2 3).int), .i ((g y2 4).int), .l ((g y2 5).list), .l ((g y2 6).list), .l ((g y2 7).list), .s ((g y2 8).str), .i ((g y2 9).int), .s ((g y2 10).str), .s ((g y2 11).str), .i a1, .i a2, .i a3, .i a4, .l a20, .l a21, .l a22]) (
 (Lqdm none [.s a7, .i a1, .i a2, .i a3, .i a4, .l a20, .l a21, .l a22]).bind fun y3 =>
 cond ((g y3 1).bool) (
 cond (inb ((g y3 0).int) a21.length) (
 (Lqbt none [.i 0]).bind fun y4 =>
 some [.i ((g y4 0).int), .i ((g y4 1).int), .i ((g y4 2).int), .i ((g y4 3).int), .i ((g y4 4).int), .l ((g y4 5).list), .l ((g y4 6).list), .l ((g y4 7).list), .s ((g y4 8).str), .i ((g y4 9).int), .s ((g y4 10).str), .s ((g y4 11).str), .i a1, .i a2, .i a3, .i a4, .l a20, .l (wrs a21 (((g y3 0).int).toNat) 1 ([.s a6] : List C)), .l a22]) (
 none)) (
 cond ((a21.length : Int) == 100) (
 (Lqbt none [.i 4]).bind fun y5 =>
 some [.i ((g y5 0).int), .i ((g y5 1).int), .i ((g y5 2).int), .i ((g y5 3).int), .i ((g y5 4).int), .l ((g y5 5).list), .l ((g y5 6).list), .l ((g y5 7).list), .s ((g y5 8).str), .i ((g y5 9).int), .s ((g y5 10).str), .s ((g y5 11).str), .i a1, .i a2, .i a3, .i a4, .l a20, .l a21, .l a22]) (
 cond (decide (0 ≤ (g y3 0).int)) (
 cond (decide ((g y3 0).int ≤ (a21.length : Int))) (
 cond (decide ((Eng.sub a21 0 ((g y3 0).int).toNat).length ≤ most)) (
 cond (decide ((Eng.sub a21 0 ((g y3 0).int).toNat).length + ([[.s a7, .s a6]] : Rw).length ≤ most)) (
 cond (decide (0 ≤ (g y3 0).int)) (
 cond (decide ((g y3 0).int ≤ (a21.length : Int))) (
 cond (decide (((Eng.sub a21 0 ((g y3 0).int).toNat) ++ ([[.s a7, .s a6]] : Rw)).length + (Eng.sub a21 ((g y3 0).int).toNat a21.length).length ≤ most)) (
 Lqa (some 78) [.i a1, .i a2, .i a3, .i a4, .i a11, .i a12, .i a13, .i a14, .i a15, .s a16, .i a17, .s a18, .s a19, .l a20, .l (((Eng.sub a21 0 ((g y3 0).int).toNat) ++ ([[.s a7, .s a6]] : Rw)) ++ (Eng.sub a21 ((g y3 0).int).toNat a21.length)), .l a22, .l a23, .l a24, .l a25]) (
 none)) (
 none)) (
 none)) (
 none)) (
 none)) (
 none)) (
 none))))) (
 cond (a5 == 3) (
 (Lqdm none [.s a7, .i a1, .i a2, .i a3, .i a4, .l a20, .l a21, .l a22]).bind fun y6 =>
 cond (!(g y6 1).bool) (
 (Lqbt none [.i 5]).bind fun y7 =>
 some [.i ((g y7 0).int), .i ((g y7 1).int), .i ((g y7 2).int), .i ((g y7 3).int), .i ((g y7 4).int), .l ((g y7 5).list), .l ((g y7 6).list), .l ((g y7 7).list), .s ((g y7 8).str), .i ((g y7 9).int), .s ((g y7 10).str), .s ((g y7 11).str), .i a1, .i a2, .i a3, .i a4, .l a20, .l a21, .l a22]) (
 cond (decide (0 ≤ (g y6 0).int)) (
 cond (decide ((g y6 0).int ≤ (a21.length : Int))) (
 cond (decide (0 ≤ (IntKind.i64.wrap ((g y6 0).int + 1)))) (
 cond (decide ((IntKind.i64.wrap ((g y6 0).int + 1)) ≤ (a21.length : Int))) (
 cond (decide ((Eng.sub a21 0 (((g y6 0).int).toNat)).length + (Eng.sub a21 (IntKind.i64.wrap ((g y6 0).int + 1)).toNat a21.length).length ≤ most)) (
 Lqa (some 78) [.i a1, .i a2, .i a3, .i a4, .i a11, .i a12, .i a13, .i a14, .i a15, .s a16, .i a17, .s a18, .s a19, .l a20, .l ((Eng.sub a21 0 (((g y6 0).int).toNat)) ++ (Eng.sub a21 (IntKind.i64.wrap ((g y6 0).int + 1)).toNat a21.length)), .l a22, .l a23, .l a24, .l a25]) (
 none)) (
 none)) (
 none)) (
 none)) (
 none))) (
 cond (a5 == 4) (
 (Lqbk none [.s a6, .i a1, .i a2, .i a3, .i a4, .l a20, .l a21, .l a22]).bind fun y8 =>
 cond (!(g y8 1).bool) (
 (Lqbt none [.i 2]).bind fun y9 =>
 some [.i ((g y9 0).int), .i ((g y9 1).int), .i ((g y9 2).int), .i ((g y9 3).int), .i ((g y9 4).int), .l ((g y9 5).list), .l ((g y9 6).list), .l ((g y9 7).list), .s ((g y9 8).str), .i ((g y9 9).int), .s ((g y9 10).str), .s ((g y9 11).str), .i a1, .i a2, .i a3, .i a4, .l a20, .l a21, .l a22]) (
 cond (!a0) (
 (Lqbt none [.i 4]).bind fun y10 =>
 some [.i ((g y10 0).int), .i ((g y10 1).int), .i ((g y10 2).int), .i ((g y10 3).int), .i ((g y10 4).int), .l ((g y10 5).list), .l ((g y10 6).list), .l ((g y10 7).list), .s ((g y10 8).str), .i ((g y10 9).int), .s ((g y10 10).str), .s ((g y10 11).str), .i a1, .i a2, .i a3, .i a4, .l a20, .l a21, .l a22]) (
 (Lqdl none [.s a6, .i a1, .i a2, .i a3, .i a4, .i a5, .s a6, .s a7, .i a8, .s a9, .l a10, .l a20, .l a21, .l a22]).bind fun y11 =>
 some [.i ((g y11 0).int), .i ((g y11 1).int), .i ((g y11 2).int), .i ((g y11 3).int), .i ((g y11 4).int), .l ((g y11 5).list), .l ((g y11 6).list), .l ((g y11 7).list), .s ((g y11 8).str), .i ((g y11 9).int), .s ((g y11 10).str), .s ((g y11 11).str), .i ((g y11 12).int), .i ((g y11 13).int), .i ((g y11 14).int), .i ((g y11 15).int), .l ((g y11 22).list), .l ((g y11 23).list), .l ((g y11 24).list)]))) (
 cond (a5 == 5) (
 (Lqdq none [.i a8, .i a1, .i a2, .i a3, .i a4, .l a20, .l a21, .l a22]).bind fun y12 =>
 cond (!(g y12 1).bool) (
 (Lqbt none [.i 5]).bind fun y13 =>
 some [.i ((g y13 0).int), .i ((g y13 1).int), .i ((g y13 2).int), .i ((g y13 3).int), .i ((g y13 4).int), .l ((g y13 5).list), .l ((g y13 6).list), .l ((g y13 7).list), .s ((g y13 8).str), .i ((g y13 9).int), .s ((g y13 10).str), .s ((g y13 11).str), .i a1, .i a2, .i a3, .i a4, .l a20, .l a21, .l a22]) (
 cond (decide (0 ≤ (g y12 0).int)) (
 cond (decide ((g y12 0).int ≤ (a22.length : Int))) (
 cond (decide (0 ≤ (IntKind.i64.wrap ((g y12 0).int + 1)))) (
 cond (decide ((IntKind.i64.wrap ((g y12 0).int + 1)) ≤ (a22.length : Int))) (
 cond (decide ((Eng.sub a22 0 (((g y12 0).int).toNat)).length + (Eng.sub a22 (IntKind.i64.wrap ((g y12 0).int + 1)).toNat a22.length).length ≤ most)) (
 Lqa (some 78) [.i a1, .i a2, .i a3, .i a4, .i a11, .i a12, .i a13, .i a14, .i a15, .s a16, .i a17, .s a18, .s a19, .l a20, .l a21, .l ((Eng.sub a22 0 (((g y12 0).int).toNat)) ++ (Eng.sub a22 (IntKind.i64.wrap ((g y12 0).int + 1)).toNat a22.length)), .l a23, .l a24, .l a25]) (
 none)) (
 none)) (
 none)) (
 none)) (
 none))) (
 cond (a5 == 6) (
 cond (decide (1000000000 < (IntKind.i64.wrap (a2 + a8)))) (
 (Lqbt none [.i 4]).bind fun y14 =>
 some [.i ((g y14 0).int), .i ((g y14 1).int), .i ((g y14 2).int), .i ((g y14 3).int), .i ((g y14 4).int), .l ((g y14 5).list), .l ((g y14 6).list), .l ((g y14 7).list), .s ((g y14 8).str), .i ((g y14 9).int), .s ((g y14 10).str), .s ((g y14 11).str), .i a1, .i a2, .i a3, .i a4, .l a20, .l a21, .l a22]) (
 Lqa (some 65) [.i (a22.length : Int), .i 0, .i a1, .i (IntKind.i64.wrap (a2 + a8)), .i a3, .i a4, .i a11, .i a12, .i a13, .i a14, .i a15, .s a16, .i a17, .s a18, .s a19, .l [], .l a22, .l a20, .l a21, .l a23, .l a24, .l a25])) (
 cond (a5 == 7) (
 (Lqbk none [.s a6, .i a1, .i a2, .i a3, .i a4, .l a20, .l a21, .l a22]).bind fun y15 =>
 cond (!(g y15 1).bool) (
 (Lqbt none [.i 2]).bind fun y16 =>
 some [.i ((g y16 0).int), .i ((g y16 1).int), .i ((g y16 2).int), .i ((g y16 3).int), .i ((g y16 4).int), .l ((g y16 5).list), .l ((g y16 6).list), .l ((g y16 7).list), .s ((g y16 8).str), .i ((g y16 9).int), .s ((g y16 10).str), .s ((g y16 11).str), .i a1, .i a2, .i a3, .i a4, .l a20, .l a21, .l a22]) (
 (Lq0 none [.s a6, .i a1, .i a2, .i a3, .i a4, .l a20, .l a21, .l a22]).bind fun y17 =>
 cond ((g y17 0).bool) (
 Lqa (some 76) [.i a1, .i a2, .i a3, .i a4, .i a11, .i a12, .i a13, .i a14, .i a15, .s a16, .i a17, .s a18, .s a19, .l a20, .l a21, .l a22, .l a23, .l a24, .l a25]) (
 (Lq2 none [.s a6, .i a1, .i a2, .i a3, .i a4, .l a20, .l a21, .l a22]).bind fun y18 =>
 cond ((g y18 0).bool) (
 Lqa (some 76) [.i a1, .i a2, .i a3, .i a4, .i a11, .i a12, .i a13, .i a14, .i a15, .s a16, .i a17, .s a18, .s a19, .l a20, .l a21, .l a22, .l a23, .l a24, .l a25]) (
 cond (decide (0 ≤ (g y15 0).int)) (
 cond (decide ((g y15 0).int ≤ (a20.length : Int))) (
 cond (decide (0 ≤ (IntKind.i64.wrap ((g y15 0).int + 1)))) (
 cond (decide ((IntKind.i64.wrap ((g y15 0).int + 1)) ≤ (a20.length : Int))) (
 cond (decide ((Eng.sub a20 0 (((g y15 0).int).toNat)).length + (Eng.sub a20 (IntKind.i64.wrap ((g y15 0).int + 1)).toNat a20.length).length ≤ most)) (
 Lqa (some 78) [.i a1, .i a2, .i a3, .i a4, .i a11, .i a12, .i a13, .i a14, .i a15, .s a16, .i a17, .s a18, .s a19, .l ((Eng.sub a20 0 (((g y15 0).int).toNat)) ++ (Eng.sub a20 (IntKind.i64.wrap ((g y15 0).int + 1)).toNat a20.length)), .l a21, .l a22, .l a23, .l a24, .l a25]) (
 none)) (
 none)) (
 none)) (
 none)) (
 none))))) (
 Lqa (some 78) [.i a1, .i a2, .i a3, .i a4, .i a11, .i a12, .i a13, .i a14, .i a15, .s a16, .i a17, .s a18, .s a19, .l a20, .l a21, .l a22, .l a23, .l a24, .l a25]))))))) := (zd _ _).trans (by kernel_rfl)
theorem eqa_7 (a0 : Bool) (a1 : Rw) (a2 a3 a4 a5 a6 a7 a8 : Int) (a9 a10 : ByteArray) (a11 : Int) (a12 : ByteArray) (a13 : Rw) (a14 a15 a16 a17 a18 : Int) (a19 : ByteArray) (a20 : Int) (a21 a22 : ByteArray) (a23 a24 a25 a26 a27 a28 : Rw) : Lqa (some 7) [.b a0, .l a1, .i a2, .i a3, .i a4, .i a5, .i a6, .i a7, .i a8, .s a9, .s a10, .i a11, .s a12, .l a13, .i a14, .i a15, .i a16, .i a17, .i a18, .s a19, .i a20, .s a21, .s a22, .l a23, .l a24, .l a25, .l a26, .l a27, .l a28] =
 cond (decide (a3 < a2)) (
 cond (inb a3 a1.length) (
 (Lqbk none [.s ((rd a1 a3.toNat 0).str), .i a4, .i a5, .i a6, .i a7, .l a23, .l a24, .l a25]).bind fun y1 =>
 cond (!(g y1 1).bool) (
 (Lqbt none [.i 2]).bind fun y2 =>
 some [.i ((g y2 0).int), .i ((g y2 1).int), .i ((g y2 2).int), .i ((g y2 3).int), .i ((g y2 4).int), .l ((g y2 5).list), .l ((g y2 6).list), .l ((g y2 7).list), .s ((g y2 8).str), .i ((g y2 9).int), .s ((g y2 10).str), .s ((g y2 11).str), .i a4, .i a5, .i a6, .i a7, .l a23, .l a24, .l a25]) (
 Lqa (some 7) [.b a0, .l a1, .i a2, .i (IntKind.i64.wrap (a3 + 1)), .i a4, .i a5, .i a6, .i a7, .i a8, .s a9, .s a10, .i a11, .s a12, .l a13, .i a14, .i a15, .i a16, .i a17, .i a18, .s a19, .i a20, .s a21, .s a22, .l a23, .l a24, .l a25, .l a26, .l a27, .l a28])) (
 none)) (
 (Lq1 none [.s a12, .l a13]).bind fun y3 =>
 (Lqbj none [.s ((g y3 0).str), .i a4]).bind fun y4 =>
 (Lqbk none [.s ((g y4 0).str), .i a4, .i a5, .i a6, .i a7, .l a23, .l a24, .l a25]).bind fun y5 =>
 cond ((g y5 1).bool) (
 cond (inb ((g y5 0).int) a23.length) (
 (Lq1 none [.s ((rd a23 (((g y5 0).int).toNat) 2).str), .l ((rd a23 (((g y5 0).int).toNat) 3).list)]).bind fun y6 =>
 cond (!Eng.seq ((g y6 0).str) ((g y3 0).str)) (
 some [.i 3, .i 0, .i 0, .i 0, .i 0, .l ([]), .l ([]), .l ([]), .s (⟨#[]⟩ : ByteArray), .i 0, .s ((g y6 0).str), .s ((g y3 0).str), .i a4, .i a5, .i a6, .i a7, .l a23, .l a24, .l a25]) (
 cond (!a0) (
 Lqa (some 21) [.i a4, .i a5, .i a6, .i a7, .i a14, .i a15, .i a16, .i a17, .i a18, .s a19, .i a20, .s a21, .s a22, .l a23, .l a24, .l a25, .l a26, .l a27, .l a28]) (
 cond (!(g y5 1).bool) (
 cond ((a23.length : Int) == 600) (
 Lqa (some 21) [.i a4, .i a5, .i a6, .i a7, .i a14, .i a15, .i a16, .i a17, .i a18, .s a19, .i a20, .s a21, .s a22, .l a23, .l a24, .l a25, .l a26, .l a27, .l a28]) (
 cond (a7 == 1000000000) (
 Lqa (some 21) [.i a4, .i a5, .i a6, .i a7, .i a14, .i a15, .i a16, .i a17, .i a18, .s a19, .i a20, .s a21, .s a22, .l a23, .l a24, .l a25, .l a26, .l a27, .l a28]) (
 Lqa (some 22) [.s ((g y4 0).str), .i ((g y5 0).int), .b ((g y5 1).bool), .i a4, .i a5, .i a6, .i a7, .i a8, .s a9, .s a10, .i a11, .s a12, .l a13, .i a14, .i a15, .i a16, .i a17, .i a18, .s a19, .i a20, .s a21, .s a22, .l a23, .l a24, .l a25, .l a26, .l a27, .l a28]))) (
 Lqa (some 22) [.s ((g y4 0).str), .i ((g y5 0).int), .b ((g y5 1).bool), .i a4, .i a5, .i a6, .i a7, .i a8, .s a9, .s a10, .i a11, .s a12, .l a13, .i a14, .i a15, .i a16, .i a17, .i a18, .s a19, .i a20, .s a21, .s a22, .l a23, .l a24, .l a25, .l a26, .l a27, .l a28])))) (
 none)) (
 cond (!a0) (
 Lqa (some 21) [.i a4, .i a5, .i a6, .i a7, .i a14, .i a15, .i a16, .i a17, .i a18, .s a19, .i a20, .s a21, .s a22, .l a23, .l a24, .l a25, .l a26, .l a27, .l a28]) (
 cond (!(g y5 1).bool) (
 cond ((a23.length : Int) == 600) (
 Lqa (some 21) [.i a4, .i a5, .i a6, .i a7, .i a14, .i a15, .i a16, .i a17, .i a18, .s a19, .i a20, .s a21, .s a22, .l a23, .l a24, .l a25, .l a26, .l a27, .l a28]) (
 cond (a7 == 1000000000) (
 Lqa (some 21) [.i a4, .i a5, .i a6, .i a7, .i a14, .i a15, .i a16, .i a17, .i a18, .s a19, .i a20, .s a21, .s a22, .l a23, .l a24, .l a25, .l a26, .l a27, .l a28]) (
 Lqa (some 22) [.s ((g y4 0).str), .i ((g y5 0).int), .b ((g y5 1).bool), .i a4, .i a5, .i a6, .i a7, .i a8, .s a9, .s a10, .i a11, .s a12, .l a13, .i a14, .i a15, .i a16, .i a17, .i a18, .s a19, .i a20, .s a21, .s a22, .l a23, .l a24, .l a25, .l a26, .l a27, .l a28]))) (
 Lqa (some 22) [.s ((g y4 0).str), .i ((g y5 0).int), .b ((g y5 1).bool), .i a4, .i a5, .i a6, .i a7, .i a8, .s a9, .s a10, .i a11, .s a12, .l a13, .i a14, .i a15, .i a16, .i a17, .i a18, .s a19, .i a20, .s a21, .s a22, .l a23, .l a24, .l a25, .l a26, .l a27, .l a28])))) := (zd _ _).trans (by kernel_rfl)
theorem eqa_21 (a0 a1 a2 a3 a4 a5 a6 a7 a8 : Int) (a9 : ByteArray) (a10 : Int) (a11 a12 : ByteArray) (a13 a14 a15 a16 a17 a18 : Rw) : Lqa (some 21) [.i a0, .i a1, .i a2, .i a3, .i a4, .i a5, .i a6, .i a7, .i a8, .s a9, .i a10, .s a11, .s a12, .l a13, .l a14, .l a15, .l a16, .l a17, .l a18] =
 (Lqbt none [.i 4]).bind fun y1 =>
 some [.i ((g y1 0).int), .i ((g y1 1).int), .i ((g y1 2).int), .i ((g y1 3).int), .i ((g y1 4).int), .l ((g y1 5).list), .l ((g y1 6).list), .l ((g y1 7).list), .s ((g y1 8).str), .i ((g y1 9).int), .s ((g y1 10).str), .s ((g y1 11).str), .i a0, .i a1, .i a2, .i a3, .l a13, .l a14, .l a15] := (zd _ _).trans (by kernel_rfl)
theorem eqa_22 (a0 : ByteArray) (a1 : Int) (a2 : Bool) (a3 a4 a5 a6 a7 : Int) (a8 a9 : ByteArray) (a10 : Int) (a11 : ByteArray) (a12 : Rw) (a13 a14 a15 a16 a17 : Int) (a18 : ByteArray) (a19 : Int) (a20 a21 : ByteArray) (a22 a23 a24 a25 a26 a27 : Rw) : Lqa (some 22) [.s a0, .i a1, .b a2, .i a3, .i a4, .i a5, .i a6, .i a7, .s a8, .s a9, .i a10, .s a11, .l a12, .i a13, .i a14, .i a15, .i a16, .i a17, .s a18, .i a19, .s a20, .s a21, .l a22, .l a23, .l a24, .l a25, .l a26, .l a27] =
 cond (!a2) (
 cond (decide (0 ≤ a1)) (
 cond (decide (a1 ≤ (a22.length : Int))) (
 cond (decide ((Eng.sub a22 0 a1.toNat).length ≤ most)) (
 (Lqz none [.l a12]).bind fun y1 =>
 cond (decide ((Eng.sub a22 0 a1.toNat).length + ([[.s a0, .i (IntKind.i64.wrap (a6 + 1)), .s a11, .l ((g y1 0).list)]] : Rw).length ≤ most)) (
 cond (decide (0 ≤ a1)) (
 cond (decide (a1 ≤ (a22.length : Int))) (
 cond (decide (((Eng.sub a22 0 a1.toNat) ++ ([[.s a0, .i (IntKind.i64.wrap (a6 + 1)), .s a11, .l ((g y1 0).list)]] : Rw)).length + (Eng.sub a22 a1.toNat a22.length).length ≤ most)) (
 Lqa (some 27) [.s a0, .i a3, .i a4, .i a5, .i (IntKind.i64.wrap (a6 + 1)), .i a13, .i a14, .i a15, .i a16, .i a17, .s a18, .i a19, .s a20, .s a21, .i a7, .s a8, .s a9, .i a10, .s a11, .l a12, .l (((Eng.sub a22 0 a1.toNat) ++ ([[.s a0, .i (IntKind.i64.wrap (a6 + 1)), .s a11, .l ((g y1 0).list)]] : Rw)) ++ (Eng.sub a22 a1.toNat a22.length)), .l a23, .l a24, .l a25, .l a26, .l a27]) (
 none)) (
 none)) (
 none)) (
 none)) (
 none)) (
 none)) (
 none)) (
 Lqa (some 27) [.s a0, .i a3, .i a4, .i a5, .i a6, .i a13, .i a14, .i a15, .i a16, .i a17, .s a18, .i a19, .s a20, .s a21, .i a7, .s a8, .s a9, .i a10, .s a11, .l a12, .l a22, .l a23, .l a24, .l a25, .l a26, .l a27]) := (zd _ _).trans (by kernel_rfl)
theorem eqa_27 (a0 : ByteArray) (a1 a2 a3 a4 a5 a6 a7 a8 a9 : Int) (a10 : ByteArray) (a11 : Int) (a12 a13 : ByteArray) (a14 : Int) (a15 a16 : ByteArray) (a17 : Int) (a18 : ByteArray) (a19 a20 a21 a22 a23 a24 a25 : Rw) : Lqa (some 27) [.s a0, .i a1, .i a2, .i a3, .i a4, .i a5, .i a6, .i a7, .i a8, .i a9, .s a10, .i a11, .s a12, .s a13, .i a14, .s a15, .s a16, .i a17, .s a18, .l a19, .l a20, .l a21, .l a22, .l a23, .l a24, .l a25] =
 (Lqdl none [.s a0, .i a1, .i a2, .i a3, .i a4, .i a14, .s a15, .s a16, .i a17, .s a18, .l a19, .l a20, .l a21, .l a22]).bind fun y1 =>
 some [.i ((g y1 0).int), .i ((g y1 1).int), .i ((g y1 2).int), .i ((g y1 3).int), .i ((g y1 4).int), .l ((g y1 5).list), .l ((g y1 6).list), .l ((g y1 7).list), .s a0, .i ((g y1 9).int), .s ((g y1 10).str), .s ((g y1 11).str), .i ((g y1 12).int), .i ((g y1 13).int), .i ((g y1 14).int), .i ((g y1 15).int), .l ((g y1 22).list), .l ((g y1 23).list), .l ((g y1 24).list)] := (zd _ _).trans (by kernel_rfl)
theorem eqa_65 (a0 a1 a2 a3 a4 a5 a6 a7 a8 a9 a10 : Int) (a11 : ByteArray) (a12 : Int) (a13 a14 : ByteArray) (a15 a16 a17 a18 a19 a20 a21 : Rw) : Lqa (some 65) [.i a0, .i a1, .i a2, .i a3, .i a4, .i a5, .i a6, .i a7, .i a8, .i a9, .i a10, .s a11, .i a12, .s a13, .s a14, .l a15, .l a16, .l a17, .l a18, .l a19, .l a20, .l a21] =
 cond (decide (a1 < a0)) (
 cond (inb a1 a16.length) (
 cond (decide (a3 < (rd a16 a1.toNat 2).int)) (
 cond (decide (a15.length + ([[.i ((rd a16 a1.toNat 0).int), .s ((rd a16 a1.toNat 1).str), .i ((rd a16 a1.toNat 2).int)]] : Rw).length ≤ most)) (
 Lqa (some 65) [.i a0, .i (IntKind.i64.wrap (a1 + 1)), .i a2, .i a3, .i a4, .i a5, .i a6, .i a7, .i a8, .i a9, .i a10, .s a11, .i a12, .s a13, .s a14, .l (a15 ++ ([[.i ((rd a16 a1.toNat 0).int), .s ((rd a16 a1.toNat 1).str), .i ((rd a16 a1.toNat 2).int)]] : Rw)), .l a16, .l a17, .l a18, .l a19, .l a20, .l a21]) (
 none)) (
 Lqa (some 65) [.i a0, .i (IntKind.i64.wrap (a1 + 1)), .i a2, .i a3, .i a4, .i a5, .i a6, .i a7, .i a8, .i a9, .i a10, .s a11, .i a12, .s a13, .s a14, .l a15, .l a16, .l a17, .l a18, .l a19, .l a20, .l a21])) (
 none)) (
 Lqa (some 78) [.i a2, .i a3, .i a4, .i a5, .i a6, .i a7, .i a8, .i a9, .i a10, .s a11, .i a12, .s a13, .s a14, .l a17, .l a18, .l a15, .l a19, .l a20, .l a21]) := (zd _ _).trans (by kernel_rfl)
theorem eqa_76 (a0 a1 a2 a3 a4 a5 a6 a7 a8 : Int) (a9 : ByteArray) (a10 : Int) (a11 a12 : ByteArray) (a13 a14 a15 a16 a17 a18 : Rw) : Lqa (some 76) [.i a0, .i a1, .i a2, .i a3, .i a4, .i a5, .i a6, .i a7, .i a8, .s a9, .i a10, .s a11, .s a12, .l a13, .l a14, .l a15, .l a16, .l a17, .l a18] =
 (Lqbt none [.i 6]).bind fun y1 =>
 some [.i ((g y1 0).int), .i ((g y1 1).int), .i ((g y1 2).int), .i ((g y1 3).int), .i ((g y1 4).int), .l ((g y1 5).list), .l ((g y1 6).list), .l ((g y1 7).list), .s ((g y1 8).str), .i ((g y1 9).int), .s ((g y1 10).str), .s ((g y1 11).str), .i a0, .i a1, .i a2, .i a3, .l a13, .l a14, .l a15] := (zd _ _).trans (by kernel_rfl)
theorem eqa_78 (a0 a1 a2 a3 a4 a5 a6 a7 a8 : Int) (a9 : ByteArray) (a10 : Int) (a11 a12 : ByteArray) (a13 a14 a15 a16 a17 a18 : Rw) : Lqa (some 78) [.i a0, .i a1, .i a2, .i a3, .i a4, .i a5, .i a6, .i a7, .i a8, .s a9, .i a10, .s a11, .s a12, .l a13, .l a14, .l a15, .l a16, .l a17, .l a18] =
 (Lqbt none [.i 0]).bind fun y1 =>
 some [.i ((g y1 0).int), .i ((g y1 1).int), .i ((g y1 2).int), .i ((g y1 3).int), .i ((g y1 4).int), .l ((g y1 5).list), .l ((g y1 6).list), .l ((g y1 7).list), .s ((g y1 8).str), .i ((g y1 9).int), .s ((g y1 10).str), .s ((g y1 11).str), .i a0, .i a1, .i a2, .i a3, .l a13, .l a14, .l a15] := (zd _ _).trans (by kernel_rfl)
theorem kqa : SigOk Tryz.prog (dqa.sig (Lqa none)) ∧ (dqa.sig (Lqa none)).ok = true := zf (zb kqbj (by kernel_rfl) (zb kqbk (by kernel_rfl) (zb kqz (by kernel_rfl) (zb kq1 (by kernel_rfl) (zb kqbt (by kernel_rfl) (zb kqdl (by kernel_rfl) (zb kqdm (by kernel_rfl) (zb kqdq (by kernel_rfl) (zb kq0 (by kernel_rfl) (zb kq2 (by kernel_rfl) ze)))))))))) (by kernel_rfl) (by kernel_rfl) (by kernel_rfl)
def dqcn : FD := { fn := 112, nb := 0, pre := ⟨[.sc (.i .i64 0), .sc (.fz 9 false 1)], []⟩, post := ⟨[.tu [(true, [.i .i64 0, .i .i64 1, .i .i64 2, .i .i64 3, .ow 0, .ow 1, .ow 2]), (false, [.i .i64 4])]], [.rw 90 true 5, .rw 156 true 6, .rw 158 true 7]⟩, sh := false, cuts := [⟨3, [0, 4, 6, 13, 14, 15], ⟨[.sc (.i .i64 0), .sc (.pt 0 0), .sc (.pt 1 0), .sc (.fz 9 false 1), .sc (.i .i64 2), .sc (.i .i64 3)], [.bx [.i .i64 4, .i .i64 5, .i .i64 6, .i .i64 7, .ow 2, .ow 3, .ow 4], .bx [.i .i64 8, .i .i64 9, .i .i64 10, .i .i64 11, .ow 5, .ow 6, .ow 7], .rw 90 true 12, .rw 156 true 13, .rw 158 true 14, .rw 90 true 15, .rw 156 true 16, .rw 158 true 17]⟩⟩] }
noncomputable def Lqcn : Option Nat → Lv → Option Lv := Lim Tryz.prog [dqdp.sig (Lqdp none), dqa.sig (Lqa none)] dqcn Tryz.f112
theorem eqcn_i (a0 : Int) (a1 : Rw) : Lqcn none [.i a0, .l a1] =
 Lqcn (some 3) [.i a0, .l a1, .i (a1.length : Int), .i 0, .i 0, .i 0, .i 0, .i 0, .i a0, .i 0, .i 0, .i 0, .l [], .l [], .l [], .l [], .l [], .l []] := (zd _ _).trans (by kernel_rfl)
theorem eqcn_3 (a0 : Int) (a1 : Rw) (a2 a3 a4 a5 a6 a7 a8 a9 a10 a11 : Int) (a12 a13 a14 a15 a16 a17 : Rw) : Lqcn (some 3) [.i a0, .l a1, .i a2, .i a3, .i a4, .i a5, .i a6, .i a7, .i a8, .i a9, .i a10, .i a11, .l a12, .l a13, .l a14, .l a15, .l a16, .l a17] =
 cond (decide (a3 < a2)) (
 cond (inb a3 a1.length) (
 (Lqdp none [.s ((rd a1 a3.toNat 0).str), .i a0]).bind fun y1 =>
 cond (!(g y1 5).bool) (
 some [.i 0, .i 0, .i 0, .i 0, .i (IntKind.i64.wrap (a3 + 1)), .l [], .l [], .l []]) (
 (Lqa none [.i ((g y1 0).int), .s ((g y1 1).str), .s ((g y1 2).str), .i ((g y1 3).int), .s ((g y1 4).str), .l ((g y1 6).list), .i a8, .i a9, .i a10, .i a11, .l a15, .l a16, .l a17]).bind fun y2 =>
 cond ((g y2 0).int != 0) (
 some [.i 0, .i 0, .i 0, .i 0, .i (IntKind.i64.wrap (a3 + 1)), .l [], .l [], .l []]) (
 Lqcn (some 3) [.i a0, .l a1, .i a2, .i (IntKind.i64.wrap (a3 + 1)), .i a4, .i a5, .i a6, .i a7, .i ((g y2 12).int), .i ((g y2 13).int), .i ((g y2 14).int), .i ((g y2 15).int), .l a12, .l a13, .l a14, .l ((g y2 16).list), .l ((g y2 17).list), .l ((g y2 18).list)]))) (
 none)) (
 some [.i a8, .i a9, .i a10, .i a11, .i 0, .l a15, .l a16, .l a17]) := (zd _ _).trans (by kernel_rfl)
theorem kqcn : SigOk Tryz.prog (dqcn.sig (Lqcn none)) ∧ (dqcn.sig (Lqcn none)).ok = true := zf (zb kqdp (by kernel_rfl) (zb kqa (by kernel_rfl) ze)) (by kernel_rfl) (by kernel_rfl) (by kernel_rfl)
def dqdr : FD := { fn := 199, nb := 0, pre := ⟨[.sc (.s 0)], []⟩, post := ⟨[.sc (.b 0)], []⟩, sh := false, cuts := [] }
noncomputable def Lqdr : Option Nat → Lv → Option Lv := Lim Tryz.prog [] dqdr Tryz.f199
theorem eqdr_i (a0 : ByteArray) : Lqdr none [.s a0] =
 some [.b (decide ((a0.size : Int) ≤ 5000))] := (zd _ _).trans (by kernel_rfl)
theorem kqdr : SigOk Tryz.prog (dqdr.sig (Lqdr none)) ∧ (dqdr.sig (Lqdr none)).ok = true := zf ze (by kernel_rfl) (by kernel_rfl) (by kernel_rfl)
end KV
end
section
set_option maxRecDepth 100000
namespace KV
open Go Go.Eng Go.Proofs
def dq5 : FD := { fn := 133, nb := 0, pre := ⟨[.ag [.fz 9 false 0, .fz 9 false 1]], []⟩, post := ⟨[.sc (.b 0)], []⟩, sh := false, cuts := [⟨2, [1, 11, 12, 13], ⟨[.sc (.pt 0 0), .sc (.ow 1), .sc (.i .i64 0), .sc (.i .i64 1)], [.bx [.fz 9 false 2, .fz 9 false 3], .rw 23 false 4]⟩⟩, ⟨5, [1, 11, 12, 13, 17, 18, 19], ⟨[.sc (.pt 0 0), .sc (.ow 1), .sc (.i .i64 0), .sc (.i .i64 1), .sc (.fz 9 false 2), .sc (.i .i64 3), .sc (.i .i64 4)], [.bx [.fz 9 false 5, .fz 9 false 6], .rw 23 false 7]⟩⟩] }
noncomputable def Lq5 : Option Nat → Lv → Option Lv := Lim Tryz.prog [dqdr.sig (Lqdr none)] dq5 Tryz.f133
theorem eq5_i (a0 a1 : Rw) : Lq5 none [.l a0, .l a1] =
 Lq5 (some 2) [.i (([[.l a0], [.l a1]] : Rw).length : Int), .i 0, .l a0, .l a1, .l ([[.l a0], [.l a1]] : Rw)] := (zd _ _).trans (by kernel_rfl)
theorem eq5_2 (a0 a1 : Int) (a2 a3 a4 : Rw) : Lq5 (some 2) [.i a0, .i a1, .l a2, .l a3, .l a4] =
 cond (decide (a1 < a0)) (
 cond (inb a1 a4.length) (
 Lq5 (some 5) [.i a0, .i a1, .l ((rd a4 a1.toNat 0).list), .i (((rd a4 a1.toNat 0).list).length : Int), .i 0, .l a2, .l a3, .l a4]) (
 none)) (
 some [.b (decide ((IntKind.i64.wrap ((a2.length : Int) + (a3.length : Int))) ≤ 4000))]) := (zd _ _).trans (by kernel_rfl)
theorem eq5_5 (a0 a1 : Int) (a2 : Rw) (a3 a4 : Int) (a5 a6 a7 : Rw) : Lq5 (some 5) [.i a0, .i a1, .l a2, .i a3, .i a4, .l a5, .l a6, .l a7] =
 cond (decide (a4 < a3)) (
 cond (inb a4 a2.length) (
 (Lqdr none [.s ((rd a2 a4.toNat 0).str)]).bind fun y1 =>
 cond (!(g y1 0).bool) (
 some [.b false]) (
 Lq5 (some 5) [.i a0, .i a1, .l a2, .i a3, .i (IntKind.i64.wrap (a4 + 1)), .l a5, .l a6, .l a7])) (
 none)) (
 Lq5 (some 2) [.i a0, .i (IntKind.i64.wrap (a1 + 1)), .l a5, .l a6, .l a7]) := (zd _ _).trans (by kernel_rfl)
theorem kq5 : SigOk Tryz.prog (dq5.sig (Lq5 none)) ∧ (dq5.sig (Lq5 none)).ok = true := zf (zb kqdr (by kernel_rfl) ze) (by kernel_rfl) (by kernel_rfl) (by kernel_rfl)
def dqds : FD := { fn := 134, nb := 0, pre := ⟨[.ag [.fz 9 false 0, .fz 9 false 1]], []⟩, post := ⟨[.sc (.ow 0)], [.rw 9 true 0]⟩, sh := false, cuts := [] }
noncomputable def Lqds : Option Nat → Lv → Option Lv := Lim Tryz.prog [dqz.sig (Lqz none)] dqds Tryz.f134
theorem eqds_i (a0 a1 : Rw) : Lqds none [.l a0, .l a1] =
 (Lqz none [.l a0]).bind fun y1 =>
 cond (decide (((g y1 0).list).length + a1.length ≤ most)) (
 some [.l ((g y1 0).list ++ a1)]) (
 none) := (zd _ _).trans (by kernel_rfl)
theorem kqds : SigOk Tryz.prog (dqds.sig (Lqds none)) ∧ (dqds.sig (Lqds none)).ok = true := zf (zb kqz (by kernel_rfl) ze) (by kernel_rfl) (by kernel_rfl) (by kernel_rfl)
def dqcu : FD := { fn := 135, nb := 0, pre := ⟨[.ag [.fz 9 false 0, .fz 9 false 1]], []⟩, post := ⟨[.ag [.ow 0, .ow 1]], [.rw 9 true 0, .rw 9 true 1]⟩, sh := false, cuts := [] }
noncomputable def Lqcu : Option Nat → Lv → Option Lv := Lim Tryz.prog [dqz.sig (Lqz none)] dqcu Tryz.f135
theorem eqcu_i (a0 a1 : Rw) : Lqcu none [.l a0, .l a1] =
 (Lqz none [.l a0]).bind fun y1 =>
 (Lqz none [.l a1]).bind fun y2 =>
 some [.l ((g y1 0).list), .l ((g y2 0).list)] := (zd _ _).trans (by kernel_rfl)
theorem kqcu : SigOk Tryz.prog (dqcu.sig (Lqcu none)) ∧ (dqcu.sig (Lqcu none)).ok = true := zf (zb kqz (by kernel_rfl) ze) (by kernel_rfl) (by kernel_rfl) (by kernel_rfl)
def dqdt : FD := { fn := 49, nb := 0, pre := ⟨[.sc (.i .i64 0), .sc (.i .i64 1), .ag [.fz 9 false 2, .fz 9 false 3]], []⟩, post := ⟨[.tu [(true, [.i .i64 0, .i .i64 1, .ow 0, .ow 1, .i .i64 2, .i .i64 3, .i .i64 4, .i .i64 5, .ow 2, .ow 3, .ow 4, .i .i64 6, .fz 9 true 7, .fz 9 true 8, .i .i64 9, .i .i64 10, .i .i64 11]), (false, [.i .i64 12])]], [.rw 9 true 13, .rw 9 true 14, .rw 90 true 15, .rw 156 true 16, .rw 158 true 17]⟩, sh := false, cuts := [] }
noncomputable def Lqdt : Option Nat → Lv → Option Lv := Lim Tryz.prog [dqbc.sig (Lqbc none), dqcn.sig (Lqcn none), dq5.sig (Lq5 none), dqds.sig (Lqds none), dqcu.sig (Lqcu none)] dqdt Tryz.f49
theorem eqdt_i (a0 a1 : Int) (a2 a3 : Rw) : Lqdt none [.i a0, .i a1, .l a2, .l a3] =
 (Lqbc none [.i a0]).bind fun y1 =>
 cond (!(g y1 0).bool) (
 some [.i 0, .i 0, .i 0, .i 0, .i 0, .i 0, .i 0, .l ([]), .l ([]), .i 0, .i 0, .i 0, .i 1, .l [], .l [], .l [], .l [], .l []]) (
 cond (decide (a1 < 0)) (
 some [.i 0, .i 0, .i 0, .i 0, .i 0, .i 0, .i 0, .l ([]), .l ([]), .i 0, .i 0, .i 0, .i 1, .l [], .l [], .l [], .l [], .l []]) (
 cond (decide (1000000 < a1)) (
 some [.i 0, .i 0, .i 0, .i 0, .i 0, .i 0, .i 0, .l ([]), .l ([]), .i 0, .i 0, .i 0, .i 1, .l [], .l [], .l [], .l [], .l []]) (
 (Lq5 none [.l a2, .l a3]).bind fun y2 =>
 cond (!(g y2 0).bool) (
 some [.i 0, .i 0, .i 0, .i 0, .i 0, .i 0, .i 0, .l ([]), .l ([]), .i 0, .i 0, .i 0, .i 1, .l [], .l [], .l [], .l [], .l []]) (
 (Lqds none [.l a2, .l a3]).bind fun y3 =>
 (Lqcn none [.i a0, .l ((g y3 0).list)]).bind fun y4 =>
 cond (decide (0 < (g y4 4).int)) (
 some [.i 0, .i 0, .i 0, .i 0, .i 0, .i 0, .i 0, .l ([]), .l ([]), .i 0, .i 0, .i 0, .i 2, .l [], .l [], .l [], .l [], .l []]) (
 (Lqcu none [.l a2, .l a3]).bind fun y5 =>
 some [.i a0, .i a1, .i ((g y4 0).int), .i ((g y4 1).int), .i ((g y4 2).int), .i ((g y4 3).int), .i 0, .l ([]), .l ([]), .i 0, .i 0, .i 0, .i 0, .l ((g y5 0).list), .l ((g y5 1).list), .l ((g y4 5).list), .l ((g y4 6).list), .l ((g y4 7).list)]))))) := (zd _ _).trans (by kernel_rfl)
theorem kqdt : SigOk Tryz.prog (dqdt.sig (Lqdt none)) ∧ (dqdt.sig (Lqdt none)).ok = true := zf (zb kqbc (by kernel_rfl) (zb kqcn (by kernel_rfl) (zb kq5 (by kernel_rfl) (zb kqds (by kernel_rfl) (zb kqcu (by kernel_rfl) ze))))) (by kernel_rfl) (by kernel_rfl) (by kernel_rfl)
def dqj : FD := { fn := 104, nb := 0, pre := ⟨[.ag [.i .i64 0, .i .i64 1, .i .i64 2, .i .i64 3, .fz 90 false 4, .fz 156 false 5, .fz 158 false 6], .ag [.i .i64 7, .i .i64 8, .i .i64 9, .i .i64 10, .fz 90 false 11, .fz 156 false 12, .fz 158 false 13]], []⟩, post := ⟨[.sc (.b 0)], []⟩, sh := false, cuts := [⟨4, [2, 3, 64, 65, 66], ⟨[.sc (.pt 0 0), .sc (.pt 1 0), .sc (.fz 90 false 0), .sc (.i .i64 1), .sc (.i .i64 2)], [.bx [.i .i64 3, .i .i64 4, .i .i64 5, .i .i64 6, .fz 90 false 7, .fz 156 false 8, .fz 158 false 9], .bx [.i .i64 10, .i .i64 11, .i .i64 12, .i .i64 13, .fz 90 false 14, .fz 156 false 15, .fz 158 false 16]]⟩⟩, ⟨11, [2, 3, 120, 121], ⟨[.sc (.pt 0 0), .sc (.pt 1 0), .sc (.i .i64 0), .sc (.i .i64 1)], [.bx [.i .i64 2, .i .i64 3, .i .i64 4, .i .i64 5, .fz 90 false 6, .fz 156 false 7, .fz 158 false 8], .bx [.i .i64 9, .i .i64 10, .i .i64 11, .i .i64 12, .fz 90 false 13, .fz 156 false 14, .fz 158 false 15]]⟩⟩, ⟨17, [2, 3, 138, 139], ⟨[.sc (.pt 0 0), .sc (.pt 1 0), .sc (.i .i64 0), .sc (.i .i64 1)], [.bx [.i .i64 2, .i .i64 3, .i .i64 4, .i .i64 5, .fz 90 false 6, .fz 156 false 7, .fz 158 false 8], .bx [.i .i64 9, .i .i64 10, .i .i64 11, .i .i64 12, .fz 90 false 13, .fz 156 false 14, .fz 158 false 15]]⟩⟩] }
noncomputable def Lqj : Option Nat → Lv → Option Lv := Lim Tryz.prog [dq1.sig (Lq1 none)] dqj Tryz.f104
theorem eqj_i (a0 a1 a2 a3 : Int) (a4 a5 a6 : Rw) (a7 a8 a9 a10 : Int) (a11 a12 a13 : Rw) : Lqj none [.i a0, .i a1, .i a2, .i a3, .l a4, .l a5, .l a6, .i a7, .i a8, .i a9, .i a10, .l a11, .l a12, .l a13] =
 cond (a0 != a7) (
 some [.b false]) (
 cond (a1 != a8) (
 some [.b false]) (
 cond (a2 != a9) (
 some [.b false]) (
 cond (a3 != a10) (
 some [.b false]) (
 cond ((a4.length : Int) != (a11.length : Int)) (
 some [.b false]) (
 cond ((a5.length : Int) != (a12.length : Int)) (
 some [.b false]) (
 cond ((a6.length : Int) != (a13.length : Int)) (
 some [.b false]) (
 Lqj (some 4) [.l a4, .i (a4.length : Int), .i 0, .i a0, .i a1, .i a2, .i a3, .l a4, .l a5, .l a6, .i a7, .i a8, .i a9, .i a10, .l a11, .l a12, .l a13]))))))) := (zd _ _).trans (by kernel_rfl)
theorem eqj_4 (a0 : Rw) (a1 a2 a3 a4 a5 a6 : Int) (a7 a8 a9 : Rw) (a10 a11 a12 a13 : Int) (a14 a15 a16 : Rw) : Lqj (some 4) [.l a0, .i a1, .i a2, .i a3, .i a4, .i a5, .i a6, .l a7, .l a8, .l a9, .i a10, .i a11, .i a12, .i a13, .l a14, .l a15, .l a16] =
 cond (decide (a2 < a1)) (
 cond (inb a2 a0.length) (
 cond (inb a2 a14.length) (
 cond (!Eng.seq ((rd a0 a2.toNat 0).str) ((rd a14 a2.toNat 0).str)) (
 some [.b false]) (
 cond ((rd a0 a2.toNat 1).int != (rd a14 a2.toNat 1).int) (
 some [.b false]) (
 cond (!Eng.seq ((rd a0 a2.toNat 2).str) ((rd a14 a2.toNat 2).str)) (
 some [.b false]) (
 cond ((((rd a0 a2.toNat 3).list).length : Int) != (((rd a14 a2.toNat 3).list).length : Int)) (
 some [.b false]) (
 (Lq1 none [.s ((rd a0 a2.toNat 2).str), .l ((rd a0 a2.toNat 3).list)]).bind fun y1 =>
 (Lq1 none [.s ((rd a14 a2.toNat 2).str), .l ((rd a14 a2.toNat 3).list)]).bind fun y2 =>
 cond (!Eng.seq ((g y1 0).str) ((g y2 0).str)) (
 some [.b false]) (
 Lqj (some 4) [.l a0, .i a1, .i (IntKind.i64.wrap (a2 + 1)), .i a3, .i a4, .i a5, .i a6, .l a7, .l a8, .l a9, .i a10, .i a11, .i a12, .i a13, .l a14, .l a15, .l a16])))))) (
 none)) (
 none)) (
 Lqj (some 11) [.i (a8.length : Int), .i 0, .i a3, .i a4, .i a5, .i a6, .l a7, .l a8, .l a9, .i a10, .i a11, .i a12, .i a13, .l a14, .l a15, .l a16]) := (zd _ _).trans (by kernel_rfl)
theorem eqj_11 (a0 a1 a2 a3 a4 a5 : Int) (a6 a7 a8 : Rw) (a9 a10 a11 a12 : Int) (a13 a14 a15 : Rw) : Lqj (some 11) [.i a0, .i a1, .i a2, .i a3, .i a4, .i a5, .l a6, .l a7, .l a8, .i a9, .i a10, .i a11, .i a12, .l a13, .l a14, .l a15] =
 cond (decide (a1 < a0)) (
 cond (inb a1 a7.length) (
 cond (inb a1 a14.length) (
 cond (!((Eng.seq ((rd a7 a1.toNat 0).str) ((rd a14 a1.toNat 0).str)) && ((Eng.seq ((rd a7 a1.toNat 1).str) ((rd a14 a1.toNat 1).str)) && true))) (
 some [.b false]) (
 Lqj (some 11) [.i a0, .i (IntKind.i64.wrap (a1 + 1)), .i a2, .i a3, .i a4, .i a5, .l a6, .l a7, .l a8, .i a9, .i a10, .i a11, .i a12, .l a13, .l a14, .l a15])) (
 none)) (
 none)) (
 Lqj (some 17) [.i (a8.length : Int), .i 0, .i a2, .i a3, .i a4, .i a5, .l a6, .l a7, .l a8, .i a9, .i a10, .i a11, .i a12, .l a13, .l a14, .l a15]) := (zd _ _).trans (by kernel_rfl)
theorem eqj_17 (a0 a1 a2 a3 a4 a5 : Int) (a6 a7 a8 : Rw) (a9 a10 a11 a12 : Int) (a13 a14 a15 : Rw) : Lqj (some 17) [.i a0, .i a1, .i a2, .i a3, .i a4, .i a5, .l a6, .l a7, .l a8, .i a9, .i a10, .i a11, .i a12, .l a13, .l a14, .l a15] =
 cond (decide (a1 < a0)) (
 cond (inb a1 a8.length) (
 cond (inb a1 a15.length) (
 cond (!(((rd a8 a1.toNat 0).int == (rd a15 a1.toNat 0).int) && ((Eng.seq ((rd a8 a1.toNat 1).str) ((rd a15 a1.toNat 1).str)) && (((rd a8 a1.toNat 2).int == (rd a15 a1.toNat 2).int) && true)))) (
 some [.b false]) (
 Lqj (some 17) [.i a0, .i (IntKind.i64.wrap (a1 + 1)), .i a2, .i a3, .i a4, .i a5, .l a6, .l a7, .l a8, .i a9, .i a10, .i a11, .i a12, .l a13, .l a14, .l a15])) (
 none)) (
 none)) (
 some [.b true]) := (zd _ _).trans (by kernel_rfl)
theorem kqj : SigOk Tryz.prog (dqj.sig (Lqj none)) ∧ (dqj.sig (Lqj none)).ok = true := zf (zb kq1 (by kernel_rfl) ze) (by kernel_rfl) (by kernel_rfl) (by kernel_rfl)
def dqdu : FD := { fn := 140, nb := 0, pre := ⟨[.sc (.i .i64 0)], []⟩, post := ⟨[.sc (.b 0)], []⟩, sh := false, cuts := [] }
noncomputable def Lqdu : Option Nat → Lv → Option Lv := Lim Tryz.prog [] dqdu Tryz.f140
theorem eqdu_i (a0 : Int) : Lqdu none [.i a0] =
 cond (decide (0 ≤ a0)) (
 some [.b (decide (a0 ≤ 1000000000))]) (
 some [.b false]) := (zd _ _).trans (by kernel_rfl)
theorem kqdu : SigOk Tryz.prog (dqdu.sig (Lqdu none)) ∧ (dqdu.sig (Lqdu none)).ok = true := zf ze (by kernel_rfl) (by kernel_rfl) (by kernel_rfl)
def dqs : FD := { fn := 105, nb := 0, pre := ⟨[.sc (.pt 0 0), .ag [.i .i64 0, .fz 9 false 1, .fz 9 false 2, .i .i64 3, .i .i64 4, .i .i64 5]], [.rb [.i .i64 6, .i .i64 7, .i .i64 8, .i .i64 9, .fz 90 false 10, .fz 156 false 11, .fz 158 false 12]]⟩, post := ⟨[.sc (.b 0)], []⟩, sh := false, cuts := [⟨5, [0, 3, 5, 38, 39, 40], ⟨[.sc (.pt 0 0), .sc (.pt 1 0), .sc (.mp 2), .sc (.fz 9 false 0), .sc (.i .i64 1), .sc (.i .i64 2)], [.rb [.i .i64 3, .i .i64 4, .i .i64 5, .i .i64 6, .fz 90 false 7, .fz 156 false 8, .fz 158 false 9], .bx [.i .i64 10, .fz 9 false 11, .fz 9 false 12, .i .i64 13, .i .i64 14, .i .i64 15], .mp 9 4 16]⟩⟩, ⟨12, [0, 3, 60, 61, 62], ⟨[.sc (.pt 0 0), .sc (.pt 1 0), .sc (.fz 9 false 0), .sc (.i .i64 1), .sc (.i .i64 2)], [.rb [.i .i64 3, .i .i64 4, .i .i64 5, .i .i64 6, .fz 90 false 7, .fz 156 false 8, .fz 158 false 9], .bx [.i .i64 10, .fz 9 false 11, .fz 9 false 12, .i .i64 13, .i .i64 14, .i .i64 15]]⟩⟩] }
noncomputable def Lqs : Option Nat → Lv → Option Lv := Lim Tryz.prog [dqdu.sig (Lqdu none)] dqs Tryz.f105
theorem eqs_i (a0 : Int) (a1 a2 : Rw) (a3 a4 a5 a6 a7 a8 a9 : Int) (a10 a11 a12 : Rw) : Lqs none [.i a0, .l a1, .l a2, .i a3, .i a4, .i a5, .i a6, .i a7, .i a8, .i a9, .l a10, .l a11, .l a12] =
 cond (decide (a0 < 0)) (
 some [.b false]) (
 cond (decide (2 < a0)) (
 some [.b false]) (
 (Lqdu none [.i a5]).bind fun y1 =>
 cond (!(g y1 0).bool) (
 some [.b false]) (
 cond (decide (23200 < (a1.length : Int))) (
 some [.b false]) (
 cond (decide (600 < (a2.length : Int))) (
 some [.b false]) (
 Lqs (some 5) [.l a2, .i (a2.length : Int), .i 0, .i a6, .i a7, .i a8, .i a9, .l a10, .l a11, .l a12, .i a0, .l a1, .l a2, .i a3, .i a4, .i a5, .m ([])]))))) := (zd _ _).trans (by kernel_rfl)
theorem eqs_5 (a0 : Rw) (a1 a2 a3 a4 a5 a6 : Int) (a7 a8 a9 : Rw) (a10 : Int) (a11 a12 : Rw) (a13 a14 a15 : Int) (a16 : List (C × C)) : Lqs (some 5) [.l a0, .i a1, .i a2, .i a3, .i a4, .i a5, .i a6, .l a7, .l a8, .l a9, .i a10, .l a11, .l a12, .i a13, .i a14, .i a15, .m a16] =
 cond (decide (a2 < a1)) (
 cond (inb a2 a0.length) (
 cond ((((rd a0 a2.toNat 0).str).size : Int) != a3) (
 some [.b false]) (
 cond (((mget .s (.s ((rd a0 a2.toNat 0).str)) a16).getD (.b false)).bool) (
 some [.b false]) (
 Lqs (some 5) [.l a0, .i a1, .i (IntKind.i64.wrap (a2 + 1)), .i a3, .i a4, .i a5, .i a6, .l a7, .l a8, .l a9, .i a10, .l a11, .l a12, .i a13, .i a14, .i a15, .m (mput .s (.s ((rd a0 a2.toNat 0).str)) (.b true) a16)]))) (
 none)) (
 Lqs (some 12) [.l a11, .i (a11.length : Int), .i 0, .i a3, .i a4, .i a5, .i a6, .l a7, .l a8, .l a9, .i a10, .l a11, .l a12, .i a13, .i a14, .i a15]) := (zd _ _).trans (by kernel_rfl)
theorem eqs_12 (a0 : Rw) (a1 a2 a3 a4 a5 a6 : Int) (a7 a8 a9 : Rw) (a10 : Int) (a11 a12 : Rw) (a13 a14 a15 : Int) : Lqs (some 12) [.l a0, .i a1, .i a2, .i a3, .i a4, .i a5, .i a6, .l a7, .l a8, .l a9, .i a10, .l a11, .l a12, .i a13, .i a14, .i a15] =
 cond (decide (a2 < a1)) (
 cond (inb a2 a0.length) (
 cond ((((rd a0 a2.toNat 0).str).size : Int) != a3) (
 some [.b false]) (
 Lqs (some 12) [.l a0, .i a1, .i (IntKind.i64.wrap (a2 + 1)), .i a3, .i a4, .i a5, .i a6, .l a7, .l a8, .l a9, .i a10, .l a11, .l a12, .i a13, .i a14, .i a15])) (
 none)) (
 cond (a10 == 0) (
 cond ((IntKind.i64.wrap ((a11.length : Int) + (a12.length : Int))) == 0) (
 cond (a13 == 0) (
 some [.b (a14 == 0)]) (
 some [.b false])) (
 some [.b false])) (
 cond (decide (0 ≤ a13)) (
 cond (decide (a13 ≤ a6)) (
 cond (decide (1 ≤ a14)) (
 cond (decide (a14 ≤ (IntKind.i64.wrap (a13 + 1)))) (
 cond (a10 != 1) (
 some [.b true]) (
 some [.b (a14 == (IntKind.i64.wrap (a13 + 1)))])) (
 some [.b false])) (
 some [.b false])) (
 some [.b false])) (
 some [.b false]))) := (zd _ _).trans (by kernel_rfl)
theorem kqs : SigOk Tryz.prog (dqs.sig (Lqs none)) ∧ (dqs.sig (Lqs none)).ok = true := zf (zb kqdu (by kernel_rfl) ze) (by kernel_rfl) (by kernel_rfl) (by kernel_rfl)
def dqbs : FD := { fn := 30, nb := 0, pre := ⟨[.ag [.i .i64 0, .i .i64 1, .fz 9 false 2, .fz 9 false 3, .i .i64 4, .i .i64 5, .i .i64 6, .i .i64 7, .fz 90 false 8, .fz 156 false 9, .fz 158 false 10, .i .i64 11, .fz 9 false 12, .fz 9 false 13, .i .i64 14, .i .i64 15, .i .i64 16]], []⟩, post := ⟨[.sc (.b 0)], []⟩, sh := false, cuts := [] }
noncomputable def Lqbs : Option Nat → Lv → Option Lv := Lim Tryz.prog [dqdt.sig (Lqdt none), dqj.sig (Lqj none), dqs.sig (Lqs none)] dqbs Tryz.f30
theorem eqbs_i (a0 a1 : Int) (a2 a3 : Rw) (a4 a5 a6 a7 : Int) (a8 a9 a10 : Rw) (a11 : Int) (a12 a13 : Rw) (a14 a15 a16 : Int) : Lqbs none [.i a0, .i a1, .l a2, .l a3, .i a4, .i a5, .i a6, .i a7, .l a8, .l a9, .l a10, .i a11, .l a12, .l a13, .i a14, .i a15, .i a16] =
 (Lqdt none [.i a0, .i a1, .l a2, .l a3]).bind fun y1 =>
 cond ((g y1 12).int == 0) (
 (Lqj none [.i ((g y1 2).int), .i ((g y1 3).int), .i ((g y1 4).int), .i ((g y1 5).int), .l ((g y1 15).list), .l ((g y1 16).list), .l ((g y1 17).list), .i a4, .i a5, .i a6, .i a7, .l a8, .l a9, .l a10]).bind fun y2 =>
 cond ((g y2 0).bool) (
 (Lqs none [.i a11, .l a12, .l a13, .i a14, .i a15, .i a16, .i a4, .i a5, .i a6, .i a7, .l a8, .l a9, .l a10]).bind fun y3 =>
 some [.b ((g y3 0).bool)]) (
 some [.b false])) (
 some [.b false]) := (zd _ _).trans (by kernel_rfl)
theorem kqbs : SigOk Tryz.prog (dqbs.sig (Lqbs none)) ∧ (dqbs.sig (Lqbs none)).ok = true := zf (zb kqdt (by kernel_rfl) (zb kqj (by kernel_rfl) (zb kqs (by kernel_rfl) ze))) (by kernel_rfl) (by kernel_rfl) (by kernel_rfl)
def dqdv : FD := { fn := 121, nb := 0, pre := ⟨[.ag [], .sc (.ow 0), .sc (.i .u32 0)], [.rw 5 false 1]⟩, post := ⟨[.sc (.ow 0)], [.rw 5 false 0]⟩, sh := true, cuts := [] }
noncomputable def Lqdv : Option Nat → Lv → Option Lv := Lim Tryz.prog [] dqdv Tryz.f121
theorem eqdv_i (a0 : Int) (a1 : Rw) : Lqdv none [.i a0, .l a1] =
 cond (decide (a1.length + ([[.i (IntKind.u8.wrap (a0.fdiv (2 ^ 24)))], [.i (IntKind.u8.wrap (a0.fdiv (2 ^ 16)))], [.i (IntKind.u8.wrap (a0.fdiv (2 ^ 8)))], [.i (IntKind.u8.wrap a0)]] : Rw).length ≤ most)) (
 some [.l (a1 ++ ([[.i (IntKind.u8.wrap (a0.fdiv (2 ^ 24)))], [.i (IntKind.u8.wrap (a0.fdiv (2 ^ 16)))], [.i (IntKind.u8.wrap (a0.fdiv (2 ^ 8)))], [.i (IntKind.u8.wrap a0)]] : Rw))]) (
 none) := (zd _ _).trans (by kernel_rfl)
theorem kqdv : SigOk Tryz.prog (dqdv.sig (Lqdv none)) ∧ (dqdv.sig (Lqdv none)).ok = true := zf ze (by kernel_rfl) (by kernel_rfl) (by kernel_rfl)
def dqci : FD := { fn := 38, nb := 0, pre := ⟨[.ag [.i .i64 0, .s 1, .s 2, .i .i64 3, .s 4, .fz 9 false 5], .sc (.i .i64 6)], []⟩, post := ⟨[.sc (.s 0)], []⟩, sh := false, cuts := [] }
noncomputable def Lqci : Option Nat → Lv → Option Lv := Lim Tryz.prog [dqe.sig (Lqe none), dq1.sig (Lq1 none), dqdv.sig (Lqdv none)] dqci Tryz.f38
theorem eqci_i (a0 : Int) (a1 a2 : ByteArray) (a3 : Int) (a4 : ByteArray) (a5 : Rw) (a6 : Int) : Lqci none [.i a0, .s a1, .s a2, .i a3, .s a4, .l a5, .i a6] =
 (Lqe none [.i a0, .s a1, .s a2, .i a3, .s a4, .l a5, .i a6]).bind fun y1 =>
 cond (!(g y1 0).bool) (
 some [.s (⟨#[]⟩ : ByteArray)]) (
 (Lqdv none [.i (IntKind.u32.wrap a3), .l ([[.i (IntKind.u8.wrap a0)]] : Rw)]).bind fun y2 =>
 cond (decide (((g y2 0).list).length + ([[.i (IntKind.u8.wrap (a2.size : Int))]] : Rw).length ≤ most)) (
 cond (decide ((bytesOf ((g y2 0).list ++ ([[.i (IntKind.u8.wrap (a2.size : Int))]] : Rw))).size + a2.size ≤ most)) (
 cond (decide (((bytesOf ((g y2 0).list ++ ([[.i (IntKind.u8.wrap (a2.size : Int))]] : Rw))) ++ a2).size + a1.size ≤ most)) (
 cond (a0 == 1) (
 (Lq1 none [.s a4, .l a5]).bind fun y3 =>
 cond (decide ((((bytesOf ((g y2 0).list ++ ([[.i (IntKind.u8.wrap (a2.size : Int))]] : Rw))) ++ a2) ++ a1).size + ((g y3 0).str).size ≤ most)) (
 some [.s ((((bytesOf ((g y2 0).list ++ ([[.i (IntKind.u8.wrap (a2.size : Int))]] : Rw))) ++ a2) ++ a1) ++ ((g y3 0).str))]) (
 none)) (
 some [.s (((bytesOf ((g y2 0).list ++ ([[.i (IntKind.u8.wrap (a2.size : Int))]] : Rw))) ++ a2) ++ a1)])) (
 none)) (
 none)) (
 none)) := (zd _ _).trans (by kernel_rfl)
theorem kqci : SigOk Tryz.prog (dqci.sig (Lqci none)) ∧ (dqci.sig (Lqci none)).ok = true := zf (zb kqe (by kernel_rfl) (zb kq1 (by kernel_rfl) (zb kqdv (by kernel_rfl) ze))) (by kernel_rfl) (by kernel_rfl) (by kernel_rfl)
def dqca : FD := { fn := 119, nb := 0, pre := ⟨[.ag [.i .i64 0, .i .i64 1, .i .i64 2, .i .i64 3, .fz 90 false 4, .fz 156 false 5, .fz 158 false 6]], []⟩, post := ⟨[.ag [.i .i64 0, .i .i64 1, .i .i64 2, .i .i64 3, .ow 0, .ow 1, .ow 2]], [.rw 90 true 4, .rw 156 true 5, .rw 158 true 6]⟩, sh := false, cuts := [⟨4, [1, 2, 9, 10, 11], ⟨[.sc (.pt 0 0), .sc (.pt 1 0), .sc (.fz 90 false 0), .sc (.i .i64 1), .sc (.i .i64 2)], [.bx [.i .i64 3, .i .i64 4, .i .i64 5, .i .i64 6, .ow 2, .fz 156 false 7, .fz 158 false 8], .bx [.i .i64 9, .i .i64 10, .i .i64 11, .i .i64 12, .ow 3, .ow 4, .ow 5], .rw 90 true 13, .rw 90 true 14, .rw 156 true 15, .rw 158 true 16]⟩⟩] }
noncomputable def Lqca : Option Nat → Lv → Option Lv := Lim Tryz.prog [dqz.sig (Lqz none)] dqca Tryz.f119
theorem eqca_i (a0 a1 a2 a3 : Int) (a4 a5 a6 : Rw) : Lqca none [.i a0, .i a1, .i a2, .i a3, .l a4, .l a5, .l a6] =
 Lqca (some 4) [.l a4, .i (a4.length : Int), .i 0, .i a0, .i a1, .i a2, .i a3, .l a5, .l a6, .i 0, .i 0, .i 0, .i 0, .l [], .l [], .l [], .l []] := (zd _ _).trans (by kernel_rfl)
theorem eqca_4 (a0 : Rw) (a1 a2 a3 a4 a5 a6 : Int) (a7 a8 : Rw) (a9 a10 a11 a12 : Int) (a13 a14 a15 a16 : Rw) : Lqca (some 4) [.l a0, .i a1, .i a2, .i a3, .i a4, .i a5, .i a6, .l a7, .l a8, .i a9, .i a10, .i a11, .i a12, .l a13, .l a14, .l a15, .l a16] =
 cond (decide (a2 < a1)) (
 cond (inb a2 a0.length) (
 (Lqz none [.l ((rd a0 a2.toNat 3).list)]).bind fun y1 =>
 cond (decide (a13.length + ([[.s ((rd a0 a2.toNat 0).str), .i ((rd a0 a2.toNat 1).int), .s ((rd a0 a2.toNat 2).str), .l ((g y1 0).list)]] : Rw).length ≤ most)) (
 Lqca (some 4) [.l a0, .i a1, .i (IntKind.i64.wrap (a2 + 1)), .i a3, .i a4, .i a5, .i a6, .l a7, .l a8, .i a9, .i a10, .i a11, .i a12, .l (a13 ++ ([[.s ((rd a0 a2.toNat 0).str), .i ((rd a0 a2.toNat 1).int), .s ((rd a0 a2.toNat 2).str), .l ((g y1 0).list)]] : Rw)), .l a14, .l a15, .l a16]) (
 none)) (
 none)) (
 cond (decide (a7.length ≤ most)) (
 cond (decide (a8.length ≤ most)) (
 some [.i a3, .i a4, .i a5, .i a6, .l a13, .l a7, .l a8]) (
 none)) (
 none)) := (zd _ _).trans (by kernel_rfl)
theorem kqca : SigOk Tryz.prog (dqca.sig (Lqca none)) ∧ (dqca.sig (Lqca none)).ok = true := zf (zb kqz (by kernel_rfl) ze) (by kernel_rfl) (by kernel_rfl) (by kernel_rfl)
def dqcb : FD := { fn := 192, nb := 0, pre := ⟨[.ag [.i .i64 0, .fz 9 false 1, .fz 9 false 2, .i .i64 3, .i .i64 4, .i .i64 5]], []⟩, post := ⟨[.ag [.i .i64 0, .ow 0, .ow 1, .i .i64 1, .i .i64 2, .i .i64 3]], [.rw 9 true 4, .rw 9 true 5]⟩, sh := false, cuts := [] }
noncomputable def Lqcb : Option Nat → Lv → Option Lv := Lim Tryz.prog [dqz.sig (Lqz none)] dqcb Tryz.f192
theorem eqcb_i (a0 : Int) (a1 a2 : Rw) (a3 a4 a5 : Int) : Lqcb none [.i a0, .l a1, .l a2, .i a3, .i a4, .i a5] =
 (Lqz none [.l a1]).bind fun y1 =>
 (Lqz none [.l a2]).bind fun y2 =>
 some [.i a0, .i a3, .i a4, .i a5, .l ((g y1 0).list), .l ((g y2 0).list)] := (zd _ _).trans (by kernel_rfl)
theorem kqcb : SigOk Tryz.prog (dqcb.sig (Lqcb none)) ∧ (dqcb.sig (Lqcb none)).ok = true := zf (zb kqz (by kernel_rfl) ze) (by kernel_rfl) (by kernel_rfl) (by kernel_rfl)
def dqcj : FD := { fn := 123, nb := 0, pre := ⟨[.ag [.i .i64 0, .i .i64 1, .fz 9 false 2, .fz 9 false 3, .i .i64 4, .i .i64 5, .i .i64 6, .i .i64 7, .fz 90 false 8, .fz 156 false 9, .fz 158 false 10, .i .i64 11, .fz 9 false 12, .fz 9 false 13, .i .i64 14, .i .i64 15, .i .i64 16]], []⟩, post := ⟨[.ag [.i .i64 0, .i .i64 1, .ow 0, .ow 1, .i .i64 2, .i .i64 3, .i .i64 4, .i .i64 5, .ow 2, .ow 3, .ow 4, .i .i64 6, .ow 5, .ow 6, .i .i64 7, .i .i64 8, .i .i64 9]], [.rw 9 true 10, .rw 9 true 11, .rw 90 true 12, .rw 156 true 13, .rw 158 true 14, .rw 9 true 15, .rw 9 true 16]⟩, sh := false, cuts := [] }
noncomputable def Lqcj : Option Nat → Lv → Option Lv := Lim Tryz.prog [dqcu.sig (Lqcu none), dqca.sig (Lqca none), dqcb.sig (Lqcb none)] dqcj Tryz.f123
theorem eqcj_i (a0 a1 : Int) (a2 a3 : Rw) (a4 a5 a6 a7 : Int) (a8 a9 a10 : Rw) (a11 : Int) (a12 a13 : Rw) (a14 a15 a16 : Int) : Lqcj none [.i a0, .i a1, .l a2, .l a3, .i a4, .i a5, .i a6, .i a7, .l a8, .l a9, .l a10, .i a11, .l a12, .l a13, .i a14, .i a15, .i a16] =
 (Lqcu none [.l a2, .l a3]).bind fun y1 =>
 (Lqca none [.i a4, .i a5, .i a6, .i a7, .l a8, .l a9, .l a10]).bind fun y2 =>
 (Lqcb none [.i a11, .l a12, .l a13, .i a14, .i a15, .i a16]).bind fun y3 =>
 some [.i a0, .i a1, .i ((g y2 0).int), .i ((g y2 1).int), .i ((g y2 2).int), .i ((g y2 3).int), .i ((g y3 0).int), .i ((g y3 1).int), .i ((g y3 2).int), .i ((g y3 3).int), .l ((g y1 0).list), .l ((g y1 1).list), .l ((g y2 4).list), .l ((g y2 5).list), .l ((g y2 6).list), .l ((g y3 4).list), .l ((g y3 5).list)] := (zd _ _).trans (by kernel_rfl)
theorem kqcj : SigOk Tryz.prog (dqcj.sig (Lqcj none)) ∧ (dqcj.sig (Lqcj none)).ok = true := zf (zb kqcu (by kernel_rfl) (zb kqca (by kernel_rfl) (zb kqcb (by kernel_rfl) ze))) (by kernel_rfl) (by kernel_rfl) (by kernel_rfl)
def dqcc : FD := { fn := 139, nb := 0, pre := ⟨[.sc (.pt 0 0)], [.rb [.i .i64 0, .i .i64 1, .i .i64 2, .i .i64 3, .fz 90 false 4, .fz 156 false 5, .fz 158 false 6]]⟩, post := ⟨[.sc (.i .i64 0)], []⟩, sh := false, cuts := [⟨3, [3, 9, 10, 11], ⟨[.sc (.i .i64 0), .sc (.fz 90 false 1), .sc (.i .i64 2), .sc (.i .i64 3)], []⟩⟩] }
noncomputable def Lqcc : Option Nat → Lv → Option Lv := Lim Tryz.prog [dq1.sig (Lq1 none)] dqcc Tryz.f139
theorem eqcc_i (a0 a1 a2 a3 : Int) (a4 a5 a6 : Rw) : Lqcc none [.i a0, .i a1, .i a2, .i a3, .l a4, .l a5, .l a6] =
 Lqcc (some 3) [.i 0, .l a4, .i (a4.length : Int), .i 0] := (zd _ _).trans (by kernel_rfl)
theorem eqcc_3 (a0 : Int) (a1 : Rw) (a2 a3 : Int) : Lqcc (some 3) [.i a0, .l a1, .i a2, .i a3] =
 cond (decide (a3 < a2)) (
 cond (inb a3 a1.length) (
 (Lq1 none [.s ((rd a1 a3.toNat 2).str), .l ((rd a1 a3.toNat 3).list)]).bind fun y1 =>
 Lqcc (some 3) [.i (IntKind.i64.wrap (a0 + (((g y1 0).str).size : Int))), .l a1, .i a2, .i (IntKind.i64.wrap (a3 + 1))]) (
 none)) (
 some [.i a0]) := (zd _ _).trans (by kernel_rfl)
theorem kqcc : SigOk Tryz.prog (dqcc.sig (Lqcc none)) ∧ (dqcc.sig (Lqcc none)).ok = true := zf (zb kq1 (by kernel_rfl) ze) (by kernel_rfl) (by kernel_rfl) (by kernel_rfl)
end KV
end
section
set_option maxRecDepth 100000
namespace KV
open Go Go.Eng Go.Proofs
def dqbl : FD := { fn := 194, nb := 0, pre := ⟨[.sc (.fz 9 false 0), .sc (.s 1)], []⟩, post := ⟨[.sc (.b 0)], []⟩, sh := false, cuts := [⟨2, [1, 7, 8, 9], ⟨[.sc (.s 0), .sc (.fz 9 false 1), .sc (.i .i64 2), .sc (.i .i64 3)], []⟩⟩] }
noncomputable def Lqbl : Option Nat → Lv → Option Lv := Lim Tryz.prog [] dqbl Tryz.f194
theorem eqbl_i (a0 : Rw) (a1 : ByteArray) : Lqbl none [.l a0, .s a1] =
 Lqbl (some 2) [.s a1, .l a0, .i (a0.length : Int), .i 0] := (zd _ _).trans (by kernel_rfl)
theorem eqbl_2 (a0 : ByteArray) (a1 : Rw) (a2 a3 : Int) : Lqbl (some 2) [.s a0, .l a1, .i a2, .i a3] =
 cond (decide (a3 < a2)) (
 cond (inb a3 a1.length) (
 cond (Eng.seq a0 ((rd a1 a3.toNat 0).str)) (
 some [.b true]) (
 Lqbl (some 2) [.s a0, .l a1, .i a2, .i (IntKind.i64.wrap (a3 + 1))])) (
 none)) (
 some [.b false]) := (zd _ _).trans (by kernel_rfl)
theorem kqbl : SigOk Tryz.prog (dqbl.sig (Lqbl none)) ∧ (dqbl.sig (Lqbl none)).ok = true := zf ze (by kernel_rfl) (by kernel_rfl) (by kernel_rfl)
def dqc3 : FD := { fn := 149, nb := 0, pre := ⟨[.sc (.pt 0 0), .ag [.i .i64 0, .fz 9 false 1, .fz 9 false 2, .i .i64 3, .i .i64 4, .i .i64 5], .sc (.s 6)], [.rb [.i .i64 7, .i .i64 8, .i .i64 9, .i .i64 10, .fz 90 false 11, .fz 156 false 12, .fz 158 false 13]]⟩, post := ⟨[.ag [.i .i64 0, .ow 0, .ow 1, .i .i64 1, .i .i64 2, .i .i64 3]], [.rw 9 true 4, .rw 9 true 5]⟩, sh := false, cuts := [] }
noncomputable def Lqc3 : Option Nat → Lv → Option Lv := Lim Tryz.prog [dqbk.sig (Lqbk none), dqcb.sig (Lqcb none), dqbl.sig (Lqbl none)] dqc3 Tryz.f149
theorem eqc3_i (a0 : Int) (a1 a2 : Rw) (a3 a4 a5 : Int) (a6 : ByteArray) (a7 a8 a9 a10 : Int) (a11 a12 a13 : Rw) : Lqc3 none [.i a0, .l a1, .l a2, .i a3, .i a4, .i a5, .s a6, .i a7, .i a8, .i a9, .i a10, .l a11, .l a12, .l a13] =
 (Lqcb none [.i a0, .l a1, .l a2, .i a3, .i a4, .i a5]).bind fun y1 =>
 (Lqbk none [.s a6, .i a7, .i a8, .i a9, .i a10, .l a11, .l a12, .l a13]).bind fun y2 =>
 cond ((g y2 1).bool) (
 cond (a0 != 0) (
 (Lqbl none [.l a2, .s a6]).bind fun y3 =>
 cond (!(g y3 0).bool) (
 cond (decide ((a1.length : Int) < 23200)) (
 cond (decide (((g y1 4).list).length + ([[.s a6]] : Rw).length ≤ most)) (
 some [.i ((g y1 0).int), .i ((g y1 1).int), .i ((g y1 2).int), .i ((g y1 3).int), .l ((g y1 4).list ++ ([[.s a6]] : Rw)), .l ((g y1 5).list)]) (
 none)) (
 some [.i ((g y1 0).int), .i ((g y1 1).int), .i ((g y1 2).int), .i ((g y1 3).int), .l ((g y1 4).list), .l ((g y1 5).list)])) (
 some [.i ((g y1 0).int), .i ((g y1 1).int), .i ((g y1 2).int), .i ((g y1 3).int), .l ((g y1 4).list), .l ((g y1 5).list)])) (
 some [.i ((g y1 0).int), .i ((g y1 1).int), .i ((g y1 2).int), .i ((g y1 3).int), .l ((g y1 4).list), .l ((g y1 5).list)])) (
 some [.i ((g y1 0).int), .i ((g y1 1).int), .i ((g y1 2).int), .i ((g y1 3).int), .l ((g y1 4).list), .l ((g y1 5).list)]) := (zd _ _).trans (by kernel_rfl)
theorem kqc3 : SigOk Tryz.prog (dqc3.sig (Lqc3 none)) ∧ (dqc3.sig (Lqc3 none)).ok = true := zf (zb kqbk (by kernel_rfl) (zb kqcb (by kernel_rfl) (zb kqbl (by kernel_rfl) ze))) (by kernel_rfl) (by kernel_rfl) (by kernel_rfl)
def dqbm : FD := { fn := 146, nb := 0, pre := ⟨[.ag [.i .i64 0, .i .i64 1, .fz 9 false 2, .fz 9 false 3, .i .i64 4, .i .i64 5, .i .i64 6, .i .i64 7, .fz 90 false 8, .fz 156 false 9, .fz 158 false 10, .i .i64 11, .fz 9 false 12, .fz 9 false 13, .i .i64 14, .i .i64 15, .i .i64 16], .ag [.i .i64 17, .s 18, .s 19, .i .i64 20, .s 21, .fz 9 false 22], .sc (.b 23)], []⟩, post := ⟨[.ag [.i .i64 0, .i .i64 1, .i .i64 2, .ow 0, .ow 1, .i .i64 3, .i .i64 4, .i .i64 5, .i .i64 6, .ow 2, .ow 3, .ow 4, .i .i64 7, .ow 5, .ow 6, .i .i64 8, .i .i64 9, .i .i64 10, .s 11, .i .i64 12, .s 13, .s 14]], [.rw 9 true 15, .rw 9 true 16, .rw 90 false 17, .rw 156 false 18, .rw 158 false 19, .rw 9 true 20, .rw 9 true 21]⟩, sh := true, cuts := [⟨18, [6, 7, 8, 9], ⟨[.sc (.pt 0 0), .sc (.pt 1 0), .sc (.pt 2 0), .sc (.s 0)], [.bx [.i .i64 1, .i .i64 2, .i .i64 3, .ow 10, .ow 11, .i .i64 4, .i .i64 5, .i .i64 6, .i .i64 7, .ow 12, .ow 13, .ow 14, .i .i64 8, .ow 15, .ow 16, .i .i64 9, .i .i64 10, .i .i64 11, .s 12, .i .i64 13, .s 14, .s 15], .bx [.i .i64 16, .i .i64 17, .ow 3, .ow 4, .i .i64 18, .i .i64 19, .i .i64 20, .i .i64 21, .ow 5, .ow 6, .ow 7, .i .i64 22, .ow 8, .ow 9, .i .i64 23, .i .i64 24, .i .i64 25], .bx [.i .i64 26, .i .i64 27, .i .i64 28, .i .i64 29, .i .i64 30, .fz 90 true 31, .fz 156 true 32, .fz 158 true 33, .s 34, .i .i64 35, .s 36, .s 37], .rw 9 true 38, .rw 9 true 39, .rw 90 false 40, .rw 156 false 41, .rw 158 false 42, .rw 9 true 43, .rw 9 true 44, .rw 9 true 45, .rw 9 true 46, .rw 90 true 47, .rw 156 true 48, .rw 158 true 49, .rw 9 true 50, .rw 9 true 51]⟩⟩] }
noncomputable def Lqbm : Option Nat → Lv → Option Lv := Lim Tryz.prog [dqe.sig (Lqe none), dqa.sig (Lqa none), dqbs.sig (Lqbs none), dqci.sig (Lqci none), dqcj.sig (Lqcj none), dqcc.sig (Lqcc none), dqc3.sig (Lqc3 none)] dqbm Tryz.f146
theorem eqbm_i (a0 a1 : Int) (a2 a3 : Rw) (a4 a5 a6 a7 : Int) (a8 a9 a10 : Rw) (a11 : Int) (a12 a13 : Rw) (a14 a15 a16 a17 : Int) (a18 a19 : ByteArray) (a20 : Int) (a21 : ByteArray) (a22 : Rw) (a23 : Bool) : Lqbm none [.i a0, .i a1, .l a2, .l a3, .i a4, .i a5, .i a6, .i a7, .l a8, .l a9, .l a10, .i a11, .l a12, .l a13, .i a14, .i a15, .i a16, .i a17, .s a18, .s a19, .i a20, .s a21, .l a22, .b a23] =
 (Lqbs none [.i a0, .i a1, .l a2, .l a3, .i a4, .i a5, .i a6, .i a7, .l a8, .l a9, .l a10, .i a11, .l a12, .l a13, .i a14, .i a15, .i a16]).bind fun y1 =>
 cond (!(g y1 0).bool) (
 some [.i 1, .i 0, .i 0, .i 0, .i 0, .i 0, .i 0, .i 0, .i 0, .i 0, .i 0, .s (⟨#[]⟩ : ByteArray), .i 0, .s (⟨#[]⟩ : ByteArray), .s (⟨#[]⟩ : ByteArray), .l [], .l [], .l [], .l [], .l [], .l [], .l []]) (
 (Lqcj none [.i a0, .i a1, .l a2, .l a3, .i a4, .i a5, .i a6, .i a7, .l a8, .l a9, .l a10, .i a11, .l a12, .l a13, .i a14, .i a15, .i a16]).bind fun y2 =>
 (Lqe none [.i a17, .s a18, .s a19, .i a20, .s a21, .l a22, .i a0]).bind fun y3 =>
 cond (!(g y3 0).bool) (
 some [.i 1, .i ((g y2 0).int), .i ((g y2 1).int), .i ((g y2 2).int), .i ((g y2 3).int), .i ((g y2 4).int), .i ((g y2 5).int), .i ((g y2 6).int), .i ((g y2 7).int), .i ((g y2 8).int), .i ((g y2 9).int), .s (⟨#[]⟩ : ByteArray), .i 0, .s (⟨#[]⟩ : ByteArray), .s (⟨#[]⟩ : ByteArray), .l ((g y2 10).list), .l ((g y2 11).list), .l ((g y2 12).list), .l ((g y2 13).list), .l ((g y2 14).list), .l ((g y2 15).list), .l ((g y2 16).list)]) (
 (Lqa none [.i a17, .s a18, .s a19, .i a20, .s a21, .l a22, .i ((g y2 2).int), .i ((g y2 3).int), .i ((g y2 4).int), .i ((g y2 5).int), .l ((g y2 12).list), .l ((g y2 13).list), .l ((g y2 14).list)]).bind fun y4 =>
 cond ((g y4 0).int != 0) (
 (Lqcj none [.i a0, .i a1, .l a2, .l a3, .i a4, .i a5, .i a6, .i a7, .l a8, .l a9, .l a10, .i a11, .l a12, .l a13, .i a14, .i a15, .i a16]).bind fun y5 =>
 some [.i ((g y4 0).int), .i ((g y5 0).int), .i ((g y5 1).int), .i ((g y5 2).int), .i ((g y5 3).int), .i ((g y5 4).int), .i ((g y5 5).int), .i ((g y5 6).int), .i ((g y5 7).int), .i ((g y5 8).int), .i ((g y5 9).int), .s (⟨#[]⟩ : ByteArray), .i 0, .s ((g y4 10).str), .s ((g y4 11).str), .l ((g y5 10).list), .l ((g y5 11).list), .l ((g y5 12).list), .l ((g y5 13).list), .l ((g y5 14).list), .l ((g y5 15).list), .l ((g y5 16).list)]) (
 cond (a17 == 1) (
 (Lqcc none [.i ((g y4 12).int), .i ((g y4 13).int), .i ((g y4 14).int), .i ((g y4 15).int), .l ((g y4 16).list), .l ((g y4 17).list), .l ((g y4 18).list)]).bind fun y6 =>
 cond (decide (a1 < (g y6 0).int)) (
 (Lqcj none [.i a0, .i a1, .l a2, .l a3, .i a4, .i a5, .i a6, .i a7, .l a8, .l a9, .l a10, .i a11, .l a12, .l a13, .i a14, .i a15, .i a16]).bind fun y7 =>
 some [.i 8, .i ((g y7 0).int), .i ((g y7 1).int), .i ((g y7 2).int), .i ((g y7 3).int), .i ((g y7 4).int), .i ((g y7 5).int), .i ((g y7 6).int), .i ((g y7 7).int), .i ((g y7 8).int), .i ((g y7 9).int), .s (⟨#[]⟩ : ByteArray), .i 0, .s (⟨#[]⟩ : ByteArray), .s (⟨#[]⟩ : ByteArray), .l ((g y7 10).list), .l ((g y7 11).list), .l ((g y7 12).list), .l ((g y7 13).list), .l ((g y7 14).list), .l ((g y7 15).list), .l ((g y7 16).list)]) (
 cond ((IntKind.i64.wrap ((a2.length : Int) + (a3.length : Int))) == 4000) (
 (Lqcj none [.i a0, .i a1, .l a2, .l a3, .i a4, .i a5, .i a6, .i a7, .l a8, .l a9, .l a10, .i a11, .l a12, .l a13, .i a14, .i a15, .i a16]).bind fun y8 =>
 some [.i 9, .i ((g y8 0).int), .i ((g y8 1).int), .i ((g y8 2).int), .i ((g y8 3).int), .i ((g y8 4).int), .i ((g y8 5).int), .i ((g y8 6).int), .i ((g y8 7).int), .i ((g y8 8).int), .i ((g y8 9).int), .s (⟨#[]⟩ : ByteArray), .i 0, .s (⟨#[]⟩ : ByteArray), .s (⟨#[]⟩ : ByteArray), .l ((g y8 10).list), .l ((g y8 11).list), .l ((g y8 12).list), .l ((g y8 13).list), .l ((g y8 14).list), .l ((g y8 15).list), .l ((g y8 16).list)]) (
 (Lqci none [.i a17, .s a18, .s a19, .i a20, .s a21, .l a22, .i a0]).bind fun y9 =>
 cond (decide (((g y2 11).list).length + ([[.s ((g y9 0).str)]] : Rw).length ≤ most)) (
 cond a23 (
 cond (a17 == 1) (
 Lqbm (some 18) [.s ((g y4 8).str), .i 0, .i 0, .i 0, .i 0, .i 0, .i 0, .i 0, .i 0, .i 0, .i 0, .i 0, .s (⟨#[]⟩ : ByteArray), .i 0, .s (⟨#[]⟩ : ByteArray), .s (⟨#[]⟩ : ByteArray), .i ((g y2 0).int), .i ((g y2 1).int), .i ((g y4 12).int), .i ((g y4 13).int), .i ((g y4 14).int), .i ((g y4 15).int), .i ((g y2 6).int), .i ((g y2 7).int), .i ((g y2 8).int), .i ((g y2 9).int), .i ((g y4 0).int), .i ((g y4 1).int), .i ((g y4 2).int), .i ((g y4 3).int), .i ((g y4 4).int), .l ((g y4 5).list), .l ((g y4 6).list), .l ((g y4 7).list), .s ((g y4 8).str), .i ((g y4 9).int), .s ((g y4 10).str), .s ((g y4 11).str), .l ((g y2 10).list), .l ((g y2 11).list ++ ([[.s ((g y9 0).str)]] : Rw)), .l ((g y4 16).list), .l ((g y4 17).list), .l ((g y4 18).list), .l ((g y2 15).list), .l ((g y2 16).list), .l [], .l [], .l [], .l [], .l [], .l [], .l []]) (
 Lqbm (some 18) [.s a18, .i 0, .i 0, .i 0, .i 0, .i 0, .i 0, .i 0, .i 0, .i 0, .i 0, .i 0, .s (⟨#[]⟩ : ByteArray), .i 0, .s (⟨#[]⟩ : ByteArray), .s (⟨#[]⟩ : ByteArray), .i ((g y2 0).int), .i ((g y2 1).int), .i ((g y4 12).int), .i ((g y4 13).int), .i ((g y4 14).int), .i ((g y4 15).int), .i ((g y2 6).int), .i ((g y2 7).int), .i ((g y2 8).int), .i ((g y2 9).int), .i ((g y4 0).int), .i ((g y4 1).int), .i ((g y4 2).int), .i ((g y4 3).int), .i ((g y4 4).int), .l ((g y4 5).list), .l ((g y4 6).list), .l ((g y4 7).list), .s ((g y4 8).str), .i ((g y4 9).int), .s ((g y4 10).str), .s ((g y4 11).str), .l ((g y2 10).list), .l ((g y2 11).list ++ ([[.s ((g y9 0).str)]] : Rw)), .l ((g y4 16).list), .l ((g y4 17).list), .l ((g y4 18).list), .l ((g y2 15).list), .l ((g y2 16).list), .l [], .l [], .l [], .l [], .l [], .l [], .l []])) (
 some [.i 0, .i ((g y2 0).int), .i ((g y2 1).int), .i ((g y4 12).int), .i ((g y4 13).int), .i ((g y4 14).int), .i ((g y4 15).int), .i ((g y2 6).int), .i ((g y2 7).int), .i ((g y2 8).int), .i ((g y2 9).int), .s ((g y4 8).str), .i ((g y4 9).int), .s (⟨#[]⟩ : ByteArray), .s (⟨#[]⟩ : ByteArray), .l ((g y2 10).list), .l ((g y2 11).list ++ ([[.s ((g y9 0).str)]] : Rw)), .l ((g y4 16).list), .l ((g y4 17).list), .l ((g y4 18).list), .l ((g y2 15).list), .l ((g y2 16).list)])) (
 none)))) (
 cond ((IntKind.i64.wrap ((a2.length : Int) + (a3.length : Int))) == 4000) (
 (Lqcj none [.i a0, .i a1, .l a2, .l a3, .i a4, .i a5, .i a6, .i a7, .l a8, .l a9, .l a10, .i a11, .l a12, .l a13, .i a14, .i a15, .i a16]).bind fun y10 =>
 some [.i 9, .i ((g y10 0).int), .i ((g y10 1).int), .i ((g y10 2).int), .i ((g y10 3).int), .i ((g y10 4).int), .i ((g y10 5).int), .i ((g y10 6).int), .i ((g y10 7).int), .i ((g y10 8).int), .i ((g y10 9).int), .s (⟨#[]⟩ : ByteArray), .i 0, .s (⟨#[]⟩ : ByteArray), .s (⟨#[]⟩ : ByteArray), .l ((g y10 10).list), .l ((g y10 11).list), .l ((g y10 12).list), .l ((g y10 13).list), .l ((g y10 14).list), .l ((g y10 15).list), .l ((g y10 16).list)]) (
 (Lqci none [.i a17, .s a18, .s a19, .i a20, .s a21, .l a22, .i a0]).bind fun y11 =>
 cond (decide (((g y2 11).list).length + ([[.s ((g y11 0).str)]] : Rw).length ≤ most)) (
 cond a23 (
 cond (a17 == 1) (
 Lqbm (some 18) [.s ((g y4 8).str), .i 0, .i 0, .i 0, .i 0, .i 0, .i 0, .i 0, .i 0, .i 0, .i 0, .i 0, .s (⟨#[]⟩ : ByteArray), .i 0, .s (⟨#[]⟩ : ByteArray), .s (⟨#[]⟩ : ByteArray), .i ((g y2 0).int), .i ((g y2 1).int), .i ((g y4 12).int), .i ((g y4 13).int), .i ((g y4 14).int), .i ((g y4 15).int), .i ((g y2 6).int), .i ((g y2 7).int), .i ((g y2 8).int), .i ((g y2 9).int), .i ((g y4 0).int), .i ((g y4 1).int), .i ((g y4 2).int), .i ((g y4 3).int), .i ((g y4 4).int), .l ((g y4 5).list), .l ((g y4 6).list), .l ((g y4 7).list), .s ((g y4 8).str), .i ((g y4 9).int), .s ((g y4 10).str), .s ((g y4 11).str), .l ((g y2 10).list), .l ((g y2 11).list ++ ([[.s ((g y11 0).str)]] : Rw)), .l ((g y4 16).list), .l ((g y4 17).list), .l ((g y4 18).list), .l ((g y2 15).list), .l ((g y2 16).list), .l [], .l [], .l [], .l [], .l [], .l [], .l []]) (
 Lqbm (some 18) [.s a18, .i 0, .i 0, .i 0, .i 0, .i 0, .i 0, .i 0, .i 0, .i 0, .i 0, .i 0, .s (⟨#[]⟩ : ByteArray), .i 0, .s (⟨#[]⟩ : ByteArray), .s (⟨#[]⟩ : ByteArray), .i ((g y2 0).int), .i ((g y2 1).int), .i ((g y4 12).int), .i ((g y4 13).int), .i ((g y4 14).int), .i ((g y4 15).int), .i ((g y2 6).int), .i ((g y2 7).int), .i ((g y2 8).int), .i ((g y2 9).int), .i ((g y4 0).int), .i ((g y4 1).int), .i ((g y4 2).int), .i ((g y4 3).int), .i ((g y4 4).int), .l ((g y4 5).list), .l ((g y4 6).list), .l ((g y4 7).list), .s ((g y4 8).str), .i ((g y4 9).int), .s ((g y4 10).str), .s ((g y4 11).str), .l ((g y2 10).list), .l ((g y2 11).list ++ ([[.s ((g y11 0).str)]] : Rw)), .l ((g y4 16).list), .l ((g y4 17).list), .l ((g y4 18).list), .l ((g y2 15).list), .l ((g y2 16).list), .l [], .l [], .l [], .l [], .l [], .l [], .l []])) (
 some [.i 0, .i ((g y2 0).int), .i ((g y2 1).int), .i ((g y4 12).int), .i ((g y4 13).int), .i ((g y4 14).int), .i ((g y4 15).int), .i ((g y2 6).int), .i ((g y2 7).int), .i ((g y2 8).int), .i ((g y2 9).int), .s ((g y4 8).str), .i ((g y4 9).int), .s (⟨#[]⟩ : ByteArray), .s (⟨#[]⟩ : ByteArray), .l ((g y2 10).list), .l ((g y2 11).list ++ ([[.s ((g y11 0).str)]] : Rw)), .l ((g y4 16).list), .l ((g y4 17).list), .l ((g y4 18).list), .l ((g y2 15).list), .l ((g y2 16).list)])) (
 none)))))) := (zd _ _).trans (by kernel_rfl)
theorem eqbm_18 (a0 : ByteArray) (a1 a2 a3 a4 a5 a6 a7 a8 a9 a10 a11 : Int) (a12 : ByteArray) (a13 : Int) (a14 a15 : ByteArray) (a16 a17 a18 a19 a20 a21 a22 a23 a24 a25 a26 a27 a28 a29 a30 : Int) (a31 a32 a33 : Rw) (a34 : ByteArray) (a35 : Int) (a36 a37 : ByteArray) (a38 a39 a40 a41 a42 a43 a44 a45 a46 a47 a48 a49 a50 a51 : Rw) : Lqbm (some 18) [.s a0, .i a1, .i a2, .i a3, .i a4, .i a5, .i a6, .i a7, .i a8, .i a9, .i a10, .i a11, .s a12, .i a13, .s a14, .s a15, .i a16, .i a17, .i a18, .i a19, .i a20, .i a21, .i a22, .i a23, .i a24, .i a25, .i a26, .i a27, .i a28, .i a29, .i a30, .l a31, .l a32, .l a33, .s a34, .i a35, .s a36, .s a37, .l a38, .l a39, .l a40, .l a41, .l a42, .l a43, .l a44, .l a45, .l a46, .l a47, .l a48, .l a49, .l a50, .l a51] =
 (Lqc3 none [.i a22, .l a43, .l a44, .i a23, .i a24, .i a25, .s a0, .i a18, .i a19, .i a20, .i a21, .l a40, .l a41, .l a42]).bind fun y1 =>
 some [.i 0, .i a16, .i a17, .i a18, .i a19, .i a20, .i a21, .i ((g y1 0).int), .i ((g y1 1).int), .i ((g y1 2).int), .i ((g y1 3).int), .s a34, .i a35, .s (⟨#[]⟩ : ByteArray), .s (⟨#[]⟩ : ByteArray), .l a38, .l a39, .l a40, .l a41, .l a42, .l ((g y1 4).list), .l ((g y1 5).list)] := (zd _ _).trans (by kernel_rfl)
theorem kqbm : SigOk Tryz.prog (dqbm.sig (Lqbm none)) ∧ (dqbm.sig (Lqbm none)).ok = true := zf (zb kqe (by kernel_rfl) (zb kqa (by kernel_rfl) (zb kqbs (by kernel_rfl) (zb kqci (by kernel_rfl) (zb kqcj (by kernel_rfl) (zb kqcc (by kernel_rfl) (zb kqc3 (by kernel_rfl) ze))))))) (by kernel_rfl) (by kernel_rfl) (by kernel_rfl)
def dqc4 : FD := { fn := 60, nb := 0, pre := ⟨[.ag [.i .i64 0, .i .i64 1, .fz 9 false 2, .fz 9 false 3, .i .i64 4, .i .i64 5, .i .i64 6, .i .i64 7, .fz 90 false 8, .fz 156 false 9, .fz 158 false 10, .i .i64 11, .fz 9 false 12, .fz 9 false 13, .i .i64 14, .i .i64 15, .i .i64 16], .ag [.s 17, .fz 9 false 18], .sc (.i .i64 19)], []⟩, post := ⟨[.ag [.i .i64 0, .i .i64 1, .i .i64 2, .ow 0, .ow 1, .i .i64 3, .i .i64 4, .i .i64 5, .i .i64 6, .ow 2, .ow 3, .ow 4, .i .i64 7, .ow 5, .ow 6, .i .i64 8, .i .i64 9, .i .i64 10, .s 11, .i .i64 12, .s 13, .s 14]], [.rw 9 true 15, .rw 9 true 16, .rw 90 false 17, .rw 156 false 18, .rw 158 false 19, .rw 9 true 20, .rw 9 true 21]⟩, sh := true, cuts := [] }
noncomputable def Lqc4 : Option Nat → Lv → Option Lv := Lim Tryz.prog [dqz.sig (Lqz none), dqbm.sig (Lqbm none)] dqc4 Tryz.f60
theorem eqc4_i (a0 a1 : Int) (a2 a3 : Rw) (a4 a5 a6 a7 : Int) (a8 a9 a10 : Rw) (a11 : Int) (a12 a13 : Rw) (a14 a15 a16 : Int) (a17 : ByteArray) (a18 : Rw) (a19 : Int) : Lqc4 none [.i a0, .i a1, .l a2, .l a3, .i a4, .i a5, .i a6, .i a7, .l a8, .l a9, .l a10, .i a11, .l a12, .l a13, .i a14, .i a15, .i a16, .s a17, .l a18, .i a19] =
 (Lqz none [.l a18]).bind fun y1 =>
 (Lqbm none [.i a0, .i a1, .l a2, .l a3, .i a4, .i a5, .i a6, .i a7, .l a8, .l a9, .l a10, .i a11, .l a12, .l a13, .i a14, .i a15, .i a16, .i 1, .s (⟨#[]⟩ : ByteArray), .s (⟨#[]⟩ : ByteArray), .i a19, .s a17, .l ((g y1 0).list), .b true]).bind fun y2 =>
 some [.i ((g y2 0).int), .i ((g y2 1).int), .i ((g y2 2).int), .i ((g y2 3).int), .i ((g y2 4).int), .i ((g y2 5).int), .i ((g y2 6).int), .i ((g y2 7).int), .i ((g y2 8).int), .i ((g y2 9).int), .i ((g y2 10).int), .s ((g y2 11).str), .i ((g y2 12).int), .s ((g y2 13).str), .s ((g y2 14).str), .l ((g y2 15).list), .l ((g y2 16).list), .l ((g y2 17).list), .l ((g y2 18).list), .l ((g y2 19).list), .l ((g y2 20).list), .l ((g y2 21).list)] := (zd _ _).trans (by kernel_rfl)
theorem kqc4 : SigOk Tryz.prog (dqc4.sig (Lqc4 none)) ∧ (dqc4.sig (Lqc4 none)).ok = true := zf (zb kqz (by kernel_rfl) (zb kqbm (by kernel_rfl) ze)) (by kernel_rfl) (by kernel_rfl) (by kernel_rfl)
def dqcv : FD := { fn := 67, nb := 0, pre := ⟨[.ag [.i .i64 0, .i .i64 1, .fz 9 false 2, .fz 9 false 3, .i .i64 4, .i .i64 5, .i .i64 6, .i .i64 7, .fz 90 false 8, .fz 156 false 9, .fz 158 false 10, .i .i64 11, .fz 9 false 12, .fz 9 false 13, .i .i64 14, .i .i64 15, .i .i64 16], .sc (.i .i64 17)], []⟩, post := ⟨[.ag [.i .i64 0, .i .i64 1, .i .i64 2, .ow 0, .ow 1, .i .i64 3, .i .i64 4, .i .i64 5, .i .i64 6, .ow 2, .ow 3, .ow 4, .i .i64 7, .ow 5, .ow 6, .i .i64 8, .i .i64 9, .i .i64 10, .s 11, .i .i64 12, .s 13, .s 14]], [.rw 9 true 15, .rw 9 true 16, .rw 90 false 17, .rw 156 false 18, .rw 158 false 19, .rw 9 true 20, .rw 9 true 21]⟩, sh := true, cuts := [] }
noncomputable def Lqcv : Option Nat → Lv → Option Lv := Lim Tryz.prog [dqbm.sig (Lqbm none)] dqcv Tryz.f67
theorem eqcv_i (a0 a1 : Int) (a2 a3 : Rw) (a4 a5 a6 a7 : Int) (a8 a9 a10 : Rw) (a11 : Int) (a12 a13 : Rw) (a14 a15 a16 a17 : Int) : Lqcv none [.i a0, .i a1, .l a2, .l a3, .i a4, .i a5, .i a6, .i a7, .l a8, .l a9, .l a10, .i a11, .l a12, .l a13, .i a14, .i a15, .i a16, .i a17] =
 (Lqbm none [.i a0, .i a1, .l a2, .l a3, .i a4, .i a5, .i a6, .i a7, .l a8, .l a9, .l a10, .i a11, .l a12, .l a13, .i a14, .i a15, .i a16, .i 6, .s (⟨#[]⟩ : ByteArray), .s (⟨#[]⟩ : ByteArray), .i a17, .s (⟨#[]⟩ : ByteArray), .l ([]), .b false]).bind fun y1 =>
 some [.i ((g y1 0).int), .i ((g y1 1).int), .i ((g y1 2).int), .i ((g y1 3).int), .i ((g y1 4).int), .i ((g y1 5).int), .i ((g y1 6).int), .i ((g y1 7).int), .i ((g y1 8).int), .i ((g y1 9).int), .i ((g y1 10).int), .s ((g y1 11).str), .i ((g y1 12).int), .s ((g y1 13).str), .s ((g y1 14).str), .l ((g y1 15).list), .l ((g y1 16).list), .l ((g y1 17).list), .l ((g y1 18).list), .l ((g y1 19).list), .l ((g y1 20).list), .l ((g y1 21).list)] := (zd _ _).trans (by kernel_rfl)
theorem kqcv : SigOk Tryz.prog (dqcv.sig (Lqcv none)) ∧ (dqcv.sig (Lqcv none)).ok = true := zf (zb kqbm (by kernel_rfl) ze) (by kernel_rfl) (by kernel_rfl) (by kernel_rfl)
def dqh : FD := { fn := 86, nb := 0, pre := ⟨[.sc (.i .i64 0)], []⟩, post := ⟨[.sc (.b 0)], []⟩, sh := false, cuts := [] }
noncomputable def Lqh : Option Nat → Lv → Option Lv := Lim Tryz.prog [] dqh Tryz.f86
theorem eqh_i (a0 : Int) : Lqh none [.i a0] =
 cond (decide (1 ≤ a0)) (
 some [.b (decide (a0 ≤ 8))]) (
 some [.b false]) := (zd _ _).trans (by kernel_rfl)
theorem kqh : SigOk Tryz.prog (dqh.sig (Lqh none)) ∧ (dqh.sig (Lqh none)).ok = true := zf ze (by kernel_rfl) (by kernel_rfl) (by kernel_rfl)
def dq6 : FD := { fn := 92, nb := 0, pre := ⟨[.ag [.s 0, .fz 9 false 1], .sc (.i .i64 2)], []⟩, post := ⟨[.sc (.b 0)], []⟩, sh := false, cuts := [⟨4, [1, 2, 5], ⟨[.sc (.i .i64 0), .sc (.pt 0 0), .sc (.i .i64 1)], [.bx [.s 2, .fz 9 false 3]]⟩⟩] }
noncomputable def Lq6 : Option Nat → Lv → Option Lv := Lim Tryz.prog [dqh.sig (Lqh none)] dq6 Tryz.f92
theorem eq6_i (a0 : ByteArray) (a1 : Rw) (a2 : Int) : Lq6 none [.s a0, .l a1, .i a2] =
 (Lqh none [.i a2]).bind fun y1 =>
 cond (!(g y1 0).bool) (
 some [.b false]) (
 cond (decide (2000 < (a0.size : Int))) (
 some [.b false]) (
 cond (decide (30 < (a1.length : Int))) (
 some [.b false]) (
 Lq6 (some 4) [.i a2, .i 0, .s a0, .l a1]))) := (zd _ _).trans (by kernel_rfl)
theorem eq6_4 (a0 a1 : Int) (a2 : ByteArray) (a3 : Rw) : Lq6 (some 4) [.i a0, .i a1, .s a2, .l a3] =
 cond (decide (a1 < (a3.length : Int))) (
 cond (inb a1 a3.length) (
 cond ((((rd a3 a1.toNat 0).str).size : Int) != a0) (
 some [.b false]) (
 cond (decide (0 < a1)) (
 cond (inb (IntKind.i64.wrap (a1 - 1)) a3.length) (
 cond (inb a1 a3.length) (
 cond (!slt ((rd a3 ((IntKind.i64.wrap (a1 - 1)).toNat) 0).str) ((rd a3 a1.toNat 0).str)) (
 some [.b false]) (
 Lq6 (some 4) [.i a0, .i (IntKind.i64.wrap (a1 + 1)), .s a2, .l a3])) (
 none)) (
 none)) (
 Lq6 (some 4) [.i a0, .i (IntKind.i64.wrap (a1 + 1)), .s a2, .l a3]))) (
 none)) (
 some [.b true]) := (zd _ _).trans (by kernel_rfl)
theorem kq6 : SigOk Tryz.prog (dq6.sig (Lq6 none)) ∧ (dq6.sig (Lq6 none)).ok = true := zf (zb kqh (by kernel_rfl) ze) (by kernel_rfl) (by kernel_rfl) (by kernel_rfl)
def dqbp : FD := { fn := 127, nb := 0, pre := ⟨[.sc (.s 0)], []⟩, post := ⟨[.sc (.b 0)], []⟩, sh := false, cuts := [⟨2, [0, 3], ⟨[.sc (.s 0), .sc (.i .i64 1)], []⟩⟩] }
noncomputable def Lqbp : Option Nat → Lv → Option Lv := Lim Tryz.prog [] dqbp Tryz.f127
theorem eqbp_i (a0 : ByteArray) : Lqbp none [.s a0] =
 Lqbp (some 2) [.s a0, .i 0] := (zd _ _).trans (by kernel_rfl)
theorem eqbp_2 (a0 : ByteArray) (a1 : Int) : Lqbp (some 2) [.s a0, .i a1] =
 cond (decide (a1 < (a0.size : Int))) (
 cond (inb a1 a0.size) (
 cond (decide ((byteAt a0 a1.toNat) < 33)) (
 some [.b false]) (
 cond (inb a1 a0.size) (
 cond (decide (126 < (byteAt a0 a1.toNat))) (
 some [.b false]) (
 Lqbp (some 2) [.s a0, .i (IntKind.i64.wrap (a1 + 1))])) (
 none))) (
 none)) (
 cond (decide (1 ≤ (a0.size : Int))) (
 some [.b (decide ((a0.size : Int) ≤ 40))]) (
 some [.b false])) := (zd _ _).trans (by kernel_rfl)
theorem kqbp : SigOk Tryz.prog (dqbp.sig (Lqbp none)) ∧ (dqbp.sig (Lqbp none)).ok = true := zf ze (by kernel_rfl) (by kernel_rfl) (by kernel_rfl)
def dqdw : FD := { fn := 150, nb := 0, pre := ⟨[.sc (.i .i64 0)], []⟩, post := ⟨[.tu [(false, [.b 0]), (false, [.b 1]), (false, [.i .i64 2]), (false, [.b 3])]], []⟩, sh := false, cuts := [] }
noncomputable def Lqdw : Option Nat → Lv → Option Lv := Lim Tryz.prog [] dqdw Tryz.f150
theorem eqdw_i (a0 : Int) : Lqdw none [.i a0] =
 cond (a0 == 1) (
 some [.b false, .b false, .i 1, .b true]) (
 cond (a0 == 2) (
 some [.b true, .b true, .i 0, .b false]) (
 cond (a0 == 3) (
 some [.b false, .b true, .i 0, .b false]) (
 cond (a0 == 4) (
 some [.b true, .b false, .i 1, .b false]) (
 cond (a0 == 5) (
 some [.b false, .b false, .i 2, .b false]) (
 cond (a0 == 6) (
 some [.b false, .b false, .i 1, .b false]) (
 cond (a0 == 7) (
 some [.b true, .b false, .i 0, .b false]) (
 some [.b false, .b false, .i 0, .b false]))))))) := (zd _ _).trans (by kernel_rfl)
theorem kqdw : SigOk Tryz.prog (dqdw.sig (Lqdw none)) ∧ (dqdw.sig (Lqdw none)).ok = true := zf ze (by kernel_rfl) (by kernel_rfl) (by kernel_rfl)
def dqcw : FD := { fn := 204, nb := 0, pre := ⟨[.sc (.i .i64 0), .sc (.i .i64 1)], []⟩, post := ⟨[.sc (.b 0)], []⟩, sh := false, cuts := [] }
noncomputable def Lqcw : Option Nat → Lv → Option Lv := Lim Tryz.prog [] dqcw Tryz.f204
theorem eqcw_i (a0 a1 : Int) : Lqcw none [.i a0, .i a1] =
 cond (a1 == 1) (
 cond (decide (1 ≤ a0)) (
 some [.b (decide (a0 ≤ 100000))]) (
 some [.b false])) (
 cond (a1 == 2) (
 cond (decide (1 ≤ a0)) (
 some [.b (decide (a0 ≤ 1000000000))]) (
 some [.b false])) (
 some [.b (a0 == 0)])) := (zd _ _).trans (by kernel_rfl)
theorem kqcw : SigOk Tryz.prog (dqcw.sig (Lqcw none)) ∧ (dqcw.sig (Lqcw none)).ok = true := zf ze (by kernel_rfl) (by kernel_rfl) (by kernel_rfl)
def dqu : FD := { fn := 152, nb := 0, pre := ⟨[.ag [.i .i64 0, .s 1, .s 2, .i .i64 3, .s 4, .fz 9 false 5], .sc (.i .i64 6)], []⟩, post := ⟨[.sc (.b 0)], []⟩, sh := false, cuts := [⟨6, [1, 2, 6, 8], ⟨[.sc (.i .i64 0), .sc (.pt 0 0), .sc (.b 1), .sc (.b 2)], [.bx [.i .i64 3, .s 4, .s 5, .i .i64 6, .s 7, .fz 9 false 8]]⟩⟩, ⟨8, [1, 2, 8], ⟨[.sc (.i .i64 0), .sc (.pt 0 0), .sc (.b 1)], [.bx [.i .i64 2, .s 3, .s 4, .i .i64 5, .s 6, .fz 9 false 7]]⟩⟩] }
noncomputable def Lqu : Option Nat → Lv → Option Lv := Lim Tryz.prog [dqh.sig (Lqh none), dq6.sig (Lq6 none), dqbp.sig (Lqbp none), dqdw.sig (Lqdw none), dqcw.sig (Lqcw none)] dqu Tryz.f152
theorem equ_i (a0 : Int) (a1 a2 : ByteArray) (a3 : Int) (a4 : ByteArray) (a5 : Rw) (a6 : Int) : Lqu none [.i a0, .s a1, .s a2, .i a3, .s a4, .l a5, .i a6] =
 (Lqh none [.i a6]).bind fun y1 =>
 cond (!(g y1 0).bool) (
 some [.b false]) (
 cond (decide (a0 < 1)) (
 some [.b false]) (
 cond (decide (7 < a0)) (
 some [.b false]) (
 (Lqdw none [.i a0]).bind fun y2 =>
 cond ((g y2 0).bool) (
 cond ((a1.size : Int) != a6) (
 some [.b false]) (
 cond (!(g y2 0).bool) (
 cond (!Eng.seq a1 (⟨#[]⟩ : ByteArray)) (
 some [.b false]) (
 (Lqcw none [.i a3, .i ((g y2 2).int)]).bind fun y3 =>
 cond (!(g y3 0).bool) (
 some [.b false]) (
 Lqu (some 6) [.i a6, .b ((g y2 1).bool), .b ((g y2 3).bool), .i a0, .s a1, .s a2, .i a3, .s a4, .l a5]))) (
 (Lqcw none [.i a3, .i ((g y2 2).int)]).bind fun y4 =>
 cond (!(g y4 0).bool) (
 some [.b false]) (
 Lqu (some 6) [.i a6, .b ((g y2 1).bool), .b ((g y2 3).bool), .i a0, .s a1, .s a2, .i a3, .s a4, .l a5])))) (
 cond (!(g y2 0).bool) (
 cond (!Eng.seq a1 (⟨#[]⟩ : ByteArray)) (
 some [.b false]) (
 (Lqcw none [.i a3, .i ((g y2 2).int)]).bind fun y5 =>
 cond (!(g y5 0).bool) (
 some [.b false]) (
 Lqu (some 6) [.i a6, .b ((g y2 1).bool), .b ((g y2 3).bool), .i a0, .s a1, .s a2, .i a3, .s a4, .l a5]))) (
 (Lqcw none [.i a3, .i ((g y2 2).int)]).bind fun y6 =>
 cond (!(g y6 0).bool) (
 some [.b false]) (
 Lqu (some 6) [.i a6, .b ((g y2 1).bool), .b ((g y2 3).bool), .i a0, .s a1, .s a2, .i a3, .s a4, .l a5])))))) := (zd _ _).trans (by kernel_rfl)
theorem equ_6 (a0 : Int) (a1 a2 : Bool) (a3 : Int) (a4 a5 : ByteArray) (a6 : Int) (a7 : ByteArray) (a8 : Rw) : Lqu (some 6) [.i a0, .b a1, .b a2, .i a3, .s a4, .s a5, .i a6, .s a7, .l a8] =
 cond a1 (
 (Lqbp none [.s a5]).bind fun y1 =>
 cond (!(g y1 0).bool) (
 some [.b false]) (
 cond (!a1) (
 cond (!Eng.seq a5 (⟨#[]⟩ : ByteArray)) (
 some [.b false]) (
 Lqu (some 8) [.i a0, .b a2, .i a3, .s a4, .s a5, .i a6, .s a7, .l a8])) (
 Lqu (some 8) [.i a0, .b a2, .i a3, .s a4, .s a5, .i a6, .s a7, .l a8]))) (
 cond (!a1) (
 cond (!Eng.seq a5 (⟨#[]⟩ : ByteArray)) (
 some [.b false]) (
 Lqu (some 8) [.i a0, .b a2, .i a3, .s a4, .s a5, .i a6, .s a7, .l a8])) (
 Lqu (some 8) [.i a0, .b a2, .i a3, .s a4, .s a5, .i a6, .s a7, .l a8])) := (zd _ _).trans (by kernel_rfl)
theorem equ_8 (a0 : Int) (a1 : Bool) (a2 : Int) (a3 a4 : ByteArray) (a5 : Int) (a6 : ByteArray) (a7 : Rw) : Lqu (some 8) [.i a0, .b a1, .i a2, .s a3, .s a4, .i a5, .s a6, .l a7] =
 cond a1 (
 (Lq6 none [.s a6, .l a7, .i a0]).bind fun y1 =>
 some [.b ((g y1 0).bool)]) (
 cond (Eng.seq a6 (⟨#[]⟩ : ByteArray)) (
 some [.b ((a7.length : Int) == 0)]) (
 some [.b false])) := (zd _ _).trans (by kernel_rfl)
theorem kqu : SigOk Tryz.prog (dqu.sig (Lqu none)) ∧ (dqu.sig (Lqu none)).ok = true := zf (zb kqh (by kernel_rfl) (zb kq6 (by kernel_rfl) (zb kqbp (by kernel_rfl) (zb kqdw (by kernel_rfl) (zb kqcw (by kernel_rfl) ze))))) (by kernel_rfl) (by kernel_rfl) (by kernel_rfl)
def dqi : FD := { fn := 22, nb := 0, pre := ⟨[.ag [.s 0, .fz 9 false 1], .sc (.i .i64 2)], []⟩, post := ⟨[.sc (.s 0)], []⟩, sh := false, cuts := [⟨5, [2, 5, 6], ⟨[.sc (.pt 0 0), .sc (.ow 1), .sc (.i .i64 0)], [.bx [.s 1, .fz 9 false 2], .rw 5 true 3]⟩⟩] }
noncomputable def Lqi : Option Nat → Lv → Option Lv := Lim Tryz.prog [dq6.sig (Lq6 none)] dqi Tryz.f22
theorem eqi_i (a0 : ByteArray) (a1 : Rw) (a2 : Int) : Lqi none [.s a0, .l a1, .i a2] =
 (Lq6 none [.s a0, .l a1, .i a2]).bind fun y1 =>
 cond (!(g y1 0).bool) (
 some [.s (⟨#[]⟩ : ByteArray)]) (
 Lqi (some 5) [.i 0, .s a0, .l a1, .l ([[.i (IntKind.u8.wrap (a1.length : Int))]] : Rw)]) := (zd _ _).trans (by kernel_rfl)
theorem eqi_5 (a0 : Int) (a1 : ByteArray) (a2 a3 : Rw) : Lqi (some 5) [.i a0, .s a1, .l a2, .l a3] =
 cond (decide (a0 < (a2.length : Int))) (
 cond (inb a0 a2.length) (
 cond (decide (a3.length + (rowsOf ((rd a2 a0.toNat 0).str)).length ≤ most)) (
 Lqi (some 5) [.i (IntKind.i64.wrap (a0 + 1)), .s a1, .l a2, .l (a3 ++ (rowsOf ((rd a2 a0.toNat 0).str)))]) (
 none)) (
 none)) (
 cond (decide (a3.length + (rowsOf a1).length ≤ most)) (
 some [.s (bytesOf (a3 ++ (rowsOf a1)))]) (
 none)) := (zd _ _).trans (by kernel_rfl)
theorem kqi : SigOk Tryz.prog (dqi.sig (Lqi none)) ∧ (dqi.sig (Lqi none)).ok = true := zf (zb kq6 (by kernel_rfl) ze) (by kernel_rfl) (by kernel_rfl) (by kernel_rfl)
def dqv : FD := { fn := 158, nb := 0, pre := ⟨[.ag [.i .i64 0, .s 1, .s 2, .i .i64 3, .s 4, .fz 9 false 5], .sc (.i .i64 6)], []⟩, post := ⟨[.sc (.s 0)], []⟩, sh := false, cuts := [] }
noncomputable def Lqv : Option Nat → Lv → Option Lv := Lim Tryz.prog [dqi.sig (Lqi none), dqu.sig (Lqu none)] dqv Tryz.f158
theorem eqv_i (a0 : Int) (a1 a2 : ByteArray) (a3 : Int) (a4 : ByteArray) (a5 : Rw) (a6 : Int) : Lqv none [.i a0, .s a1, .s a2, .i a3, .s a4, .l a5, .i a6] =
 (Lqu none [.i a0, .s a1, .s a2, .i a3, .s a4, .l a5, .i a6]).bind fun y1 =>
 cond (!(g y1 0).bool) (
 some [.s (⟨#[]⟩ : ByteArray)]) (
 cond (decide (([[.i (IntKind.u8.wrap a0)], [.i (IntKind.u8.wrap (IntKind.i64.wrap (a3.tdiv 16777216)))], [.i (IntKind.u8.wrap ((IntKind.i64.wrap (a3.tdiv 65536)).tmod 256))], [.i (IntKind.u8.wrap ((IntKind.i64.wrap (a3.tdiv 256)).tmod 256))], [.i (IntKind.u8.wrap (a3.tmod 256))], [.i (IntKind.u8.wrap (a2.size : Int))]] : Rw).length + (rowsOf a2).length ≤ most)) (
 cond (decide ((([[.i (IntKind.u8.wrap a0)], [.i (IntKind.u8.wrap (IntKind.i64.wrap (a3.tdiv 16777216)))], [.i (IntKind.u8.wrap ((IntKind.i64.wrap (a3.tdiv 65536)).tmod 256))], [.i (IntKind.u8.wrap ((IntKind.i64.wrap (a3.tdiv 256)).tmod 256))], [.i (IntKind.u8.wrap (a3.tmod 256))], [.i (IntKind.u8.wrap (a2.size : Int))]] : Rw) ++ (rowsOf a2)).length + (rowsOf a1).length ≤ most)) (
 cond (a0 == 1) (
 (Lqi none [.s a4, .l a5, .i a6]).bind fun y2 =>
 cond (decide (((([[.i (IntKind.u8.wrap a0)], [.i (IntKind.u8.wrap (IntKind.i64.wrap (a3.tdiv 16777216)))], [.i (IntKind.u8.wrap ((IntKind.i64.wrap (a3.tdiv 65536)).tmod 256))], [.i (IntKind.u8.wrap ((IntKind.i64.wrap (a3.tdiv 256)).tmod 256))], [.i (IntKind.u8.wrap (a3.tmod 256))], [.i (IntKind.u8.wrap (a2.size : Int))]] : Rw) ++ (rowsOf a2)) ++ (rowsOf a1)).length + (rowsOf ((g y2 0).str)).length ≤ most)) (
 some [.s (bytesOf (((([[.i (IntKind.u8.wrap a0)], [.i (IntKind.u8.wrap (IntKind.i64.wrap (a3.tdiv 16777216)))], [.i (IntKind.u8.wrap ((IntKind.i64.wrap (a3.tdiv 65536)).tmod 256))], [.i (IntKind.u8.wrap ((IntKind.i64.wrap (a3.tdiv 256)).tmod 256))], [.i (IntKind.u8.wrap (a3.tmod 256))], [.i (IntKind.u8.wrap (a2.size : Int))]] : Rw) ++ (rowsOf a2)) ++ (rowsOf a1)) ++ (rowsOf ((g y2 0).str))))]) (
 none)) (
 some [.s (bytesOf ((([[.i (IntKind.u8.wrap a0)], [.i (IntKind.u8.wrap (IntKind.i64.wrap (a3.tdiv 16777216)))], [.i (IntKind.u8.wrap ((IntKind.i64.wrap (a3.tdiv 65536)).tmod 256))], [.i (IntKind.u8.wrap ((IntKind.i64.wrap (a3.tdiv 256)).tmod 256))], [.i (IntKind.u8.wrap (a3.tmod 256))], [.i (IntKind.u8.wrap (a2.size : Int))]] : Rw) ++ (rowsOf a2)) ++ (rowsOf a1)))])) (
 none)) (
 none)) := (zd _ _).trans (by kernel_rfl)
theorem kqv : SigOk Tryz.prog (dqv.sig (Lqv none)) ∧ (dqv.sig (Lqv none)).ok = true := zf (zb kqi (by kernel_rfl) (zb kqu (by kernel_rfl) ze)) (by kernel_rfl) (by kernel_rfl) (by kernel_rfl)
def dqcd : FD := { fn := 176, nb := 0, pre := ⟨[.sc (.s 0), .sc (.i .i64 1)], []⟩, post := ⟨[.tu [(true, [.s 0, .ow 0]), (false, [.b 1])]], [.rw 9 true 2]⟩, sh := false, cuts := [⟨6, [0, 1, 4, 6, 7, 8], ⟨[.sc (.s 0), .sc (.i .i64 1), .sc (.pt 0 0), .sc (.i .i64 2), .sc (.pt 1 0), .sc (.i .i64 3)], [.bx [.s 4, .ow 2], .bx [.s 5, .ow 3], .rw 9 true 6, .rw 9 true 7]⟩⟩] }
noncomputable def Lqcd : Option Nat → Lv → Option Lv := Lim Tryz.prog [dqh.sig (Lqh none), dq6.sig (Lq6 none)] dqcd Tryz.f176
theorem eqcd_i (a0 : ByteArray) (a1 : Int) : Lqcd none [.s a0, .i a1] =
 (Lqh none [.i a1]).bind fun y1 =>
 cond (!(g y1 0).bool) (
 some [.s (⟨#[]⟩ : ByteArray), .b false, .l []]) (
 cond ((a0.size : Int) == 0) (
 some [.s (⟨#[]⟩ : ByteArray), .b false, .l []]) (
 cond (inb 0 a0.size) (
 cond (decide ((a0.size : Int) < (IntKind.i64.wrap (1 + (IntKind.i64.wrap ((IntKind.i64.wrap (byteAt a0 0)) * a1)))))) (
 some [.s (⟨#[]⟩ : ByteArray), .b false, .l []]) (
 cond (inb 0 a0.size) (
 cond (decide (0 ≤ (IntKind.i64.wrap (1 + (IntKind.i64.wrap ((IntKind.i64.wrap (byteAt a0 0)) * a1)))))) (
 cond (decide ((IntKind.i64.wrap (1 + (IntKind.i64.wrap ((IntKind.i64.wrap (byteAt a0 0)) * a1)))) ≤ (a0.size : Int))) (
 Lqcd (some 6) [.s a0, .i a1, .i (IntKind.i64.wrap (byteAt a0 0)), .i 0, .s (⟨#[]⟩ : ByteArray), .s (a0.extract ((IntKind.i64.wrap (1 + (IntKind.i64.wrap ((IntKind.i64.wrap (byteAt a0 0)) * a1)))).toNat) a0.size), .l [], .l []]) (
 none)) (
 none)) (
 none))) (
 none))) := (zd _ _).trans (by kernel_rfl)
theorem eqcd_6 (a0 : ByteArray) (a1 a2 a3 : Int) (a4 a5 : ByteArray) (a6 a7 : Rw) : Lqcd (some 6) [.s a0, .i a1, .i a2, .i a3, .s a4, .s a5, .l a6, .l a7] =
 cond (decide (a3 < a2)) (
 cond (decide (0 ≤ (IntKind.i64.wrap ((IntKind.i64.wrap (1 + (IntKind.i64.wrap (a3 * a1)))) + a1)))) (
 cond (decide ((IntKind.i64.wrap ((IntKind.i64.wrap (1 + (IntKind.i64.wrap (a3 * a1)))) + a1)) ≤ (a0.size : Int))) (
 cond (decide (0 ≤ (IntKind.i64.wrap (1 + (IntKind.i64.wrap (a3 * a1)))))) (
 cond (decide ((IntKind.i64.wrap (1 + (IntKind.i64.wrap (a3 * a1)))) ≤ ((IntKind.i64.wrap ((IntKind.i64.wrap (1 + (IntKind.i64.wrap (a3 * a1)))) + a1)).toNat : Int))) (
 cond (decide (a7.length + ([[.s (a0.extract ((IntKind.i64.wrap (1 + (IntKind.i64.wrap (a3 * a1)))).toNat) ((IntKind.i64.wrap ((IntKind.i64.wrap (1 + (IntKind.i64.wrap (a3 * a1)))) + a1)).toNat))]] : Rw).length ≤ most)) (
 Lqcd (some 6) [.s a0, .i a1, .i a2, .i (IntKind.i64.wrap (a3 + 1)), .s a4, .s a5, .l a6, .l (a7 ++ ([[.s (a0.extract ((IntKind.i64.wrap (1 + (IntKind.i64.wrap (a3 * a1)))).toNat) ((IntKind.i64.wrap ((IntKind.i64.wrap (1 + (IntKind.i64.wrap (a3 * a1)))) + a1)).toNat))]] : Rw))]) (
 none)) (
 none)) (
 none)) (
 none)) (
 none)) (
 (Lq6 none [.s a5, .l a7, .i a1]).bind fun y1 =>
 cond (!(g y1 0).bool) (
 some [.s (⟨#[]⟩ : ByteArray), .b false, .l []]) (
 some [.s a5, .b true, .l a7])) := (zd _ _).trans (by kernel_rfl)
theorem kqcd : SigOk Tryz.prog (dqcd.sig (Lqcd none)) ∧ (dqcd.sig (Lqcd none)).ok = true := zf (zb kqh (by kernel_rfl) (zb kq6 (by kernel_rfl) ze)) (by kernel_rfl) (by kernel_rfl) (by kernel_rfl)
end KV
end
section
set_option maxRecDepth 100000
namespace KV
open Go Go.Eng Go.Proofs
def dqck : FD := { fn := 113, nb := 0, pre := ⟨[.sc (.s 0), .sc (.i .i64 1)], []⟩, post := ⟨[.tu [(true, [.i .i64 0, .s 1, .s 2, .i .i64 3, .s 4, .ow 0]), (false, [.b 5])]], [.rw 9 true 6]⟩, sh := false, cuts := [⟨9, [0, 1, 4, 6], ⟨[.sc (.s 0), .sc (.i .i64 1), .sc (.pt 0 0), .sc (.pt 1 0)], [.bx [.i .i64 2, .s 3, .s 4, .i .i64 5, .s 6, .ow 3], .bx [.i .i64 7, .s 8, .s 9, .i .i64 10, .s 11, .ow 2], .rw 9 true 12, .rw 9 true 13]⟩⟩] }
noncomputable def Lqck : Option Nat → Lv → Option Lv := Lim Tryz.prog [dqh.sig (Lqh none), dqu.sig (Lqu none), dqv.sig (Lqv none), dqcd.sig (Lqcd none)] dqck Tryz.f113
theorem eqck_i (a0 : ByteArray) (a1 : Int) : Lqck none [.s a0, .i a1] =
 (Lqh none [.i a1]).bind fun y1 =>
 cond (!(g y1 0).bool) (
 some [.i 0, .s (⟨#[]⟩ : ByteArray), .s (⟨#[]⟩ : ByteArray), .i 0, .s (⟨#[]⟩ : ByteArray), .b false, .l []]) (
 cond (decide ((a0.size : Int) < 6)) (
 some [.i 0, .s (⟨#[]⟩ : ByteArray), .s (⟨#[]⟩ : ByteArray), .i 0, .s (⟨#[]⟩ : ByteArray), .b false, .l []]) (
 cond (inb 5 a0.size) (
 cond (decide ((a0.size : Int) < (IntKind.i64.wrap (6 + (IntKind.i64.wrap (byteAt a0 5)))))) (
 some [.i 0, .s (⟨#[]⟩ : ByteArray), .s (⟨#[]⟩ : ByteArray), .i 0, .s (⟨#[]⟩ : ByteArray), .b false, .l []]) (
 cond (inb 0 a0.size) (
 cond (inb 1 a0.size) (
 cond (inb 2 a0.size) (
 cond (inb 3 a0.size) (
 cond (inb 4 a0.size) (
 cond (inb 5 a0.size) (
 cond (decide (0 ≤ (IntKind.i64.wrap (6 + (IntKind.i64.wrap (byteAt a0 5)))))) (
 cond (decide ((IntKind.i64.wrap (6 + (IntKind.i64.wrap (byteAt a0 5)))) ≤ (a0.size : Int))) (
 cond (decide (6 ≤ ((IntKind.i64.wrap (6 + (IntKind.i64.wrap (byteAt a0 5)))).toNat : Int))) (
 cond (inb 5 a0.size) (
 cond (decide (0 ≤ (IntKind.i64.wrap (6 + (IntKind.i64.wrap (byteAt a0 5)))))) (
 cond (decide ((IntKind.i64.wrap (6 + (IntKind.i64.wrap (byteAt a0 5)))) ≤ (a0.size : Int))) (
 cond ((IntKind.i64.wrap (byteAt a0 0)) == 1) (
 (Lqcd none [.s (a0.extract ((IntKind.i64.wrap (6 + (IntKind.i64.wrap (byteAt a0 5)))).toNat) a0.size), .i a1]).bind fun y2 =>
 Lqck (some 9) [.s a0, .i a1, .i 0, .s (⟨#[]⟩ : ByteArray), .s (⟨#[]⟩ : ByteArray), .i 0, .s (⟨#[]⟩ : ByteArray), .i (IntKind.i64.wrap (byteAt a0 0)), .s (⟨#[]⟩ : ByteArray), .s (a0.extract 6 ((IntKind.i64.wrap (6 + (IntKind.i64.wrap (byteAt a0 5)))).toNat)), .i (IntKind.i64.wrap ((IntKind.i64.wrap ((IntKind.i64.wrap ((IntKind.i64.wrap ((IntKind.i64.wrap (byteAt a0 1)) * 16777216)) + (IntKind.i64.wrap ((IntKind.i64.wrap (byteAt a0 2)) * 65536)))) + (IntKind.i64.wrap ((IntKind.i64.wrap (byteAt a0 3)) * 256)))) + (IntKind.i64.wrap (byteAt a0 4)))), .s ((g y2 0).str), .l ((g y2 2).list), .l []]) (
 Lqck (some 9) [.s a0, .i a1, .i 0, .s (⟨#[]⟩ : ByteArray), .s (⟨#[]⟩ : ByteArray), .i 0, .s (⟨#[]⟩ : ByteArray), .i (IntKind.i64.wrap (byteAt a0 0)), .s (a0.extract ((IntKind.i64.wrap (6 + (IntKind.i64.wrap (byteAt a0 5)))).toNat) a0.size), .s (a0.extract 6 ((IntKind.i64.wrap (6 + (IntKind.i64.wrap (byteAt a0 5)))).toNat)), .i (IntKind.i64.wrap ((IntKind.i64.wrap ((IntKind.i64.wrap ((IntKind.i64.wrap ((IntKind.i64.wrap (byteAt a0 1)) * 16777216)) + (IntKind.i64.wrap ((IntKind.i64.wrap (byteAt a0 2)) * 65536)))) + (IntKind.i64.wrap ((IntKind.i64.wrap (byteAt a0 3)) * 256)))) + (IntKind.i64.wrap (byteAt a0 4)))), .s (⟨#[]⟩ : ByteArray), .l [], .l []])) (
 none)) (
 none)) (
 none)) (
 none)) (
 none)) (
 none)) (
 none)) (
 none)) (
 none)) (
 none)) (
 none)) (
 none))) (
 none))) := (zd _ _).trans (by kernel_rfl)
theorem eqck_9 (a0 : ByteArray) (a1 a2 : Int) (a3 a4 : ByteArray) (a5 : Int) (a6 : ByteArray) (a7 : Int) (a8 a9 : ByteArray) (a10 : Int) (a11 : ByteArray) (a12 a13 : Rw) : Lqck (some 9) [.s a0, .i a1, .i a2, .s a3, .s a4, .i a5, .s a6, .i a7, .s a8, .s a9, .i a10, .s a11, .l a12, .l a13] =
 (Lqu none [.i a7, .s a8, .s a9, .i a10, .s a11, .l a12, .i a1]).bind fun y1 =>
 cond (!(g y1 0).bool) (
 some [.i 0, .s (⟨#[]⟩ : ByteArray), .s (⟨#[]⟩ : ByteArray), .i 0, .s (⟨#[]⟩ : ByteArray), .b false, .l []]) (
 (Lqv none [.i a7, .s a8, .s a9, .i a10, .s a11, .l a12, .i a1]).bind fun y2 =>
 cond (!Eng.seq ((g y2 0).str) a0) (
 some [.i 0, .s (⟨#[]⟩ : ByteArray), .s (⟨#[]⟩ : ByteArray), .i 0, .s (⟨#[]⟩ : ByteArray), .b false, .l []]) (
 some [.i a7, .s a8, .s a9, .i a10, .s a11, .b true, .l a12])) := (zd _ _).trans (by kernel_rfl)
theorem kqck : SigOk Tryz.prog (dqck.sig (Lqck none)) ∧ (dqck.sig (Lqck none)).ok = true := zf (zb kqh (by kernel_rfl) (zb kqu (by kernel_rfl) (zb kqv (by kernel_rfl) (zb kqcd (by kernel_rfl) ze)))) (by kernel_rfl) (by kernel_rfl) (by kernel_rfl)
def dqbu : FD := { fn := 148, nb := 0, pre := ⟨[.ag [.s 0, .fz 9 false 1]], []⟩, post := ⟨[.ag [.s 0, .ow 0]], [.rw 9 true 1]⟩, sh := false, cuts := [] }
noncomputable def Lqbu : Option Nat → Lv → Option Lv := Lim Tryz.prog [] dqbu Tryz.f148
theorem eqbu_i (a0 : ByteArray) (a1 : Rw) : Lqbu none [.s a0, .l a1] =
 cond (decide (([] : Rw).length + a1.length ≤ most)) (
 some [.s a0, .l (([] : Rw) ++ a1)]) (
 none) := (zd _ _).trans (by kernel_rfl)
theorem kqbu : SigOk Tryz.prog (dqbu.sig (Lqbu none)) ∧ (dqbu.sig (Lqbu none)).ok = true := zf ze (by kernel_rfl) (by kernel_rfl) (by kernel_rfl)
def dqo : FD := { fn := 115, nb := 0, pre := ⟨[.ag [.i .i64 0, .i .i64 1, .i .i64 2, .i .i64 3, .fz 90 false 4, .fz 156 false 5, .fz 158 false 6]], []⟩, post := ⟨[.ag [.i .i64 0, .i .i64 1, .i .i64 2, .i .i64 3, .ow 0, .ow 1, .ow 2]], [.rw 90 true 4, .rw 156 true 5, .rw 158 true 6]⟩, sh := false, cuts := [⟨4, [1, 2, 3, 4], ⟨[.sc (.pt 0 0), .sc (.pt 1 0), .sc (.pt 2 0), .sc (.i .i64 0)], [.bx [.i .i64 1, .i .i64 2, .i .i64 3, .i .i64 4, .fz 90 false 5, .fz 156 false 6, .fz 158 false 7], .bx [.i .i64 8, .i .i64 9, .i .i64 10, .i .i64 11, .ow 3, .ow 4, .ow 5], .bx [.i .i64 12, .i .i64 13, .i .i64 14, .i .i64 15, .ow 6, .fz 156 false 16, .fz 158 false 17], .rw 90 true 18, .rw 156 true 19, .rw 158 true 20, .rw 90 true 21]⟩⟩] }
noncomputable def Lqo : Option Nat → Lv → Option Lv := Lim Tryz.prog [dqbu.sig (Lqbu none)] dqo Tryz.f115
theorem eqo_i (a0 a1 a2 a3 : Int) (a4 a5 a6 : Rw) : Lqo none [.i a0, .i a1, .i a2, .i a3, .l a4, .l a5, .l a6] =
 Lqo (some 4) [.i 0, .i a0, .i a1, .i a2, .i a3, .l a4, .l a5, .l a6, .i 0, .i 0, .i 0, .i 0, .i a0, .i a1, .i a2, .i a3, .l a5, .l a6, .l [], .l [], .l [], .l ([] : Rw)] := (zd _ _).trans (by kernel_rfl)
theorem eqo_4 (a0 a1 a2 a3 a4 : Int) (a5 a6 a7 : Rw) (a8 a9 a10 a11 a12 a13 a14 a15 : Int) (a16 a17 a18 a19 a20 a21 : Rw) : Lqo (some 4) [.i a0, .i a1, .i a2, .i a3, .i a4, .l a5, .l a6, .l a7, .i a8, .i a9, .i a10, .i a11, .i a12, .i a13, .i a14, .i a15, .l a16, .l a17, .l a18, .l a19, .l a20, .l a21] =
 cond (decide (a0 < (a5.length : Int))) (
 cond (inb a0 a5.length) (
 (Lqbu none [.s ((rd a5 a0.toNat 2).str), .l ((rd a5 a0.toNat 3).list)]).bind fun y1 =>
 cond (decide (a21.length + ([[.s ((rd a5 a0.toNat 0).str), .i ((rd a5 a0.toNat 1).int), .s ((g y1 0).str), .l ((g y1 1).list)]] : Rw).length ≤ most)) (
 Lqo (some 4) [.i (IntKind.i64.wrap (a0 + 1)), .i a1, .i a2, .i a3, .i a4, .l a5, .l a6, .l a7, .i a8, .i a9, .i a10, .i a11, .i a12, .i a13, .i a14, .i a15, .l a16, .l a17, .l a18, .l a19, .l a20, .l (a21 ++ ([[.s ((rd a5 a0.toNat 0).str), .i ((rd a5 a0.toNat 1).int), .s ((g y1 0).str), .l ((g y1 1).list)]] : Rw))]) (
 none)) (
 none)) (
 cond (decide (([] : Rw).length + a6.length ≤ most)) (
 cond (decide (([] : Rw).length + a7.length ≤ most)) (
 some [.i a12, .i a13, .i a14, .i a15, .l a21, .l (([] : Rw) ++ a6), .l (([] : Rw) ++ a7)]) (
 none)) (
 none)) := (zd _ _).trans (by kernel_rfl)
theorem kqo : SigOk Tryz.prog (dqo.sig (Lqo none)) ∧ (dqo.sig (Lqo none)).ok = true := zf (zb kqbu (by kernel_rfl) ze) (by kernel_rfl) (by kernel_rfl) (by kernel_rfl)
def dqg : FD := { fn := 128, nb := 0, pre := ⟨[.ag [.i .i64 0, .i .i64 1, .i .i64 2, .i .i64 3, .fz 90 false 4, .fz 156 false 5, .fz 158 false 6], .sc (.s 7)], []⟩, post := ⟨[.sc (.i .i64 0)], []⟩, sh := false, cuts := [⟨2, [1, 2, 5], ⟨[.sc (.s 0), .sc (.pt 0 0), .sc (.i .i64 1)], [.bx [.i .i64 2, .i .i64 3, .i .i64 4, .i .i64 5, .fz 90 false 6, .fz 156 false 7, .fz 158 false 8]]⟩⟩] }
noncomputable def Lqg : Option Nat → Lv → Option Lv := Lim Tryz.prog [] dqg Tryz.f128
theorem eqg_i (a0 a1 a2 a3 : Int) (a4 a5 a6 : Rw) (a7 : ByteArray) : Lqg none [.i a0, .i a1, .i a2, .i a3, .l a4, .l a5, .l a6, .s a7] =
 Lqg (some 2) [.s a7, .i 0, .i a0, .i a1, .i a2, .i a3, .l a4, .l a5, .l a6] := (zd _ _).trans (by kernel_rfl)
theorem eqg_2 (a0 : ByteArray) (a1 a2 a3 a4 a5 : Int) (a6 a7 a8 : Rw) : Lqg (some 2) [.s a0, .i a1, .i a2, .i a3, .i a4, .i a5, .l a6, .l a7, .l a8] =
 cond (decide (a1 < (a6.length : Int))) (
 cond (inb a1 a6.length) (
 cond (Eng.seq ((rd a6 a1.toNat 0).str) a0) (
 some [.i a1]) (
 Lqg (some 2) [.s a0, .i (IntKind.i64.wrap (a1 + 1)), .i a2, .i a3, .i a4, .i a5, .l a6, .l a7, .l a8])) (
 none)) (
 some [.i (-1)]) := (zd _ _).trans (by kernel_rfl)
theorem kqg : SigOk Tryz.prog (dqg.sig (Lqg none)) ∧ (dqg.sig (Lqg none)).ok = true := zf ze (by kernel_rfl) (by kernel_rfl) (by kernel_rfl)
def dqcq : FD := { fn := 180, nb := 0, pre := ⟨[.ag [.i .i64 0, .i .i64 1, .i .i64 2, .i .i64 3, .fz 90 false 4, .fz 156 false 5, .ow 0], .sc (.s 6), .sc (.i .i64 7)], [.rw 158 false 8]⟩, post := ⟨[.ag [.i .i64 0, .i .i64 1, .i .i64 2, .i .i64 3, .i .i64 4, .fz 90 false 5, .fz 156 false 6, .ow 0, .s 7, .i .i64 8, .s 9, .s 10]], [.rw 158 false 11]⟩, sh := true, cuts := [] }
noncomputable def Lqcq : Option Nat → Lv → Option Lv := Lim Tryz.prog [] dqcq Tryz.f180
theorem eqcq_i (a0 a1 a2 a3 : Int) (a4 a5 : Rw) (a6 : ByteArray) (a7 : Int) (a8 : Rw) : Lqcq none [.i a0, .i a1, .i a2, .i a3, .l a4, .l a5, .s a6, .i a7, .l a8] =
 cond (decide (200 ≤ (a8.length : Int))) (
 some [.i 4, .i 0, .i 0, .i 0, .i 0, .l ([]), .l ([]), .s (⟨#[]⟩ : ByteArray), .i 0, .s (⟨#[]⟩ : ByteArray), .s (⟨#[]⟩ : ByteArray), .l []]) (
 cond (decide (1000000000 ≤ a2)) (
 some [.i 4, .i 0, .i 0, .i 0, .i 0, .l ([]), .l ([]), .s (⟨#[]⟩ : ByteArray), .i 0, .s (⟨#[]⟩ : ByteArray), .s (⟨#[]⟩ : ByteArray), .l []]) (
 cond (decide (a8.length + ([[.i (IntKind.i64.wrap (a2 + 1)), .s a6, .i (IntKind.i64.wrap (a1 + a7))]] : Rw).length ≤ most)) (
 some [.i 0, .i a0, .i a1, .i (IntKind.i64.wrap (a2 + 1)), .i a3, .l a4, .l a5, .s (⟨#[]⟩ : ByteArray), .i (IntKind.i64.wrap (a2 + 1)), .s (⟨#[]⟩ : ByteArray), .s (⟨#[]⟩ : ByteArray), .l (a8 ++ ([[.i (IntKind.i64.wrap (a2 + 1)), .s a6, .i (IntKind.i64.wrap (a1 + a7))]] : Rw))]) (
 none))) := (zd _ _).trans (by kernel_rfl)
theorem kqcq : SigOk Tryz.prog (dqcq.sig (Lqcq none)) ∧ (dqcq.sig (Lqcq none)).ok = true := zf ze (by kernel_rfl) (by kernel_rfl) (by kernel_rfl)
def dqd : FD := { fn := 21, nb := 0, pre := ⟨[.sc (.s 0), .sc (.i .i64 1)], []⟩, post := ⟨[.sc (.s 0)], []⟩, sh := false, cuts := [⟨5, [0, 1, 5, 6], ⟨[.sc (.s 0), .sc (.i .i64 1), .sc (.i .u64 2), .sc (.i .i64 3)], []⟩⟩, ⟨10, [1, 5, 7, 8], ⟨[.sc (.i .i64 0), .sc (.i .u64 1), .sc (.ow 0), .sc (.i .i64 2)], [.rw 5 true 3]⟩⟩] }
noncomputable def Lqd : Option Nat → Lv → Option Lv := Lim Tryz.prog [dqh.sig (Lqh none)] dqd Tryz.f21
theorem eqd_i (a0 : ByteArray) (a1 : Int) : Lqd none [.s a0, .i a1] =
 (Lqh none [.i a1]).bind fun y1 =>
 cond (!(g y1 0).bool) (
 some [.s (⟨#[]⟩ : ByteArray)]) (
 Lqd (some 5) [.s a0, .i a1, .i 14695981039346656037, .i 0]) := (zd _ _).trans (by kernel_rfl)
theorem eqd_5 (a0 : ByteArray) (a1 a2 a3 : Int) : Lqd (some 5) [.s a0, .i a1, .i a2, .i a3] =
 cond (decide (a3 < (a0.size : Int))) (
 cond (inb a3 a0.size) (
 Lqd (some 5) [.s a0, .i a1, .i (IntKind.u64.wrap ((IntKind.u64.wrap (BitVec.ofInt (IntKind.u64).bits a2 ^^^ BitVec.ofInt (IntKind.u64).bits (IntKind.u64.wrap (byteAt a0 a3.toNat))).toNat) * 1099511628211)), .i (IntKind.i64.wrap (a3 + 1))]) (
 none)) (
 Lqd (some 10) [.i a1, .i a2, .i 0, .l ([] : Rw)]) := (zd _ _).trans (by kernel_rfl)
theorem eqd_10 (a0 a1 a2 : Int) (a3 : Rw) : Lqd (some 10) [.i a0, .i a1, .i a2, .l a3] =
 cond (decide (a2 < a0)) (
 cond (decide (([[.i (IntKind.u8.wrap (a1.tmod 256))]] : Rw).length + a3.length ≤ most)) (
 Lqd (some 10) [.i a0, .i (IntKind.u64.wrap (a1.tdiv 256)), .i (IntKind.i64.wrap (a2 + 1)), .l (([[.i (IntKind.u8.wrap (a1.tmod 256))]] : Rw) ++ a3)]) (
 none)) (
 some [.s (bytesOf a3)]) := (zd _ _).trans (by kernel_rfl)
theorem kqd : SigOk Tryz.prog (dqd.sig (Lqd none)) ∧ (dqd.sig (Lqd none)).ok = true := zf (zb kqh (by kernel_rfl) ze) (by kernel_rfl) (by kernel_rfl) (by kernel_rfl)
def dqt : FD := { fn := 177, nb := 0, pre := ⟨[.ag [.i .i64 0, .i .i64 1, .i .i64 2, .i .i64 3, .fz 90 false 4, .fz 156 false 5, .ow 0], .ag [.i .i64 6, .s 7, .s 8, .i .i64 9, .s 10, .fz 9 false 11]], [.rw 158 false 12]⟩, post := ⟨[.ag [.i .i64 0, .i .i64 1, .i .i64 2, .i .i64 3, .i .i64 4, .fz 90 false 5, .fz 156 false 6, .ow 0, .s 7, .i .i64 8, .s 9, .s 10]], [.rw 158 false 11]⟩, sh := true, cuts := [⟨4, [2, 3, 4, 5, 6, 7], ⟨[.sc (.pt 0 0), .sc (.pt 1 0), .sc (.pt 2 0), .sc (.s 0), .sc (.s 1), .sc (.i .i64 2)], [.bx [.i .i64 3, .i .i64 4, .i .i64 5, .i .i64 6, .fz 90 false 7, .fz 156 false 8, .ow 3], .bx [.i .i64 9, .s 10, .s 11, .i .i64 12, .s 13, .fz 9 false 14], .bx [.i .i64 15, .i .i64 16, .i .i64 17, .i .i64 18, .i .i64 19, .ow 4, .ow 5, .ow 6, .s 20, .i .i64 21, .s 22, .s 23], .rw 158 false 24, .rw 90 true 25, .rw 156 true 26, .rw 158 true 27]⟩⟩, ⟨20, [2, 3, 4, 6, 10, 11, 12, 13], ⟨[.sc (.pt 0 0), .sc (.pt 1 0), .sc (.pt 2 0), .sc (.s 0), .sc (.ow 3), .sc (.b 1), .sc (.pt 4 0), .sc (.i .i64 2)], [.bx [.i .i64 3, .i .i64 4, .i .i64 5, .i .i64 6, .fz 90 false 7, .fz 156 false 8, .ow 5], .bx [.i .i64 9, .s 10, .s 11, .i .i64 12, .s 13, .fz 9 false 14], .bx [.i .i64 15, .i .i64 16, .i .i64 17, .i .i64 18, .i .i64 19, .ow 6, .ow 7, .ow 8, .s 20, .i .i64 21, .s 22, .s 23], .rw 90 false 24, .bx [.s 25, .i .i64 26, .s 27, .fz 9 true 28], .rw 158 false 29, .rw 90 true 30, .rw 156 true 31, .rw 158 true 32]⟩⟩] }
noncomputable def Lqt : Option Nat → Lv → Option Lv := Lim Tryz.prog [dqi.sig (Lqi none), dqbu.sig (Lqbu none), dqd.sig (Lqd none), dqg.sig (Lqg none), dqcq.sig (Lqcq none)] dqt Tryz.f177
theorem eqt_i (a0 a1 a2 a3 : Int) (a4 a5 : Rw) (a6 : Int) (a7 a8 : ByteArray) (a9 : Int) (a10 : ByteArray) (a11 a12 : Rw) : Lqt none [.i a0, .i a1, .i a2, .i a3, .l a4, .l a5, .i a6, .s a7, .s a8, .i a9, .s a10, .l a11, .l a12] =
 (Lqi none [.s a10, .l a11, .i a0]).bind fun y1 =>
 (Lqd none [.s ((g y1 0).str), .i a0]).bind fun y2 =>
 Lqt (some 4) [.s ((g y1 0).str), .s ((g y2 0).str), .i 0, .i a0, .i a1, .i a2, .i a3, .l a4, .l a5, .i a6, .s a7, .s a8, .i a9, .s a10, .l a11, .i 0, .i 0, .i 0, .i 0, .i 0, .s (⟨#[]⟩ : ByteArray), .i 0, .s (⟨#[]⟩ : ByteArray), .s (⟨#[]⟩ : ByteArray), .l a12, .l [], .l [], .l []] := (zd _ _).trans (by kernel_rfl)
theorem eqt_4 (a0 a1 : ByteArray) (a2 a3 a4 a5 a6 : Int) (a7 a8 : Rw) (a9 : Int) (a10 a11 : ByteArray) (a12 : Int) (a13 : ByteArray) (a14 : Rw) (a15 a16 a17 a18 a19 : Int) (a20 : ByteArray) (a21 : Int) (a22 a23 : ByteArray) (a24 a25 a26 a27 : Rw) : Lqt (some 4) [.s a0, .s a1, .i a2, .i a3, .i a4, .i a5, .i a6, .l a7, .l a8, .i a9, .s a10, .s a11, .i a12, .s a13, .l a14, .i a15, .i a16, .i a17, .i a18, .i a19, .s a20, .i a21, .s a22, .s a23, .l a24, .l a25, .l a26, .l a27] =
 cond (decide (a2 < (a14.length : Int))) (
 cond (inb a2 a14.length) (
 (Lqg none [.i a3, .i a4, .i a5, .i a6, .l a7, .l a8, .l a24, .s ((rd a14 a2.toNat 0).str)]).bind fun y1 =>
 cond (decide ((g y1 0).int < 0)) (
 some [.i 2, .i 0, .i 0, .i 0, .i 0, .l ([]), .l ([]), .s (⟨#[]⟩ : ByteArray), .i 0, .s (⟨#[]⟩ : ByteArray), .s (⟨#[]⟩ : ByteArray), .l []]) (
 Lqt (some 4) [.s a0, .s a1, .i (IntKind.i64.wrap (a2 + 1)), .i a3, .i a4, .i a5, .i a6, .l a7, .l a8, .i a9, .s a10, .s a11, .i a12, .s a13, .l a14, .i a15, .i a16, .i a17, .i a18, .i a19, .s a20, .i a21, .s a22, .s a23, .l a24, .l a25, .l a26, .l a27])) (
 none)) (
 (Lqg none [.i a3, .i a4, .i a5, .i a6, .l a7, .l a8, .l a24, .s a1]).bind fun y2 =>
 cond (decide (0 ≤ (g y2 0).int)) (
 cond (inb ((g y2 0).int) a7.length) (
 (Lqi none [.s ((rd a7 (((g y2 0).int).toNat) 2).str), .l ((rd a7 (((g y2 0).int).toNat) 3).list), .i a3]).bind fun y3 =>
 cond (!Eng.seq ((g y3 0).str) a0) (
 some [.i 3, .i 0, .i 0, .i 0, .i 0, .l ([]), .l ([]), .s (⟨#[]⟩ : ByteArray), .i 0, .s ((g y3 0).str), .s a0, .l []]) (
 (Lqcq none [.i a3, .i a4, .i a5, .i a6, .l a7, .l a8, .s a1, .i a12, .l a24]).bind fun y4 =>
 cond ((g y4 0).int == 0) (
 some [.i ((g y4 0).int), .i ((g y4 1).int), .i ((g y4 2).int), .i ((g y4 3).int), .i ((g y4 4).int), .l ((g y4 5).list), .l ((g y4 6).list), .s a1, .i ((g y4 8).int), .s ((g y4 9).str), .s ((g y4 10).str), .l ((g y4 11).list)]) (
 some [.i ((g y4 0).int), .i ((g y4 1).int), .i ((g y4 2).int), .i ((g y4 3).int), .i ((g y4 4).int), .l ((g y4 5).list), .l ((g y4 6).list), .s ((g y4 7).str), .i ((g y4 8).int), .s ((g y4 9).str), .s ((g y4 10).str), .l ((g y4 11).list)]))) (
 none)) (
 cond (decide (600 ≤ (a7.length : Int))) (
 some [.i 4, .i 0, .i 0, .i 0, .i 0, .l ([]), .l ([]), .s (⟨#[]⟩ : ByteArray), .i 0, .s (⟨#[]⟩ : ByteArray), .s (⟨#[]⟩ : ByteArray), .l []]) (
 cond (decide (1000000000 ≤ a6)) (
 some [.i 4, .i 0, .i 0, .i 0, .i 0, .l ([]), .l ([]), .s (⟨#[]⟩ : ByteArray), .i 0, .s (⟨#[]⟩ : ByteArray), .s (⟨#[]⟩ : ByteArray), .l []]) (
 (Lqbu none [.s a13, .l a14]).bind fun y5 =>
 Lqt (some 20) [.s a1, .b false, .i 0, .i a3, .i a4, .i a5, .i (IntKind.i64.wrap (a6 + 1)), .l a7, .l a8, .i a9, .s a10, .s a11, .i a12, .s a13, .l a14, .i a15, .i a16, .i a17, .i a18, .i a19, .s a20, .i a21, .s a22, .s a23, .l ([] : Rw), .s a1, .i (IntKind.i64.wrap (a6 + 1)), .s ((g y5 0).str), .l ((g y5 1).list), .l a24, .l a25, .l a26, .l a27])))) := (zd _ _).trans (by kernel_rfl)
theorem eqt_20 (a0 : ByteArray) (a1 : Bool) (a2 a3 a4 a5 a6 : Int) (a7 a8 : Rw) (a9 : Int) (a10 a11 : ByteArray) (a12 : Int) (a13 : ByteArray) (a14 : Rw) (a15 a16 a17 a18 a19 : Int) (a20 : ByteArray) (a21 : Int) (a22 a23 : ByteArray) (a24 : Rw) (a25 : ByteArray) (a26 : Int) (a27 : ByteArray) (a28 a29 a30 a31 a32 : Rw) : Lqt (some 20) [.s a0, .b a1, .i a2, .i a3, .i a4, .i a5, .i a6, .l a7, .l a8, .i a9, .s a10, .s a11, .i a12, .s a13, .l a14, .i a15, .i a16, .i a17, .i a18, .i a19, .s a20, .i a21, .s a22, .s a23, .l a24, .s a25, .i a26, .s a27, .l a28, .l a29, .l a30, .l a31, .l a32] =
 cond (decide (a2 < (a7.length : Int))) (
 cond (!a1) (
 cond (inb a2 a7.length) (
 cond (!(slt ((rd a7 a2.toNat 0).str) a0 || Eng.seq ((rd a7 a2.toNat 0).str) a0)) (
 cond (decide (a24.length + ([[.s a25, .i a26, .s a27, .l a28]] : Rw).length ≤ most)) (
 cond (inb a2 a7.length) (
 cond (decide ((a24 ++ ([[.s a25, .i a26, .s a27, .l a28]] : Rw)).length + ([[.s ((rd a7 a2.toNat 0).str), .i ((rd a7 a2.toNat 1).int), .s ((rd a7 a2.toNat 2).str), .l ((rd a7 a2.toNat 3).list)]] : Rw).length ≤ most)) (
 Lqt (some 20) [.s a0, .b true, .i (IntKind.i64.wrap (a2 + 1)), .i a3, .i a4, .i a5, .i a6, .l a7, .l a8, .i a9, .s a10, .s a11, .i a12, .s a13, .l a14, .i a15, .i a16, .i a17, .i a18, .i a19, .s a20, .i a21, .s a22, .s a23, .l ((a24 ++ ([[.s a25, .i a26, .s a27, .l a28]] : Rw)) ++ ([[.s ((rd a7 a2.toNat 0).str), .i ((rd a7 a2.toNat 1).int), .s ((rd a7 a2.toNat 2).str), .l ((rd a7 a2.toNat 3).list)]] : Rw)), .s a25, .i a26, .s a27, .l a28, .l a29, .l a30, .l a31, .l a32]) (
 none)) (
 none)) (
 none)) (
 cond (inb a2 a7.length) (
 cond (decide (a24.length + ([[.s ((rd a7 a2.toNat 0).str), .i ((rd a7 a2.toNat 1).int), .s ((rd a7 a2.toNat 2).str), .l ((rd a7 a2.toNat 3).list)]] : Rw).length ≤ most)) (
 Lqt (some 20) [.s a0, .b a1, .i (IntKind.i64.wrap (a2 + 1)), .i a3, .i a4, .i a5, .i a6, .l a7, .l a8, .i a9, .s a10, .s a11, .i a12, .s a13, .l a14, .i a15, .i a16, .i a17, .i a18, .i a19, .s a20, .i a21, .s a22, .s a23, .l (a24 ++ ([[.s ((rd a7 a2.toNat 0).str), .i ((rd a7 a2.toNat 1).int), .s ((rd a7 a2.toNat 2).str), .l ((rd a7 a2.toNat 3).list)]] : Rw)), .s a25, .i a26, .s a27, .l a28, .l a29, .l a30, .l a31, .l a32]) (
 none)) (
 none))) (
 none)) (
 cond (inb a2 a7.length) (
 cond (decide (a24.length + ([[.s ((rd a7 a2.toNat 0).str), .i ((rd a7 a2.toNat 1).int), .s ((rd a7 a2.toNat 2).str), .l ((rd a7 a2.toNat 3).list)]] : Rw).length ≤ most)) (
 Lqt (some 20) [.s a0, .b a1, .i (IntKind.i64.wrap (a2 + 1)), .i a3, .i a4, .i a5, .i a6, .l a7, .l a8, .i a9, .s a10, .s a11, .i a12, .s a13, .l a14, .i a15, .i a16, .i a17, .i a18, .i a19, .s a20, .i a21, .s a22, .s a23, .l (a24 ++ ([[.s ((rd a7 a2.toNat 0).str), .i ((rd a7 a2.toNat 1).int), .s ((rd a7 a2.toNat 2).str), .l ((rd a7 a2.toNat 3).list)]] : Rw)), .s a25, .i a26, .s a27, .l a28, .l a29, .l a30, .l a31, .l a32]) (
 none)) (
 none))) (
 cond (!a1) (
 cond (decide (a24.length + ([[.s a25, .i a26, .s a27, .l a28]] : Rw).length ≤ most)) (
 (Lqcq none [.i a3, .i a4, .i a5, .i a6, .l (a24 ++ ([[.s a25, .i a26, .s a27, .l a28]] : Rw)), .l a8, .s a0, .i a12, .l a29]).bind fun y1 =>
 cond ((g y1 0).int == 0) (
 some [.i ((g y1 0).int), .i ((g y1 1).int), .i ((g y1 2).int), .i ((g y1 3).int), .i ((g y1 4).int), .l ((g y1 5).list), .l ((g y1 6).list), .s a0, .i ((g y1 8).int), .s ((g y1 9).str), .s ((g y1 10).str), .l ((g y1 11).list)]) (
 some [.i ((g y1 0).int), .i ((g y1 1).int), .i ((g y1 2).int), .i ((g y1 3).int), .i ((g y1 4).int), .l ((g y1 5).list), .l ((g y1 6).list), .s ((g y1 7).str), .i ((g y1 8).int), .s ((g y1 9).str), .s ((g y1 10).str), .l ((g y1 11).list)])) (
 none)) (
 (Lqcq none [.i a3, .i a4, .i a5, .i a6, .l a24, .l a8, .s a0, .i a12, .l a29]).bind fun y2 =>
 cond ((g y2 0).int == 0) (
 some [.i ((g y2 0).int), .i ((g y2 1).int), .i ((g y2 2).int), .i ((g y2 3).int), .i ((g y2 4).int), .l ((g y2 5).list), .l ((g y2 6).list), .s a0, .i ((g y2 8).int), .s ((g y2 9).str), .s ((g y2 10).str), .l ((g y2 11).list)]) (
 some [.i ((g y2 0).int), .i ((g y2 1).int), .i ((g y2 2).int), .i ((g y2 3).int), .i ((g y2 4).int), .l ((g y2 5).list), .l ((g y2 6).list), .s ((g y2 7).str), .i ((g y2 8).int), .s ((g y2 9).str), .s ((g y2 10).str), .l ((g y2 11).list)]))) := (zd _ _).trans (by kernel_rfl)
theorem kqt : SigOk Tryz.prog (dqt.sig (Lqt none)) ∧ (dqt.sig (Lqt none)).ok = true := zf (zb kqi (by kernel_rfl) (zb kqbu (by kernel_rfl) (zb kqd (by kernel_rfl) (zb kqg (by kernel_rfl) (zb kqcq (by kernel_rfl) ze))))) (by kernel_rfl) (by kernel_rfl) (by kernel_rfl)
def dq3 : FD := { fn := 178, nb := 0, pre := ⟨[.ag [.i .i64 0, .i .i64 1, .i .i64 2, .i .i64 3, .fz 90 false 4, .fz 156 false 5, .ow 0], .ag [.i .i64 6, .s 7, .s 8, .i .i64 9, .s 10, .fz 9 false 11]], [.rw 158 false 12]⟩, post := ⟨[.ag [.i .i64 0, .i .i64 1, .i .i64 2, .i .i64 3, .i .i64 4, .fz 90 false 5, .ow 0, .ow 1, .s 6, .i .i64 7, .s 8, .s 9]], [.rw 156 true 10, .rw 158 false 11]⟩, sh := true, cuts := [⟨6, [2, 3, 4, 5, 6, 7], ⟨[.sc (.pt 0 0), .sc (.pt 1 0), .sc (.pt 2 0), .sc (.ow 3), .sc (.b 0), .sc (.i .i64 1)], [.bx [.i .i64 2, .i .i64 3, .i .i64 4, .i .i64 5, .fz 90 false 6, .fz 156 false 7, .ow 4], .bx [.i .i64 8, .s 9, .s 10, .i .i64 11, .s 12, .fz 9 false 13], .bx [.i .i64 14, .i .i64 15, .i .i64 16, .i .i64 17, .i .i64 18, .ow 5, .ow 6, .ow 7, .s 19, .i .i64 20, .s 21, .s 22], .rw 156 true 23, .rw 158 false 24, .rw 90 true 25, .rw 156 true 26, .rw 158 true 27]⟩⟩, ⟨11, [2, 3, 4, 5, 6, 7], ⟨[.sc (.pt 0 0), .sc (.pt 1 0), .sc (.pt 2 0), .sc (.ow 3), .sc (.b 0), .sc (.i .i64 1)], [.bx [.i .i64 2, .i .i64 3, .i .i64 4, .i .i64 5, .fz 90 false 6, .fz 156 false 7, .ow 4], .bx [.i .i64 8, .s 9, .s 10, .i .i64 11, .s 12, .fz 9 false 13], .bx [.i .i64 14, .i .i64 15, .i .i64 16, .i .i64 17, .i .i64 18, .ow 5, .ow 6, .ow 7, .s 19, .i .i64 20, .s 21, .s 22], .rw 156 true 23, .rw 158 false 24, .rw 90 true 25, .rw 156 true 26, .rw 158 true 27]⟩⟩] }
noncomputable def Lq3 : Option Nat → Lv → Option Lv := Lim Tryz.prog [dqg.sig (Lqg none)] dq3 Tryz.f178
theorem eq3_i (a0 a1 a2 a3 : Int) (a4 a5 : Rw) (a6 : Int) (a7 a8 : ByteArray) (a9 : Int) (a10 : ByteArray) (a11 a12 : Rw) : Lq3 none [.i a0, .i a1, .i a2, .i a3, .l a4, .l a5, .i a6, .s a7, .s a8, .i a9, .s a10, .l a11, .l a12] =
 (Lqg none [.i a0, .i a1, .i a2, .i a3, .l a4, .l a5, .l a12, .s a7]).bind fun y1 =>
 cond (decide ((g y1 0).int < 0)) (
 some [.i 2, .i 0, .i 0, .i 0, .i 0, .l ([]), .s (⟨#[]⟩ : ByteArray), .i 0, .s (⟨#[]⟩ : ByteArray), .s (⟨#[]⟩ : ByteArray), .l [], .l []]) (
 Lq3 (some 6) [.b false, .i 0, .i a0, .i a1, .i a2, .i a3, .l a4, .l a5, .i a6, .s a7, .s a8, .i a9, .s a10, .l a11, .i 0, .i 0, .i 0, .i 0, .i 0, .s (⟨#[]⟩ : ByteArray), .i 0, .s (⟨#[]⟩ : ByteArray), .s (⟨#[]⟩ : ByteArray), .l ([] : Rw), .l a12, .l [], .l [], .l []]) := (zd _ _).trans (by kernel_rfl)
theorem eq3_6 (a0 : Bool) (a1 a2 a3 a4 a5 : Int) (a6 a7 : Rw) (a8 : Int) (a9 a10 : ByteArray) (a11 : Int) (a12 : ByteArray) (a13 : Rw) (a14 a15 a16 a17 a18 : Int) (a19 : ByteArray) (a20 : Int) (a21 a22 : ByteArray) (a23 a24 a25 a26 a27 : Rw) : Lq3 (some 6) [.b a0, .i a1, .i a2, .i a3, .i a4, .i a5, .l a6, .l a7, .i a8, .s a9, .s a10, .i a11, .s a12, .l a13, .i a14, .i a15, .i a16, .i a17, .i a18, .s a19, .i a20, .s a21, .s a22, .l a23, .l a24, .l a25, .l a26, .l a27] =
 cond (decide (a1 < (a7.length : Int))) (
 cond (!a0) (
 cond (inb a1 a7.length) (
 cond (!slt ((rd a7 a1.toNat 0).str) a10) (
 cond (decide (a23.length + ([[.s a10, .s a9]] : Rw).length ≤ most)) (
 Lq3 (some 11) [.b true, .i a1, .i a2, .i a3, .i a4, .i a5, .l a6, .l a7, .i a8, .s a9, .s a10, .i a11, .s a12, .l a13, .i a14, .i a15, .i a16, .i a17, .i a18, .s a19, .i a20, .s a21, .s a22, .l (a23 ++ ([[.s a10, .s a9]] : Rw)), .l a24, .l a25, .l a26, .l a27]) (
 none)) (
 Lq3 (some 11) [.b a0, .i a1, .i a2, .i a3, .i a4, .i a5, .l a6, .l a7, .i a8, .s a9, .s a10, .i a11, .s a12, .l a13, .i a14, .i a15, .i a16, .i a17, .i a18, .s a19, .i a20, .s a21, .s a22, .l a23, .l a24, .l a25, .l a26, .l a27])) (
 none)) (
 Lq3 (some 11) [.b a0, .i a1, .i a2, .i a3, .i a4, .i a5, .l a6, .l a7, .i a8, .s a9, .s a10, .i a11, .s a12, .l a13, .i a14, .i a15, .i a16, .i a17, .i a18, .s a19, .i a20, .s a21, .s a22, .l a23, .l a24, .l a25, .l a26, .l a27])) (
 cond (!a0) (
 cond (decide (a23.length + ([[.s a10, .s a9]] : Rw).length ≤ most)) (
 cond (decide (100 < ((a23 ++ ([[.s a10, .s a9]] : Rw)).length : Int))) (
 some [.i 4, .i 0, .i 0, .i 0, .i 0, .l ([]), .s (⟨#[]⟩ : ByteArray), .i 0, .s (⟨#[]⟩ : ByteArray), .s (⟨#[]⟩ : ByteArray), .l [], .l []]) (
 some [.i 0, .i a2, .i a3, .i a4, .i a5, .l a6, .s (⟨#[]⟩ : ByteArray), .i 0, .s (⟨#[]⟩ : ByteArray), .s (⟨#[]⟩ : ByteArray), .l (a23 ++ ([[.s a10, .s a9]] : Rw)), .l a24])) (
 none)) (
 cond (decide (100 < (a23.length : Int))) (
 some [.i 4, .i 0, .i 0, .i 0, .i 0, .l ([]), .s (⟨#[]⟩ : ByteArray), .i 0, .s (⟨#[]⟩ : ByteArray), .s (⟨#[]⟩ : ByteArray), .l [], .l []]) (
 some [.i 0, .i a2, .i a3, .i a4, .i a5, .l a6, .s (⟨#[]⟩ : ByteArray), .i 0, .s (⟨#[]⟩ : ByteArray), .s (⟨#[]⟩ : ByteArray), .l a23, .l a24]))) := (zd _ _).trans (by kernel_rfl)
theorem eq3_11 (a0 : Bool) (a1 a2 a3 a4 a5 : Int) (a6 a7 : Rw) (a8 : Int) (a9 a10 : ByteArray) (a11 : Int) (a12 : ByteArray) (a13 : Rw) (a14 a15 a16 a17 a18 : Int) (a19 : ByteArray) (a20 : Int) (a21 a22 : ByteArray) (a23 a24 a25 a26 a27 : Rw) : Lq3 (some 11) [.b a0, .i a1, .i a2, .i a3, .i a4, .i a5, .l a6, .l a7, .i a8, .s a9, .s a10, .i a11, .s a12, .l a13, .i a14, .i a15, .i a16, .i a17, .i a18, .s a19, .i a20, .s a21, .s a22, .l a23, .l a24, .l a25, .l a26, .l a27] =
 cond (inb a1 a7.length) (
 cond (!Eng.seq ((rd a7 a1.toNat 0).str) a10) (
 cond (inb a1 a7.length) (
 cond (decide (a23.length + ([[.s ((rd a7 a1.toNat 0).str), .s ((rd a7 a1.toNat 1).str)]] : Rw).length ≤ most)) (
 Lq3 (some 6) [.b a0, .i (IntKind.i64.wrap (a1 + 1)), .i a2, .i a3, .i a4, .i a5, .l a6, .l a7, .i a8, .s a9, .s a10, .i a11, .s a12, .l a13, .i a14, .i a15, .i a16, .i a17, .i a18, .s a19, .i a20, .s a21, .s a22, .l (a23 ++ ([[.s ((rd a7 a1.toNat 0).str), .s ((rd a7 a1.toNat 1).str)]] : Rw)), .l a24, .l a25, .l a26, .l a27]) (
 none)) (
 none)) (
 Lq3 (some 6) [.b a0, .i (IntKind.i64.wrap (a1 + 1)), .i a2, .i a3, .i a4, .i a5, .l a6, .l a7, .i a8, .s a9, .s a10, .i a11, .s a12, .l a13, .i a14, .i a15, .i a16, .i a17, .i a18, .s a19, .i a20, .s a21, .s a22, .l a23, .l a24, .l a25, .l a26, .l a27])) (
 none) := (zd _ _).trans (by kernel_rfl)
theorem kq3 : SigOk Tryz.prog (dq3.sig (Lq3 none)) ∧ (dq3.sig (Lq3 none)).ok = true := zf (zb kqg (by kernel_rfl) ze) (by kernel_rfl) (by kernel_rfl) (by kernel_rfl)
def dqby : FD := { fn := 179, nb := 0, pre := ⟨[.ag [.i .i64 0, .i .i64 1, .i .i64 2, .i .i64 3, .fz 90 false 4, .fz 156 false 5, .ow 0], .sc (.s 6)], [.rw 158 false 7]⟩, post := ⟨[.ag [.i .i64 0, .i .i64 1, .i .i64 2, .i .i64 3, .i .i64 4, .fz 90 false 5, .ow 0, .ow 1, .s 6, .i .i64 7, .s 8, .s 9]], [.rw 156 true 10, .rw 158 false 11]⟩, sh := true, cuts := [⟨3, [1, 2, 4, 5, 6], ⟨[.sc (.s 0), .sc (.pt 0 0), .sc (.pt 1 0), .sc (.ow 2), .sc (.i .i64 1)], [.bx [.i .i64 2, .i .i64 3, .i .i64 4, .i .i64 5, .fz 90 false 6, .fz 156 false 7, .ow 3], .bx [.i .i64 8, .i .i64 9, .i .i64 10, .i .i64 11, .i .i64 12, .ow 4, .ow 5, .ow 6, .s 13, .i .i64 14, .s 15, .s 16], .rw 156 true 17, .rw 158 false 18, .rw 90 true 19, .rw 156 true 20, .rw 158 true 21]⟩⟩] }
noncomputable def Lqby : Option Nat → Lv → Option Lv := Lim Tryz.prog [] dqby Tryz.f179
theorem eqby_i (a0 a1 a2 a3 : Int) (a4 a5 : Rw) (a6 : ByteArray) (a7 : Rw) : Lqby none [.i a0, .i a1, .i a2, .i a3, .l a4, .l a5, .s a6, .l a7] =
 Lqby (some 3) [.s a6, .i 0, .i a0, .i a1, .i a2, .i a3, .l a4, .l a5, .i 0, .i 0, .i 0, .i 0, .i 0, .s (⟨#[]⟩ : ByteArray), .i 0, .s (⟨#[]⟩ : ByteArray), .s (⟨#[]⟩ : ByteArray), .l ([] : Rw), .l a7, .l [], .l [], .l []] := (zd _ _).trans (by kernel_rfl)
theorem eqby_3 (a0 : ByteArray) (a1 a2 a3 a4 a5 : Int) (a6 a7 : Rw) (a8 a9 a10 a11 a12 : Int) (a13 : ByteArray) (a14 : Int) (a15 a16 : ByteArray) (a17 a18 a19 a20 a21 : Rw) : Lqby (some 3) [.s a0, .i a1, .i a2, .i a3, .i a4, .i a5, .l a6, .l a7, .i a8, .i a9, .i a10, .i a11, .i a12, .s a13, .i a14, .s a15, .s a16, .l a17, .l a18, .l a19, .l a20, .l a21] =
 cond (decide (a1 < (a7.length : Int))) (
 cond (inb a1 a7.length) (
 cond (!Eng.seq ((rd a7 a1.toNat 0).str) a0) (
 cond (inb a1 a7.length) (
 cond (decide (a17.length + ([[.s ((rd a7 a1.toNat 0).str), .s ((rd a7 a1.toNat 1).str)]] : Rw).length ≤ most)) (
 Lqby (some 3) [.s a0, .i (IntKind.i64.wrap (a1 + 1)), .i a2, .i a3, .i a4, .i a5, .l a6, .l a7, .i a8, .i a9, .i a10, .i a11, .i a12, .s a13, .i a14, .s a15, .s a16, .l (a17 ++ ([[.s ((rd a7 a1.toNat 0).str), .s ((rd a7 a1.toNat 1).str)]] : Rw)), .l a18, .l a19, .l a20, .l a21]) (
 none)) (
 none)) (
 Lqby (some 3) [.s a0, .i (IntKind.i64.wrap (a1 + 1)), .i a2, .i a3, .i a4, .i a5, .l a6, .l a7, .i a8, .i a9, .i a10, .i a11, .i a12, .s a13, .i a14, .s a15, .s a16, .l a17, .l a18, .l a19, .l a20, .l a21])) (
 none)) (
 cond ((a17.length : Int) == (a7.length : Int)) (
 some [.i 5, .i 0, .i 0, .i 0, .i 0, .l ([]), .s (⟨#[]⟩ : ByteArray), .i 0, .s (⟨#[]⟩ : ByteArray), .s (⟨#[]⟩ : ByteArray), .l [], .l []]) (
 some [.i 0, .i a2, .i a3, .i a4, .i a5, .l a6, .s (⟨#[]⟩ : ByteArray), .i 0, .s (⟨#[]⟩ : ByteArray), .s (⟨#[]⟩ : ByteArray), .l a17, .l a18])) := (zd _ _).trans (by kernel_rfl)
theorem kqby : SigOk Tryz.prog (dqby.sig (Lqby none)) ∧ (dqby.sig (Lqby none)).ok = true := zf ze (by kernel_rfl) (by kernel_rfl) (by kernel_rfl)
def dqbz : FD := { fn := 181, nb := 0, pre := ⟨[.ag [.i .i64 0, .i .i64 1, .i .i64 2, .i .i64 3, .fz 90 false 4, .fz 156 false 5, .ow 0], .sc (.i .i64 6)], [.rw 158 false 7]⟩, post := ⟨[.ag [.i .i64 0, .i .i64 1, .i .i64 2, .i .i64 3, .i .i64 4, .fz 90 false 5, .fz 156 false 6, .ow 0, .s 7, .i .i64 8, .s 9, .s 10]], [.rw 158 true 11]⟩, sh := true, cuts := [⟨3, [1, 2, 4, 5, 6], ⟨[.sc (.i .i64 0), .sc (.pt 0 0), .sc (.pt 1 0), .sc (.ow 2), .sc (.i .i64 1)], [.bx [.i .i64 2, .i .i64 3, .i .i64 4, .i .i64 5, .fz 90 false 6, .fz 156 false 7, .ow 3], .bx [.i .i64 8, .i .i64 9, .i .i64 10, .i .i64 11, .i .i64 12, .ow 4, .ow 5, .ow 6, .s 13, .i .i64 14, .s 15, .s 16], .rw 158 true 17, .rw 158 false 18, .rw 90 true 19, .rw 156 true 20, .rw 158 true 21]⟩⟩] }
noncomputable def Lqbz : Option Nat → Lv → Option Lv := Lim Tryz.prog [] dqbz Tryz.f181
theorem eqbz_i (a0 a1 a2 a3 : Int) (a4 a5 : Rw) (a6 : Int) (a7 : Rw) : Lqbz none [.i a0, .i a1, .i a2, .i a3, .l a4, .l a5, .i a6, .l a7] =
 Lqbz (some 3) [.i a6, .i 0, .i a0, .i a1, .i a2, .i a3, .l a4, .l a5, .i 0, .i 0, .i 0, .i 0, .i 0, .s (⟨#[]⟩ : ByteArray), .i 0, .s (⟨#[]⟩ : ByteArray), .s (⟨#[]⟩ : ByteArray), .l ([] : Rw), .l a7, .l [], .l [], .l []] := (zd _ _).trans (by kernel_rfl)
theorem eqbz_3 (a0 a1 a2 a3 a4 a5 : Int) (a6 a7 : Rw) (a8 a9 a10 a11 a12 : Int) (a13 : ByteArray) (a14 : Int) (a15 a16 : ByteArray) (a17 a18 a19 a20 a21 : Rw) : Lqbz (some 3) [.i a0, .i a1, .i a2, .i a3, .i a4, .i a5, .l a6, .l a7, .i a8, .i a9, .i a10, .i a11, .i a12, .s a13, .i a14, .s a15, .s a16, .l a17, .l a18, .l a19, .l a20, .l a21] =
 cond (decide (a1 < (a18.length : Int))) (
 cond (inb a1 a18.length) (
 cond ((rd a18 a1.toNat 0).int != a0) (
 cond (inb a1 a18.length) (
 cond (decide (a17.length + ([[.i ((rd a18 a1.toNat 0).int), .s ((rd a18 a1.toNat 1).str), .i ((rd a18 a1.toNat 2).int)]] : Rw).length ≤ most)) (
 Lqbz (some 3) [.i a0, .i (IntKind.i64.wrap (a1 + 1)), .i a2, .i a3, .i a4, .i a5, .l a6, .l a7, .i a8, .i a9, .i a10, .i a11, .i a12, .s a13, .i a14, .s a15, .s a16, .l (a17 ++ ([[.i ((rd a18 a1.toNat 0).int), .s ((rd a18 a1.toNat 1).str), .i ((rd a18 a1.toNat 2).int)]] : Rw)), .l a18, .l a19, .l a20, .l a21]) (
 none)) (
 none)) (
 Lqbz (some 3) [.i a0, .i (IntKind.i64.wrap (a1 + 1)), .i a2, .i a3, .i a4, .i a5, .l a6, .l a7, .i a8, .i a9, .i a10, .i a11, .i a12, .s a13, .i a14, .s a15, .s a16, .l a17, .l a18, .l a19, .l a20, .l a21])) (
 none)) (
 cond ((a17.length : Int) == (a18.length : Int)) (
 some [.i 5, .i 0, .i 0, .i 0, .i 0, .l ([]), .l ([]), .s (⟨#[]⟩ : ByteArray), .i 0, .s (⟨#[]⟩ : ByteArray), .s (⟨#[]⟩ : ByteArray), .l []]) (
 some [.i 0, .i a2, .i a3, .i a4, .i a5, .l a6, .l a7, .s (⟨#[]⟩ : ByteArray), .i 0, .s (⟨#[]⟩ : ByteArray), .s (⟨#[]⟩ : ByteArray), .l a17])) := (zd _ _).trans (by kernel_rfl)
theorem kqbz : SigOk Tryz.prog (dqbz.sig (Lqbz none)) ∧ (dqbz.sig (Lqbz none)).ok = true := zf ze (by kernel_rfl) (by kernel_rfl) (by kernel_rfl)
def dqb0 : FD := { fn := 182, nb := 0, pre := ⟨[.ag [.i .i64 0, .i .i64 1, .i .i64 2, .i .i64 3, .fz 90 false 4, .fz 156 false 5, .ow 0], .sc (.i .i64 6)], [.rw 158 false 7]⟩, post := ⟨[.ag [.i .i64 0, .i .i64 1, .i .i64 2, .i .i64 3, .i .i64 4, .fz 90 false 5, .fz 156 false 6, .ow 0, .s 7, .i .i64 8, .s 9, .s 10]], [.rw 158 true 11]⟩, sh := true, cuts := [⟨6, [2, 4, 5, 6], ⟨[.sc (.pt 0 0), .sc (.pt 1 0), .sc (.ow 2), .sc (.i .i64 0)], [.bx [.i .i64 1, .i .i64 2, .i .i64 3, .i .i64 4, .fz 90 false 5, .fz 156 false 6, .ow 3], .bx [.i .i64 7, .i .i64 8, .i .i64 9, .i .i64 10, .i .i64 11, .ow 4, .ow 5, .ow 6, .s 12, .i .i64 13, .s 14, .s 15], .rw 158 true 16, .rw 158 false 17, .rw 90 true 18, .rw 156 true 19, .rw 158 true 20]⟩⟩] }
noncomputable def Lqb0 : Option Nat → Lv → Option Lv := Lim Tryz.prog [] dqb0 Tryz.f182
theorem eqb0_i (a0 a1 a2 a3 : Int) (a4 a5 : Rw) (a6 : Int) (a7 : Rw) : Lqb0 none [.i a0, .i a1, .i a2, .i a3, .l a4, .l a5, .i a6, .l a7] =
 cond (decide (1000000000 < (IntKind.i64.wrap (a1 + a6)))) (
 some [.i 4, .i 0, .i 0, .i 0, .i 0, .l ([]), .l ([]), .s (⟨#[]⟩ : ByteArray), .i 0, .s (⟨#[]⟩ : ByteArray), .s (⟨#[]⟩ : ByteArray), .l []]) (
 Lqb0 (some 6) [.i 0, .i a0, .i (IntKind.i64.wrap (a1 + a6)), .i a2, .i a3, .l a4, .l a5, .i 0, .i 0, .i 0, .i 0, .i 0, .s (⟨#[]⟩ : ByteArray), .i 0, .s (⟨#[]⟩ : ByteArray), .s (⟨#[]⟩ : ByteArray), .l ([] : Rw), .l a7, .l [], .l [], .l []]) := (zd _ _).trans (by kernel_rfl)
theorem eqb0_6 (a0 a1 a2 a3 a4 : Int) (a5 a6 : Rw) (a7 a8 a9 a10 a11 : Int) (a12 : ByteArray) (a13 : Int) (a14 a15 : ByteArray) (a16 a17 a18 a19 a20 : Rw) : Lqb0 (some 6) [.i a0, .i a1, .i a2, .i a3, .i a4, .l a5, .l a6, .i a7, .i a8, .i a9, .i a10, .i a11, .s a12, .i a13, .s a14, .s a15, .l a16, .l a17, .l a18, .l a19, .l a20] =
 cond (decide (a0 < (a17.length : Int))) (
 cond (inb a0 a17.length) (
 cond (decide (a2 < (rd a17 a0.toNat 2).int)) (
 cond (inb a0 a17.length) (
 cond (decide (a16.length + ([[.i ((rd a17 a0.toNat 0).int), .s ((rd a17 a0.toNat 1).str), .i ((rd a17 a0.toNat 2).int)]] : Rw).length ≤ most)) (
 Lqb0 (some 6) [.i (IntKind.i64.wrap (a0 + 1)), .i a1, .i a2, .i a3, .i a4, .l a5, .l a6, .i a7, .i a8, .i a9, .i a10, .i a11, .s a12, .i a13, .s a14, .s a15, .l (a16 ++ ([[.i ((rd a17 a0.toNat 0).int), .s ((rd a17 a0.toNat 1).str), .i ((rd a17 a0.toNat 2).int)]] : Rw)), .l a17, .l a18, .l a19, .l a20]) (
 none)) (
 none)) (
 Lqb0 (some 6) [.i (IntKind.i64.wrap (a0 + 1)), .i a1, .i a2, .i a3, .i a4, .l a5, .l a6, .i a7, .i a8, .i a9, .i a10, .i a11, .s a12, .i a13, .s a14, .s a15, .l a16, .l a17, .l a18, .l a19, .l a20])) (
 none)) (
 some [.i 0, .i a1, .i a2, .i a3, .i a4, .l a5, .l a6, .s (⟨#[]⟩ : ByteArray), .i 0, .s (⟨#[]⟩ : ByteArray), .s (⟨#[]⟩ : ByteArray), .l a16]) := (zd _ _).trans (by kernel_rfl)
theorem kqb0 : SigOk Tryz.prog (dqb0.sig (Lqb0 none)) ∧ (dqb0.sig (Lqb0 none)).ok = true := zf ze (by kernel_rfl) (by kernel_rfl) (by kernel_rfl)
def dqp : FD := { fn := 130, nb := 0, pre := ⟨[.sc (.fz 9 false 0), .sc (.s 1)], []⟩, post := ⟨[.sc (.b 0)], []⟩, sh := false, cuts := [⟨2, [0, 1, 5], ⟨[.sc (.fz 9 false 0), .sc (.s 1), .sc (.i .i64 2)], []⟩⟩] }
noncomputable def Lqp : Option Nat → Lv → Option Lv := Lim Tryz.prog [] dqp Tryz.f130
theorem eqp_i (a0 : Rw) (a1 : ByteArray) : Lqp none [.l a0, .s a1] =
 Lqp (some 2) [.l a0, .s a1, .i 0] := (zd _ _).trans (by kernel_rfl)
theorem eqp_2 (a0 : Rw) (a1 : ByteArray) (a2 : Int) : Lqp (some 2) [.l a0, .s a1, .i a2] =
 cond (decide (a2 < (a0.length : Int))) (
 cond (inb a2 a0.length) (
 cond (Eng.seq ((rd a0 a2.toNat 0).str) a1) (
 some [.b true]) (
 Lqp (some 2) [.l a0, .s a1, .i (IntKind.i64.wrap (a2 + 1))])) (
 none)) (
 some [.b false]) := (zd _ _).trans (by kernel_rfl)
theorem kqp : SigOk Tryz.prog (dqp.sig (Lqp none)) ∧ (dqp.sig (Lqp none)).ok = true := zf ze (by kernel_rfl) (by kernel_rfl) (by kernel_rfl)
def dqw : FD := { fn := 220, nb := 0, pre := ⟨[.ag [.i .i64 0, .i .i64 1, .i .i64 2, .i .i64 3, .fz 90 false 4, .fz 156 false 5, .fz 158 false 6], .sc (.s 7)], []⟩, post := ⟨[.sc (.b 0)], []⟩, sh := false, cuts := [⟨2, [1, 2, 5], ⟨[.sc (.s 0), .sc (.pt 0 0), .sc (.i .i64 1)], [.bx [.i .i64 2, .i .i64 3, .i .i64 4, .i .i64 5, .fz 90 false 6, .fz 156 false 7, .fz 158 false 8]]⟩⟩, ⟨7, [1, 2, 6], ⟨[.sc (.s 0), .sc (.pt 0 0), .sc (.i .i64 1)], [.bx [.i .i64 2, .i .i64 3, .i .i64 4, .i .i64 5, .fz 90 false 6, .fz 156 false 7, .fz 158 false 8]]⟩⟩] }
noncomputable def Lqw : Option Nat → Lv → Option Lv := Lim Tryz.prog [] dqw Tryz.f220
theorem eqw_i (a0 a1 a2 a3 : Int) (a4 a5 a6 : Rw) (a7 : ByteArray) : Lqw none [.i a0, .i a1, .i a2, .i a3, .l a4, .l a5, .l a6, .s a7] =
 Lqw (some 2) [.s a7, .i 0, .i a0, .i a1, .i a2, .i a3, .l a4, .l a5, .l a6] := (zd _ _).trans (by kernel_rfl)
theorem eqw_2 (a0 : ByteArray) (a1 a2 a3 a4 a5 : Int) (a6 a7 a8 : Rw) : Lqw (some 2) [.s a0, .i a1, .i a2, .i a3, .i a4, .i a5, .l a6, .l a7, .l a8] =
 cond (decide (a1 < (a7.length : Int))) (
 cond (inb a1 a7.length) (
 cond (Eng.seq ((rd a7 a1.toNat 1).str) a0) (
 some [.b true]) (
 Lqw (some 2) [.s a0, .i (IntKind.i64.wrap (a1 + 1)), .i a2, .i a3, .i a4, .i a5, .l a6, .l a7, .l a8])) (
 none)) (
 Lqw (some 7) [.s a0, .i 0, .i a2, .i a3, .i a4, .i a5, .l a6, .l a7, .l a8]) := (zd _ _).trans (by kernel_rfl)
theorem eqw_7 (a0 : ByteArray) (a1 a2 a3 a4 a5 : Int) (a6 a7 a8 : Rw) : Lqw (some 7) [.s a0, .i a1, .i a2, .i a3, .i a4, .i a5, .l a6, .l a7, .l a8] =
 cond (decide (a1 < (a8.length : Int))) (
 cond (inb a1 a8.length) (
 cond (Eng.seq ((rd a8 a1.toNat 1).str) a0) (
 some [.b true]) (
 Lqw (some 7) [.s a0, .i (IntKind.i64.wrap (a1 + 1)), .i a2, .i a3, .i a4, .i a5, .l a6, .l a7, .l a8])) (
 none)) (
 some [.b false]) := (zd _ _).trans (by kernel_rfl)
theorem kqw : SigOk Tryz.prog (dqw.sig (Lqw none)) ∧ (dqw.sig (Lqw none)).ok = true := zf ze (by kernel_rfl) (by kernel_rfl) (by kernel_rfl)
def dq7 : FD := { fn := 183, nb := 0, pre := ⟨[.ag [.i .i64 0, .i .i64 1, .i .i64 2, .i .i64 3, .fz 90 false 4, .fz 156 false 5, .ow 0], .sc (.s 6)], [.rw 158 false 7]⟩, post := ⟨[.ag [.i .i64 0, .i .i64 1, .i .i64 2, .i .i64 3, .i .i64 4, .ow 0, .fz 156 false 5, .ow 1, .s 6, .i .i64 7, .s 8, .s 9]], [.rw 90 false 10, .rw 158 false 11]⟩, sh := true, cuts := [⟨7, [1, 2, 4, 5, 6], ⟨[.sc (.s 0), .sc (.pt 0 0), .sc (.pt 1 0), .sc (.ow 2), .sc (.i .i64 1)], [.bx [.i .i64 2, .i .i64 3, .i .i64 4, .i .i64 5, .fz 90 false 6, .fz 156 false 7, .ow 3], .bx [.i .i64 8, .i .i64 9, .i .i64 10, .i .i64 11, .i .i64 12, .ow 4, .ow 5, .ow 6, .s 13, .i .i64 14, .s 15, .s 16], .rw 90 false 17, .rw 158 false 18, .rw 90 true 19, .rw 156 true 20, .rw 158 true 21]⟩⟩] }
noncomputable def Lq7 : Option Nat → Lv → Option Lv := Lim Tryz.prog [dqg.sig (Lqg none), dqp.sig (Lqp none), dqw.sig (Lqw none)] dq7 Tryz.f183
theorem eq7_i (a0 a1 a2 a3 : Int) (a4 a5 : Rw) (a6 : ByteArray) (a7 : Rw) : Lq7 none [.i a0, .i a1, .i a2, .i a3, .l a4, .l a5, .s a6, .l a7] =
 (Lqg none [.i a0, .i a1, .i a2, .i a3, .l a4, .l a5, .l a7, .s a6]).bind fun y1 =>
 cond (decide ((g y1 0).int < 0)) (
 some [.i 2, .i 0, .i 0, .i 0, .i 0, .l ([]), .s (⟨#[]⟩ : ByteArray), .i 0, .s (⟨#[]⟩ : ByteArray), .s (⟨#[]⟩ : ByteArray), .l [], .l []]) (
 (Lqw none [.i a0, .i a1, .i a2, .i a3, .l a4, .l a5, .l a7, .s a6]).bind fun y2 =>
 cond ((g y2 0).bool) (
 some [.i 6, .i 0, .i 0, .i 0, .i 0, .l ([]), .s (⟨#[]⟩ : ByteArray), .i 0, .s (⟨#[]⟩ : ByteArray), .s (⟨#[]⟩ : ByteArray), .l [], .l []]) (
 Lq7 (some 7) [.s a6, .i 0, .i a0, .i a1, .i a2, .i a3, .l a4, .l a5, .i 0, .i 0, .i 0, .i 0, .i 0, .s (⟨#[]⟩ : ByteArray), .i 0, .s (⟨#[]⟩ : ByteArray), .s (⟨#[]⟩ : ByteArray), .l ([] : Rw), .l a7, .l [], .l [], .l []])) := (zd _ _).trans (by kernel_rfl)
theorem eq7_7 (a0 : ByteArray) (a1 a2 a3 a4 a5 : Int) (a6 a7 : Rw) (a8 a9 a10 a11 a12 : Int) (a13 : ByteArray) (a14 : Int) (a15 a16 : ByteArray) (a17 a18 a19 a20 a21 : Rw) : Lq7 (some 7) [.s a0, .i a1, .i a2, .i a3, .i a4, .i a5, .l a6, .l a7, .i a8, .i a9, .i a10, .i a11, .i a12, .s a13, .i a14, .s a15, .s a16, .l a17, .l a18, .l a19, .l a20, .l a21] =
 cond (decide (a1 < (a6.length : Int))) (
 cond (inb a1 a6.length) (
 (Lqp none [.l ((rd a6 a1.toNat 3).list), .s a0]).bind fun y1 =>
 cond ((g y1 0).bool) (
 some [.i 6, .i 0, .i 0, .i 0, .i 0, .l ([]), .s (⟨#[]⟩ : ByteArray), .i 0, .s (⟨#[]⟩ : ByteArray), .s (⟨#[]⟩ : ByteArray), .l [], .l []]) (
 cond (inb a1 a6.length) (
 cond (!Eng.seq ((rd a6 a1.toNat 0).str) a0) (
 cond (inb a1 a6.length) (
 cond (decide (a17.length + ([[.s ((rd a6 a1.toNat 0).str), .i ((rd a6 a1.toNat 1).int), .s ((rd a6 a1.toNat 2).str), .l ((rd a6 a1.toNat 3).list)]] : Rw).length ≤ most)) (
 Lq7 (some 7) [.s a0, .i (IntKind.i64.wrap (a1 + 1)), .i a2, .i a3, .i a4, .i a5, .l a6, .l a7, .i a8, .i a9, .i a10, .i a11, .i a12, .s a13, .i a14, .s a15, .s a16, .l (a17 ++ ([[.s ((rd a6 a1.toNat 0).str), .i ((rd a6 a1.toNat 1).int), .s ((rd a6 a1.toNat 2).str), .l ((rd a6 a1.toNat 3).list)]] : Rw)), .l a18, .l a19, .l a20, .l a21]) (
 none)) (
 none)) (
 Lq7 (some 7) [.s a0, .i (IntKind.i64.wrap (a1 + 1)), .i a2, .i a3, .i a4, .i a5, .l a6, .l a7, .i a8, .i a9, .i a10, .i a11, .i a12, .s a13, .i a14, .s a15, .s a16, .l a17, .l a18, .l a19, .l a20, .l a21])) (
 none))) (
 none)) (
 some [.i 0, .i a2, .i a3, .i a4, .i a5, .l a7, .s (⟨#[]⟩ : ByteArray), .i 0, .s (⟨#[]⟩ : ByteArray), .s (⟨#[]⟩ : ByteArray), .l a17, .l a18]) := (zd _ _).trans (by kernel_rfl)
theorem kq7 : SigOk Tryz.prog (dq7.sig (Lq7 none)) ∧ (dq7.sig (Lq7 none)).ok = true := zf (zb kqg (by kernel_rfl) (zb kqp (by kernel_rfl) (zb kqw (by kernel_rfl) ze))) (by kernel_rfl) (by kernel_rfl) (by kernel_rfl)
end KV
end
section
set_option maxRecDepth 100000
namespace KV
open Go Go.Eng Go.Proofs
def dqcs : FD := { fn := 114, nb := 0, pre := ⟨[.ag [.i .i64 0, .i .i64 1, .i .i64 2, .i .i64 3, .fz 90 false 4, .fz 156 false 5, .ow 0], .ag [.i .i64 6, .s 7, .s 8, .i .i64 9, .s 10, .fz 9 false 11]], [.rw 158 false 12]⟩, post := ⟨[.ag [.i .i64 0, .i .i64 1, .i .i64 2, .i .i64 3, .i .i64 4, .fz 90 false 5, .fz 156 false 6, .ow 0, .s 7, .i .i64 8, .s 9, .s 10]], [.rw 158 false 11]⟩, sh := true, cuts := [] }
noncomputable def Lqcs : Option Nat → Lv → Option Lv := Lim Tryz.prog [dqo.sig (Lqo none), dqg.sig (Lqg none), dqcq.sig (Lqcq none), dqt.sig (Lqt none), dq3.sig (Lq3 none), dqby.sig (Lqby none), dqbz.sig (Lqbz none), dqb0.sig (Lqb0 none), dq7.sig (Lq7 none)] dqcs Tryz.f114
theorem eqcs_i (a0 a1 a2 a3 : Int) (a4 a5 : Rw) (a6 : Int) (a7 a8 : ByteArray) (a9 : Int) (a10 : ByteArray) (a11 a12 : Rw) : Lqcs none [.i a0, .i a1, .i a2, .i a3, .l a4, .l a5, .i a6, .s a7, .s a8, .i a9, .s a10, .l a11, .l a12] =
 cond (a6 == 1) (
 (Lqt none [.i a0, .i a1, .i a2, .i a3, .l a4, .l a5, .i a6, .s a7, .s a8, .i a9, .s a10, .l a11, .l a12]).bind fun y1 =>
 some [.i ((g y1 0).int), .i ((g y1 1).int), .i ((g y1 2).int), .i ((g y1 3).int), .i ((g y1 4).int), .l ((g y1 5).list), .l ((g y1 6).list), .s ((g y1 7).str), .i ((g y1 8).int), .s ((g y1 9).str), .s ((g y1 10).str), .l ((g y1 11).list)]) (
 cond (a6 == 2) (
 (Lq3 none [.i a0, .i a1, .i a2, .i a3, .l a4, .l a5, .i a6, .s a7, .s a8, .i a9, .s a10, .l a11, .l a12]).bind fun y2 =>
 some [.i ((g y2 0).int), .i ((g y2 1).int), .i ((g y2 2).int), .i ((g y2 3).int), .i ((g y2 4).int), .l ((g y2 5).list), .l ((g y2 10).list), .s ((g y2 6).str), .i ((g y2 7).int), .s ((g y2 8).str), .s ((g y2 9).str), .l ((g y2 11).list)]) (
 cond (a6 == 3) (
 (Lqby none [.i a0, .i a1, .i a2, .i a3, .l a4, .l a5, .s a8, .l a12]).bind fun y3 =>
 some [.i ((g y3 0).int), .i ((g y3 1).int), .i ((g y3 2).int), .i ((g y3 3).int), .i ((g y3 4).int), .l ((g y3 5).list), .l ((g y3 10).list), .s ((g y3 6).str), .i ((g y3 7).int), .s ((g y3 8).str), .s ((g y3 9).str), .l ((g y3 11).list)]) (
 cond (a6 == 4) (
 (Lqg none [.i a0, .i a1, .i a2, .i a3, .l a4, .l a5, .l a12, .s a7]).bind fun y4 =>
 cond (decide ((g y4 0).int < 0)) (
 some [.i 2, .i 0, .i 0, .i 0, .i 0, .l ([]), .l ([]), .s (⟨#[]⟩ : ByteArray), .i 0, .s (⟨#[]⟩ : ByteArray), .s (⟨#[]⟩ : ByteArray), .l []]) (
 (Lqo none [.i a0, .i a1, .i a2, .i a3, .l a4, .l a5, .l a12]).bind fun y5 =>
 (Lqcq none [.i ((g y5 0).int), .i ((g y5 1).int), .i ((g y5 2).int), .i ((g y5 3).int), .l ((g y5 4).list), .l ((g y5 5).list), .s a7, .i a9, .l ((g y5 6).list)]).bind fun y6 =>
 some [.i ((g y6 0).int), .i ((g y6 1).int), .i ((g y6 2).int), .i ((g y6 3).int), .i ((g y6 4).int), .l ((g y6 5).list), .l ((g y6 6).list), .s ((g y6 7).str), .i ((g y6 8).int), .s ((g y6 9).str), .s ((g y6 10).str), .l ((g y6 11).list)])) (
 cond (a6 == 5) (
 (Lqbz none [.i a0, .i a1, .i a2, .i a3, .l a4, .l a5, .i a9, .l a12]).bind fun y7 =>
 some [.i ((g y7 0).int), .i ((g y7 1).int), .i ((g y7 2).int), .i ((g y7 3).int), .i ((g y7 4).int), .l ((g y7 5).list), .l ((g y7 6).list), .s ((g y7 7).str), .i ((g y7 8).int), .s ((g y7 9).str), .s ((g y7 10).str), .l ((g y7 11).list)]) (
 cond (a6 == 6) (
 (Lqb0 none [.i a0, .i a1, .i a2, .i a3, .l a4, .l a5, .i a9, .l a12]).bind fun y8 =>
 some [.i ((g y8 0).int), .i ((g y8 1).int), .i ((g y8 2).int), .i ((g y8 3).int), .i ((g y8 4).int), .l ((g y8 5).list), .l ((g y8 6).list), .s ((g y8 7).str), .i ((g y8 8).int), .s ((g y8 9).str), .s ((g y8 10).str), .l ((g y8 11).list)]) (
 (Lq7 none [.i a0, .i a1, .i a2, .i a3, .l a4, .l a5, .s a7, .l a12]).bind fun y9 =>
 some [.i ((g y9 0).int), .i ((g y9 1).int), .i ((g y9 2).int), .i ((g y9 3).int), .i ((g y9 4).int), .l ((g y9 10).list), .l ((g y9 5).list), .s ((g y9 6).str), .i ((g y9 7).int), .s ((g y9 8).str), .s ((g y9 9).str), .l ((g y9 11).list)])))))) := (zd _ _).trans (by kernel_rfl)
theorem kqcs : SigOk Tryz.prog (dqcs.sig (Lqcs none)) ∧ (dqcs.sig (Lqcs none)).ok = true := zf (zb kqo (by kernel_rfl) (zb kqg (by kernel_rfl) (zb kqcq (by kernel_rfl) (zb kqt (by kernel_rfl) (zb kq3 (by kernel_rfl) (zb kqby (by kernel_rfl) (zb kqbz (by kernel_rfl) (zb kqb0 (by kernel_rfl) (zb kq7 (by kernel_rfl) ze))))))))) (by kernel_rfl) (by kernel_rfl) (by kernel_rfl)
def dqb1 : FD := { fn := 34, nb := 0, pre := ⟨[.sc (.i .i64 0), .sc (.fz 9 false 1)], []⟩, post := ⟨[.ag [.i .i64 0, .i .i64 1, .i .i64 2, .i .i64 3, .i .i64 4, .ow 0, .ow 1, .ow 2, .s 5, .i .i64 6, .s 7, .s 8]], [.rw 90 true 9, .rw 156 true 10, .rw 158 true 11]⟩, sh := false, cuts := [⟨5, [0, 1, 4, 5, 6], ⟨[.sc (.i .i64 0), .sc (.fz 9 false 1), .sc (.pt 0 0), .sc (.pt 1 0), .sc (.i .i64 2)], [.bx [.i .i64 3, .i .i64 4, .i .i64 5, .i .i64 6, .i .i64 7, .ow 2, .ow 3, .ow 4, .s 8, .i .i64 9, .s 10, .s 11], .bx [.i .i64 12, .i .i64 13, .i .i64 14, .i .i64 15, .fz 90 true 16, .fz 156 true 17, .ow 5], .rw 90 true 18, .rw 156 true 19, .rw 158 true 20, .rw 158 true 21]⟩⟩] }
noncomputable def Lqb1 : Option Nat → Lv → Option Lv := Lim Tryz.prog [dqh.sig (Lqh none), dqck.sig (Lqck none), dqo.sig (Lqo none), dqcs.sig (Lqcs none)] dqb1 Tryz.f34
theorem eqb1_i (a0 : Int) (a1 : Rw) : Lqb1 none [.i a0, .l a1] =
 (Lqh none [.i a0]).bind fun y1 =>
 cond (!(g y1 0).bool) (
 some [.i 1, .i 0, .i 0, .i 0, .i 0, .s (⟨#[]⟩ : ByteArray), .i 0, .s (⟨#[]⟩ : ByteArray), .s (⟨#[]⟩ : ByteArray), .l [], .l [], .l []]) (
 cond (decide (4000 < (a1.length : Int))) (
 some [.i 1, .i 0, .i 0, .i 0, .i 0, .s (⟨#[]⟩ : ByteArray), .i 0, .s (⟨#[]⟩ : ByteArray), .s (⟨#[]⟩ : ByteArray), .l [], .l [], .l []]) (
 Lqb1 (some 5) [.i a0, .l a1, .i 0, .i 0, .i 0, .i 0, .i 0, .i 0, .s (⟨#[]⟩ : ByteArray), .i 0, .s (⟨#[]⟩ : ByteArray), .s (⟨#[]⟩ : ByteArray), .i a0, .i 0, .i 0, .i 0, .l ([]), .l ([]), .l [], .l [], .l [], .l []])) := (zd _ _).trans (by kernel_rfl)
theorem eqb1_5 (a0 : Int) (a1 : Rw) (a2 a3 a4 a5 a6 a7 : Int) (a8 : ByteArray) (a9 : Int) (a10 a11 : ByteArray) (a12 a13 a14 a15 : Int) (a16 a17 a18 a19 a20 a21 : Rw) : Lqb1 (some 5) [.i a0, .l a1, .i a2, .i a3, .i a4, .i a5, .i a6, .i a7, .s a8, .i a9, .s a10, .s a11, .i a12, .i a13, .i a14, .i a15, .l a16, .l a17, .l a18, .l a19, .l a20, .l a21] =
 cond (decide (a2 < (a1.length : Int))) (
 cond (inb a2 a1.length) (
 (Lqck none [.s ((rd a1 a2.toNat 0).str), .i a0]).bind fun y1 =>
 cond (!(g y1 5).bool) (
 some [.i 7, .i 0, .i 0, .i 0, .i 0, .s (⟨#[]⟩ : ByteArray), .i (IntKind.i64.wrap (a2 + 1)), .s (⟨#[]⟩ : ByteArray), .s (⟨#[]⟩ : ByteArray), .l [], .l [], .l []]) (
 (Lqcs none [.i a12, .i a13, .i a14, .i a15, .l a16, .l a17, .i ((g y1 0).int), .s ((g y1 1).str), .s ((g y1 2).str), .i ((g y1 3).int), .s ((g y1 4).str), .l ((g y1 6).list), .l a21]).bind fun y2 =>
 cond ((g y2 0).int != 0) (
 some [.i 7, .i 0, .i 0, .i 0, .i 0, .s (⟨#[]⟩ : ByteArray), .i (IntKind.i64.wrap (a2 + 1)), .s (⟨#[]⟩ : ByteArray), .s (⟨#[]⟩ : ByteArray), .l [], .l [], .l []]) (
 Lqb1 (some 5) [.i a0, .l a1, .i (IntKind.i64.wrap (a2 + 1)), .i a3, .i a4, .i a5, .i a6, .i a7, .s a8, .i a9, .s a10, .s a11, .i ((g y2 1).int), .i ((g y2 2).int), .i ((g y2 3).int), .i ((g y2 4).int), .l ((g y2 5).list), .l ((g y2 6).list), .l a18, .l a19, .l a20, .l ((g y2 11).list)]))) (
 none)) (
 (Lqo none [.i a12, .i a13, .i a14, .i a15, .l a16, .l a17, .l a21]).bind fun y3 =>
 some [.i 0, .i ((g y3 0).int), .i ((g y3 1).int), .i ((g y3 2).int), .i ((g y3 3).int), .s (⟨#[]⟩ : ByteArray), .i 0, .s (⟨#[]⟩ : ByteArray), .s (⟨#[]⟩ : ByteArray), .l ((g y3 4).list), .l ((g y3 5).list), .l ((g y3 6).list)]) := (zd _ _).trans (by kernel_rfl)
theorem kqb1 : SigOk Tryz.prog (dqb1.sig (Lqb1 none)) ∧ (dqb1.sig (Lqb1 none)).ok = true := zf (zb kqh (by kernel_rfl) (zb kqck (by kernel_rfl) (zb kqo (by kernel_rfl) (zb kqcs (by kernel_rfl) ze)))) (by kernel_rfl) (by kernel_rfl) (by kernel_rfl)
def dqx : FD := { fn := 87, nb := 0, pre := ⟨[.sc (.i .i64 0), .sc (.i .i64 1), .sc (.i .i64 2)], []⟩, post := ⟨[.sc (.b 0)], []⟩, sh := false, cuts := [] }
noncomputable def Lqx : Option Nat → Lv → Option Lv := Lim Tryz.prog [] dqx Tryz.f87
theorem eqx_i (a0 a1 a2 : Int) : Lqx none [.i a0, .i a1, .i a2] =
 cond (decide (a1 ≤ a0)) (
 some [.b (decide (a0 ≤ a2))]) (
 some [.b false]) := (zd _ _).trans (by kernel_rfl)
theorem kqx : SigOk Tryz.prog (dqx.sig (Lqx none)) ∧ (dqx.sig (Lqx none)).ok = true := zf ze (by kernel_rfl) (by kernel_rfl) (by kernel_rfl)
def dqn : FD := { fn := 88, nb := 0, pre := ⟨[.ag [.fz 9 false 0, .fz 9 false 1]], []⟩, post := ⟨[.sc (.b 0)], []⟩, sh := false, cuts := [⟨2, [1, 3], ⟨[.sc (.pt 0 0), .sc (.i .i64 0)], [.bx [.fz 9 false 1, .fz 9 false 2]]⟩⟩, ⟨7, [1, 4], ⟨[.sc (.pt 0 0), .sc (.i .i64 0)], [.bx [.fz 9 false 1, .fz 9 false 2]]⟩⟩] }
noncomputable def Lqn : Option Nat → Lv → Option Lv := Lim Tryz.prog [] dqn Tryz.f88
theorem eqn_i (a0 a1 : Rw) : Lqn none [.l a0, .l a1] =
 Lqn (some 2) [.i 0, .l a0, .l a1] := (zd _ _).trans (by kernel_rfl)
theorem eqn_2 (a0 : Int) (a1 a2 : Rw) : Lqn (some 2) [.i a0, .l a1, .l a2] =
 cond (decide (a0 < (a1.length : Int))) (
 cond (inb a0 a1.length) (
 cond (decide (5000 < (((rd a1 a0.toNat 0).str).size : Int))) (
 some [.b false]) (
 Lqn (some 2) [.i (IntKind.i64.wrap (a0 + 1)), .l a1, .l a2])) (
 none)) (
 Lqn (some 7) [.i 0, .l a1, .l a2]) := (zd _ _).trans (by kernel_rfl)
theorem eqn_7 (a0 : Int) (a1 a2 : Rw) : Lqn (some 7) [.i a0, .l a1, .l a2] =
 cond (decide (a0 < (a2.length : Int))) (
 cond (inb a0 a2.length) (
 cond (decide (5000 < (((rd a2 a0.toNat 0).str).size : Int))) (
 some [.b false]) (
 Lqn (some 7) [.i (IntKind.i64.wrap (a0 + 1)), .l a1, .l a2])) (
 none)) (
 some [.b (decide ((IntKind.i64.wrap ((a1.length : Int) + (a2.length : Int))) ≤ 4000))]) := (zd _ _).trans (by kernel_rfl)
theorem kqn : SigOk Tryz.prog (dqn.sig (Lqn none)) ∧ (dqn.sig (Lqn none)).ok = true := zf ze (by kernel_rfl) (by kernel_rfl) (by kernel_rfl)
def dqcx : FD := { fn := 89, nb := 0, pre := ⟨[.ag [.fz 9 false 0, .fz 9 false 1]], []⟩, post := ⟨[.sc (.ow 0)], [.rw 9 true 0]⟩, sh := false, cuts := [] }
noncomputable def Lqcx : Option Nat → Lv → Option Lv := Lim Tryz.prog [] dqcx Tryz.f89
theorem eqcx_i (a0 a1 : Rw) : Lqcx none [.l a0, .l a1] =
 cond (decide (([] : Rw).length + a0.length ≤ most)) (
 cond (decide ((([] : Rw) ++ a0).length + a1.length ≤ most)) (
 some [.l ((([] : Rw) ++ a0) ++ a1)]) (
 none)) (
 none) := (zd _ _).trans (by kernel_rfl)
theorem kqcx : SigOk Tryz.prog (dqcx.sig (Lqcx none)) ∧ (dqcx.sig (Lqcx none)).ok = true := zf ze (by kernel_rfl) (by kernel_rfl) (by kernel_rfl)
def dqce : FD := { fn := 155, nb := 0, pre := ⟨[.ag [.s 0, .fz 9 false 1], .ag [.s 2, .fz 9 false 3]], []⟩, post := ⟨[.sc (.b 0)], []⟩, sh := false, cuts := [⟨4, [2, 3, 5], ⟨[.sc (.pt 0 0), .sc (.pt 1 0), .sc (.i .i64 0)], [.bx [.s 1, .fz 9 false 2], .bx [.s 3, .fz 9 false 4]]⟩⟩] }
noncomputable def Lqce : Option Nat → Lv → Option Lv := Lim Tryz.prog [] dqce Tryz.f155
theorem eqce_i (a0 : ByteArray) (a1 : Rw) (a2 : ByteArray) (a3 : Rw) : Lqce none [.s a0, .l a1, .s a2, .l a3] =
 cond (!Eng.seq a0 a2) (
 some [.b false]) (
 cond ((a1.length : Int) != (a3.length : Int)) (
 some [.b false]) (
 Lqce (some 4) [.i 0, .s a0, .l a1, .s a2, .l a3])) := (zd _ _).trans (by kernel_rfl)
theorem eqce_4 (a0 : Int) (a1 : ByteArray) (a2 : Rw) (a3 : ByteArray) (a4 : Rw) : Lqce (some 4) [.i a0, .s a1, .l a2, .s a3, .l a4] =
 cond (decide (a0 < (a2.length : Int))) (
 cond (inb a0 a2.length) (
 cond (inb a0 a4.length) (
 cond (!Eng.seq ((rd a2 a0.toNat 0).str) ((rd a4 a0.toNat 0).str)) (
 some [.b false]) (
 Lqce (some 4) [.i (IntKind.i64.wrap (a0 + 1)), .s a1, .l a2, .s a3, .l a4])) (
 none)) (
 none)) (
 some [.b true]) := (zd _ _).trans (by kernel_rfl)
theorem kqce : SigOk Tryz.prog (dqce.sig (Lqce none)) ∧ (dqce.sig (Lqce none)).ok = true := zf ze (by kernel_rfl) (by kernel_rfl) (by kernel_rfl)
def dqk : FD := { fn := 90, nb := 0, pre := ⟨[.ag [.i .i64 0, .i .i64 1, .i .i64 2, .i .i64 3, .fz 90 false 4, .fz 156 false 5, .fz 158 false 6], .ag [.i .i64 7, .i .i64 8, .i .i64 9, .i .i64 10, .fz 90 false 11, .fz 156 false 12, .fz 158 false 13]], []⟩, post := ⟨[.sc (.b 0)], []⟩, sh := false, cuts := [⟨4, [2, 3, 5], ⟨[.sc (.pt 0 0), .sc (.pt 1 0), .sc (.i .i64 0)], [.bx [.i .i64 1, .i .i64 2, .i .i64 3, .i .i64 4, .fz 90 false 5, .fz 156 false 6, .fz 158 false 7], .bx [.i .i64 8, .i .i64 9, .i .i64 10, .i .i64 11, .fz 90 false 12, .fz 156 false 13, .fz 158 false 14]]⟩⟩, ⟨9, [2, 3, 6], ⟨[.sc (.pt 0 0), .sc (.pt 1 0), .sc (.i .i64 0)], [.bx [.i .i64 1, .i .i64 2, .i .i64 3, .i .i64 4, .fz 90 false 5, .fz 156 false 6, .fz 158 false 7], .bx [.i .i64 8, .i .i64 9, .i .i64 10, .i .i64 11, .fz 90 false 12, .fz 156 false 13, .fz 158 false 14]]⟩⟩, ⟨14, [2, 3, 7], ⟨[.sc (.pt 0 0), .sc (.pt 1 0), .sc (.i .i64 0)], [.bx [.i .i64 1, .i .i64 2, .i .i64 3, .i .i64 4, .fz 90 false 5, .fz 156 false 6, .fz 158 false 7], .bx [.i .i64 8, .i .i64 9, .i .i64 10, .i .i64 11, .fz 90 false 12, .fz 156 false 13, .fz 158 false 14]]⟩⟩] }
noncomputable def Lqk : Option Nat → Lv → Option Lv := Lim Tryz.prog [dqce.sig (Lqce none)] dqk Tryz.f90
theorem eqk_i (a0 a1 a2 a3 : Int) (a4 a5 a6 : Rw) (a7 a8 a9 a10 : Int) (a11 a12 a13 : Rw) : Lqk none [.i a0, .i a1, .i a2, .i a3, .l a4, .l a5, .l a6, .i a7, .i a8, .i a9, .i a10, .l a11, .l a12, .l a13] =
 cond (a0 != a7) (
 some [.b false]) (
 cond (a1 != a8) (
 some [.b false]) (
 cond (a2 != a9) (
 some [.b false]) (
 cond (a3 != a10) (
 some [.b false]) (
 cond ((a4.length : Int) != (a11.length : Int)) (
 some [.b false]) (
 cond ((a5.length : Int) != (a12.length : Int)) (
 some [.b false]) (
 cond ((a6.length : Int) != (a13.length : Int)) (
 some [.b false]) (
 Lqk (some 4) [.i 0, .i a0, .i a1, .i a2, .i a3, .l a4, .l a5, .l a6, .i a7, .i a8, .i a9, .i a10, .l a11, .l a12, .l a13]))))))) := (zd _ _).trans (by kernel_rfl)
theorem eqk_4 (a0 a1 a2 a3 a4 : Int) (a5 a6 a7 : Rw) (a8 a9 a10 a11 : Int) (a12 a13 a14 : Rw) : Lqk (some 4) [.i a0, .i a1, .i a2, .i a3, .i a4, .l a5, .l a6, .l a7, .i a8, .i a9, .i a10, .i a11, .l a12, .l a13, .l a14] =
 cond (decide (a0 < (a5.length : Int))) (
 cond (inb a0 a5.length) (
 cond (inb a0 a12.length) (
 cond (!Eng.seq ((rd a5 a0.toNat 0).str) ((rd a12 a0.toNat 0).str)) (
 some [.b false]) (
 cond (inb a0 a5.length) (
 cond (inb a0 a12.length) (
 cond ((rd a5 a0.toNat 1).int != (rd a12 a0.toNat 1).int) (
 some [.b false]) (
 cond (inb a0 a5.length) (
 cond (inb a0 a12.length) (
 (Lqce none [.s ((rd a5 a0.toNat 2).str), .l ((rd a5 a0.toNat 3).list), .s ((rd a12 a0.toNat 2).str), .l ((rd a12 a0.toNat 3).list)]).bind fun y1 =>
 cond (!(g y1 0).bool) (
 some [.b false]) (
 Lqk (some 4) [.i (IntKind.i64.wrap (a0 + 1)), .i a1, .i a2, .i a3, .i a4, .l a5, .l a6, .l a7, .i a8, .i a9, .i a10, .i a11, .l a12, .l a13, .l a14])) (
 none)) (
 none))) (
 none)) (
 none))) (
 none)) (
 none)) (
 Lqk (some 9) [.i 0, .i a1, .i a2, .i a3, .i a4, .l a5, .l a6, .l a7, .i a8, .i a9, .i a10, .i a11, .l a12, .l a13, .l a14]) := (zd _ _).trans (by kernel_rfl)
theorem eqk_9 (a0 a1 a2 a3 a4 : Int) (a5 a6 a7 : Rw) (a8 a9 a10 a11 : Int) (a12 a13 a14 : Rw) : Lqk (some 9) [.i a0, .i a1, .i a2, .i a3, .i a4, .l a5, .l a6, .l a7, .i a8, .i a9, .i a10, .i a11, .l a12, .l a13, .l a14] =
 cond (decide (a0 < (a6.length : Int))) (
 cond (inb a0 a6.length) (
 cond (inb a0 a13.length) (
 cond (!((Eng.seq ((rd a6 a0.toNat 0).str) ((rd a13 a0.toNat 0).str)) && ((Eng.seq ((rd a6 a0.toNat 1).str) ((rd a13 a0.toNat 1).str)) && true))) (
 some [.b false]) (
 Lqk (some 9) [.i (IntKind.i64.wrap (a0 + 1)), .i a1, .i a2, .i a3, .i a4, .l a5, .l a6, .l a7, .i a8, .i a9, .i a10, .i a11, .l a12, .l a13, .l a14])) (
 none)) (
 none)) (
 Lqk (some 14) [.i 0, .i a1, .i a2, .i a3, .i a4, .l a5, .l a6, .l a7, .i a8, .i a9, .i a10, .i a11, .l a12, .l a13, .l a14]) := (zd _ _).trans (by kernel_rfl)
theorem eqk_14 (a0 a1 a2 a3 a4 : Int) (a5 a6 a7 : Rw) (a8 a9 a10 a11 : Int) (a12 a13 a14 : Rw) : Lqk (some 14) [.i a0, .i a1, .i a2, .i a3, .i a4, .l a5, .l a6, .l a7, .i a8, .i a9, .i a10, .i a11, .l a12, .l a13, .l a14] =
 cond (decide (a0 < (a7.length : Int))) (
 cond (inb a0 a7.length) (
 cond (inb a0 a14.length) (
 cond (!(((rd a7 a0.toNat 0).int == (rd a14 a0.toNat 0).int) && ((Eng.seq ((rd a7 a0.toNat 1).str) ((rd a14 a0.toNat 1).str)) && (((rd a7 a0.toNat 2).int == (rd a14 a0.toNat 2).int) && true)))) (
 some [.b false]) (
 Lqk (some 14) [.i (IntKind.i64.wrap (a0 + 1)), .i a1, .i a2, .i a3, .i a4, .l a5, .l a6, .l a7, .i a8, .i a9, .i a10, .i a11, .l a12, .l a13, .l a14])) (
 none)) (
 none)) (
 some [.b true]) := (zd _ _).trans (by kernel_rfl)
theorem kqk : SigOk Tryz.prog (dqk.sig (Lqk none)) ∧ (dqk.sig (Lqk none)).ok = true := zf (zb kqce (by kernel_rfl) ze) (by kernel_rfl) (by kernel_rfl) (by kernel_rfl)
def dqr : FD := { fn := 91, nb := 0, pre := ⟨[.ag [.i .i64 0, .i .i64 1, .i .i64 2, .i .i64 3, .fz 90 false 4, .fz 156 false 5, .fz 158 false 6], .ag [.i .i64 7, .fz 9 false 8, .fz 9 false 9, .i .i64 10, .i .i64 11, .i .i64 12]], []⟩, post := ⟨[.sc (.b 0)], []⟩, sh := false, cuts := [⟨4, [2, 3, 5], ⟨[.sc (.pt 0 0), .sc (.pt 1 0), .sc (.i .i64 0)], [.bx [.i .i64 1, .i .i64 2, .i .i64 3, .i .i64 4, .fz 90 false 5, .fz 156 false 6, .fz 158 false 7], .bx [.i .i64 8, .fz 9 false 9, .fz 9 false 10, .i .i64 11, .i .i64 12, .i .i64 13]]⟩⟩, ⟨9, [2, 3, 6], ⟨[.sc (.pt 0 0), .sc (.pt 1 0), .sc (.i .i64 0)], [.bx [.i .i64 1, .i .i64 2, .i .i64 3, .i .i64 4, .fz 90 false 5, .fz 156 false 6, .fz 158 false 7], .bx [.i .i64 8, .fz 9 false 9, .fz 9 false 10, .i .i64 11, .i .i64 12, .i .i64 13]]⟩⟩] }
noncomputable def Lqr : Option Nat → Lv → Option Lv := Lim Tryz.prog [dqp.sig (Lqp none), dqx.sig (Lqx none)] dqr Tryz.f91
theorem eqr_i (a0 a1 a2 a3 : Int) (a4 a5 a6 : Rw) (a7 : Int) (a8 a9 : Rw) (a10 a11 a12 : Int) : Lqr none [.i a0, .i a1, .i a2, .i a3, .l a4, .l a5, .l a6, .i a7, .l a8, .l a9, .i a10, .i a11, .i a12] =
 cond (decide (a7 < 0)) (
 some [.b false]) (
 cond (decide (2 < a7)) (
 some [.b false]) (
 (Lqx none [.i a12, .i 0, .i 1000000000]).bind fun y1 =>
 cond (!(g y1 0).bool) (
 some [.b false]) (
 cond (decide (23200 < (a8.length : Int))) (
 some [.b false]) (
 cond (decide (600 < (a9.length : Int))) (
 some [.b false]) (
 Lqr (some 4) [.i 0, .i a0, .i a1, .i a2, .i a3, .l a4, .l a5, .l a6, .i a7, .l a8, .l a9, .i a10, .i a11, .i a12]))))) := (zd _ _).trans (by kernel_rfl)
theorem eqr_4 (a0 a1 a2 a3 a4 : Int) (a5 a6 a7 : Rw) (a8 : Int) (a9 a10 : Rw) (a11 a12 a13 : Int) : Lqr (some 4) [.i a0, .i a1, .i a2, .i a3, .i a4, .l a5, .l a6, .l a7, .i a8, .l a9, .l a10, .i a11, .i a12, .i a13] =
 cond (decide (a0 < (a9.length : Int))) (
 cond (inb a0 a9.length) (
 cond ((((rd a9 a0.toNat 0).str).size : Int) != a1) (
 some [.b false]) (
 Lqr (some 4) [.i (IntKind.i64.wrap (a0 + 1)), .i a1, .i a2, .i a3, .i a4, .l a5, .l a6, .l a7, .i a8, .l a9, .l a10, .i a11, .i a12, .i a13])) (
 none)) (
 Lqr (some 9) [.i 0, .i a1, .i a2, .i a3, .i a4, .l a5, .l a6, .l a7, .i a8, .l a9, .l a10, .i a11, .i a12, .i a13]) := (zd _ _).trans (by kernel_rfl)
theorem eqr_9 (a0 a1 a2 a3 a4 : Int) (a5 a6 a7 : Rw) (a8 : Int) (a9 a10 : Rw) (a11 a12 a13 : Int) : Lqr (some 9) [.i a0, .i a1, .i a2, .i a3, .i a4, .l a5, .l a6, .l a7, .i a8, .l a9, .l a10, .i a11, .i a12, .i a13] =
 cond (decide (a0 < (a10.length : Int))) (
 cond (inb a0 a10.length) (
 cond ((((rd a10 a0.toNat 0).str).size : Int) != a1) (
 some [.b false]) (
 cond (decide (0 ≤ a0)) (
 cond (decide (a0 ≤ (a10.length : Int))) (
 cond (inb a0 a10.length) (
 (Lqp none [.l (Eng.sub a10 0 a0.toNat), .s ((rd a10 a0.toNat 0).str)]).bind fun y1 =>
 cond ((g y1 0).bool) (
 some [.b false]) (
 Lqr (some 9) [.i (IntKind.i64.wrap (a0 + 1)), .i a1, .i a2, .i a3, .i a4, .l a5, .l a6, .l a7, .i a8, .l a9, .l a10, .i a11, .i a12, .i a13])) (
 none)) (
 none)) (
 none))) (
 none)) (
 cond (a8 == 0) (
 cond ((a9.length : Int) == 0) (
 cond ((a10.length : Int) == 0) (
 cond (a11 == 0) (
 some [.b (a12 == 0)]) (
 some [.b false])) (
 some [.b false])) (
 some [.b false])) (
 (Lqx none [.i a11, .i 0, .i a4]).bind fun y2 =>
 cond (!(g y2 0).bool) (
 some [.b false]) (
 (Lqx none [.i a12, .i 1, .i (IntKind.i64.wrap (a11 + 1))]).bind fun y3 =>
 cond (!(g y3 0).bool) (
 some [.b false]) (
 cond (a8 == 2) (
 some [.b true]) (
 some [.b (a12 == (IntKind.i64.wrap (a11 + 1)))]))))) := (zd _ _).trans (by kernel_rfl)
theorem kqr : SigOk Tryz.prog (dqr.sig (Lqr none)) ∧ (dqr.sig (Lqr none)).ok = true := zf (zb kqp (by kernel_rfl) (zb kqx (by kernel_rfl) ze)) (by kernel_rfl) (by kernel_rfl) (by kernel_rfl)
def dqbf : FD := { fn := 19, nb := 0, pre := ⟨[.ag [.i .i64 0, .i .i64 1, .fz 9 false 2, .fz 9 false 3, .i .i64 4, .i .i64 5, .i .i64 6, .i .i64 7, .fz 90 false 8, .fz 156 false 9, .fz 158 false 10, .i .i64 11, .fz 9 false 12, .fz 9 false 13, .i .i64 14, .i .i64 15, .i .i64 16]], []⟩, post := ⟨[.sc (.b 0)], []⟩, sh := false, cuts := [] }
noncomputable def Lqbf : Option Nat → Lv → Option Lv := Lim Tryz.prog [dqh.sig (Lqh none), dqb1.sig (Lqb1 none), dqx.sig (Lqx none), dqn.sig (Lqn none), dqcx.sig (Lqcx none), dqk.sig (Lqk none), dqr.sig (Lqr none)] dqbf Tryz.f19
theorem eqbf_i (a0 a1 : Int) (a2 a3 : Rw) (a4 a5 a6 a7 : Int) (a8 a9 a10 : Rw) (a11 : Int) (a12 a13 : Rw) (a14 a15 a16 : Int) : Lqbf none [.i a0, .i a1, .l a2, .l a3, .i a4, .i a5, .i a6, .i a7, .l a8, .l a9, .l a10, .i a11, .l a12, .l a13, .i a14, .i a15, .i a16] =
 (Lqh none [.i a0]).bind fun y1 =>
 cond (!(g y1 0).bool) (
 some [.b false]) (
 (Lqx none [.i a1, .i 0, .i 1000000]).bind fun y2 =>
 cond (!(g y2 0).bool) (
 some [.b false]) (
 (Lqn none [.l a2, .l a3]).bind fun y3 =>
 cond (!(g y3 0).bool) (
 some [.b false]) (
 (Lqcx none [.l a2, .l a3]).bind fun y4 =>
 (Lqb1 none [.i a0, .l ((g y4 0).list)]).bind fun y5 =>
 cond ((g y5 0).int == 0) (
 (Lqk none [.i ((g y5 1).int), .i ((g y5 2).int), .i ((g y5 3).int), .i ((g y5 4).int), .l ((g y5 9).list), .l ((g y5 10).list), .l ((g y5 11).list), .i a4, .i a5, .i a6, .i a7, .l a8, .l a9, .l a10]).bind fun y6 =>
 cond ((g y6 0).bool) (
 (Lqr none [.i a4, .i a5, .i a6, .i a7, .l a8, .l a9, .l a10, .i a11, .l a12, .l a13, .i a14, .i a15, .i a16]).bind fun y7 =>
 some [.b ((g y7 0).bool)]) (
 some [.b false])) (
 some [.b false])))) := (zd _ _).trans (by kernel_rfl)
theorem kqbf : SigOk Tryz.prog (dqbf.sig (Lqbf none)) ∧ (dqbf.sig (Lqbf none)).ok = true := zf (zb kqh (by kernel_rfl) (zb kqb1 (by kernel_rfl) (zb kqx (by kernel_rfl) (zb kqn (by kernel_rfl) (zb kqcx (by kernel_rfl) (zb kqk (by kernel_rfl) (zb kqr (by kernel_rfl) ze))))))) (by kernel_rfl) (by kernel_rfl) (by kernel_rfl)
def dqcy : FD := { fn := 206, nb := 0, pre := ⟨[.ag [.fz 9 false 0, .fz 9 false 1]], []⟩, post := ⟨[.ag [.ow 0, .ow 1]], [.rw 9 true 0, .rw 9 true 1]⟩, sh := false, cuts := [] }
noncomputable def Lqcy : Option Nat → Lv → Option Lv := Lim Tryz.prog [] dqcy Tryz.f206
theorem eqcy_i (a0 a1 : Rw) : Lqcy none [.l a0, .l a1] =
 cond (decide (([] : Rw).length + a0.length ≤ most)) (
 cond (decide (([] : Rw).length + a1.length ≤ most)) (
 some [.l (([] : Rw) ++ a0), .l (([] : Rw) ++ a1)]) (
 none)) (
 none) := (zd _ _).trans (by kernel_rfl)
theorem kqcy : SigOk Tryz.prog (dqcy.sig (Lqcy none)) ∧ (dqcy.sig (Lqcy none)).ok = true := zf ze (by kernel_rfl) (by kernel_rfl) (by kernel_rfl)
def dqbg : FD := { fn := 207, nb := 0, pre := ⟨[.ag [.i .i64 0, .fz 9 false 1, .fz 9 false 2, .i .i64 3, .i .i64 4, .i .i64 5]], []⟩, post := ⟨[.ag [.i .i64 0, .ow 0, .ow 1, .i .i64 1, .i .i64 2, .i .i64 3]], [.rw 9 true 4, .rw 9 true 5]⟩, sh := false, cuts := [] }
noncomputable def Lqbg : Option Nat → Lv → Option Lv := Lim Tryz.prog [] dqbg Tryz.f207
theorem eqbg_i (a0 : Int) (a1 a2 : Rw) (a3 a4 a5 : Int) : Lqbg none [.i a0, .l a1, .l a2, .i a3, .i a4, .i a5] =
 cond (decide (([] : Rw).length + a1.length ≤ most)) (
 cond (decide (([] : Rw).length + a2.length ≤ most)) (
 some [.i a0, .i a3, .i a4, .i a5, .l (([] : Rw) ++ a1), .l (([] : Rw) ++ a2)]) (
 none)) (
 none) := (zd _ _).trans (by kernel_rfl)
theorem kqbg : SigOk Tryz.prog (dqbg.sig (Lqbg none)) ∧ (dqbg.sig (Lqbg none)).ok = true := zf ze (by kernel_rfl) (by kernel_rfl) (by kernel_rfl)
def dqbv : FD := { fn := 156, nb := 0, pre := ⟨[.ag [.i .i64 0, .i .i64 1, .fz 9 false 2, .fz 9 false 3, .i .i64 4, .i .i64 5, .i .i64 6, .i .i64 7, .fz 90 false 8, .fz 156 false 9, .fz 158 false 10, .i .i64 11, .fz 9 false 12, .fz 9 false 13, .i .i64 14, .i .i64 15, .i .i64 16]], []⟩, post := ⟨[.ag [.i .i64 0, .i .i64 1, .ow 0, .ow 1, .i .i64 2, .i .i64 3, .i .i64 4, .i .i64 5, .ow 2, .ow 3, .ow 4, .i .i64 6, .ow 5, .ow 6, .i .i64 7, .i .i64 8, .i .i64 9]], [.rw 9 true 10, .rw 9 true 11, .rw 90 true 12, .rw 156 true 13, .rw 158 true 14, .rw 9 true 15, .rw 9 true 16]⟩, sh := false, cuts := [] }
noncomputable def Lqbv : Option Nat → Lv → Option Lv := Lim Tryz.prog [dqo.sig (Lqo none), dqcy.sig (Lqcy none), dqbg.sig (Lqbg none)] dqbv Tryz.f156
theorem eqbv_i (a0 a1 : Int) (a2 a3 : Rw) (a4 a5 a6 a7 : Int) (a8 a9 a10 : Rw) (a11 : Int) (a12 a13 : Rw) (a14 a15 a16 : Int) : Lqbv none [.i a0, .i a1, .l a2, .l a3, .i a4, .i a5, .i a6, .i a7, .l a8, .l a9, .l a10, .i a11, .l a12, .l a13, .i a14, .i a15, .i a16] =
 (Lqcy none [.l a2, .l a3]).bind fun y1 =>
 (Lqo none [.i a4, .i a5, .i a6, .i a7, .l a8, .l a9, .l a10]).bind fun y2 =>
 (Lqbg none [.i a11, .l a12, .l a13, .i a14, .i a15, .i a16]).bind fun y3 =>
 some [.i a0, .i a1, .i ((g y2 0).int), .i ((g y2 1).int), .i ((g y2 2).int), .i ((g y2 3).int), .i ((g y3 0).int), .i ((g y3 1).int), .i ((g y3 2).int), .i ((g y3 3).int), .l ((g y1 0).list), .l ((g y1 1).list), .l ((g y2 4).list), .l ((g y2 5).list), .l ((g y2 6).list), .l ((g y3 4).list), .l ((g y3 5).list)] := (zd _ _).trans (by kernel_rfl)
theorem kqbv : SigOk Tryz.prog (dqbv.sig (Lqbv none)) ∧ (dqbv.sig (Lqbv none)).ok = true := zf (zb kqo (by kernel_rfl) (zb kqcy (by kernel_rfl) (zb kqbg (by kernel_rfl) ze))) (by kernel_rfl) (by kernel_rfl) (by kernel_rfl)
def dqcf : FD := { fn := 202, nb := 0, pre := ⟨[.ag [.i .i64 0, .i .i64 1, .i .i64 2, .i .i64 3, .fz 90 false 4, .fz 156 false 5, .fz 158 false 6]], []⟩, post := ⟨[.sc (.i .i64 0)], []⟩, sh := false, cuts := [⟨3, [1, 3, 4], ⟨[.sc (.pt 0 0), .sc (.i .i64 0), .sc (.i .i64 1)], [.bx [.i .i64 2, .i .i64 3, .i .i64 4, .i .i64 5, .fz 90 false 6, .fz 156 false 7, .fz 158 false 8]]⟩⟩] }
noncomputable def Lqcf : Option Nat → Lv → Option Lv := Lim Tryz.prog [] dqcf Tryz.f202
theorem eqcf_i (a0 a1 a2 a3 : Int) (a4 a5 a6 : Rw) : Lqcf none [.i a0, .i a1, .i a2, .i a3, .l a4, .l a5, .l a6] =
 Lqcf (some 3) [.i 0, .i 0, .i a0, .i a1, .i a2, .i a3, .l a4, .l a5, .l a6] := (zd _ _).trans (by kernel_rfl)
theorem eqcf_3 (a0 a1 a2 a3 a4 a5 : Int) (a6 a7 a8 : Rw) : Lqcf (some 3) [.i a0, .i a1, .i a2, .i a3, .i a4, .i a5, .l a6, .l a7, .l a8] =
 cond (decide (a1 < (a6.length : Int))) (
 cond (inb a1 a6.length) (
 cond (inb a1 a6.length) (
 Lqcf (some 3) [.i (IntKind.i64.wrap ((IntKind.i64.wrap ((IntKind.i64.wrap (a0 + 1)) + (IntKind.i64.wrap ((((rd a6 a1.toNat 3).list).length : Int) * a2)))) + (((rd a6 a1.toNat 2).str).size : Int))), .i (IntKind.i64.wrap (a1 + 1)), .i a2, .i a3, .i a4, .i a5, .l a6, .l a7, .l a8]) (
 none)) (
 none)) (
 some [.i a0]) := (zd _ _).trans (by kernel_rfl)
theorem kqcf : SigOk Tryz.prog (dqcf.sig (Lqcf none)) ∧ (dqcf.sig (Lqcf none)).ok = true := zf ze (by kernel_rfl) (by kernel_rfl) (by kernel_rfl)
def dqc5 : FD := { fn := 203, nb := 0, pre := ⟨[.ag [.i .i64 0, .i .i64 1, .i .i64 2, .i .i64 3, .fz 90 false 4, .fz 156 false 5, .fz 158 false 6], .ag [.i .i64 7, .fz 9 false 8, .fz 9 false 9, .i .i64 10, .i .i64 11, .i .i64 12], .sc (.s 13)], []⟩, post := ⟨[.ag [.i .i64 0, .ow 0, .ow 1, .i .i64 1, .i .i64 2, .i .i64 3]], [.rw 9 true 4, .rw 9 true 5]⟩, sh := false, cuts := [] }
noncomputable def Lqc5 : Option Nat → Lv → Option Lv := Lim Tryz.prog [dqg.sig (Lqg none), dqp.sig (Lqp none), dqbg.sig (Lqbg none)] dqc5 Tryz.f203
theorem eqc5_i (a0 a1 a2 a3 : Int) (a4 a5 a6 : Rw) (a7 : Int) (a8 a9 : Rw) (a10 a11 a12 : Int) (a13 : ByteArray) : Lqc5 none [.i a0, .i a1, .i a2, .i a3, .l a4, .l a5, .l a6, .i a7, .l a8, .l a9, .i a10, .i a11, .i a12, .s a13] =
 cond (a7 == 0) (
 (Lqbg none [.i a7, .l a8, .l a9, .i a10, .i a11, .i a12]).bind fun y1 =>
 some [.i ((g y1 0).int), .i ((g y1 1).int), .i ((g y1 2).int), .i ((g y1 3).int), .l ((g y1 4).list), .l ((g y1 5).list)]) (
 (Lqg none [.i a0, .i a1, .i a2, .i a3, .l a4, .l a5, .l a6, .s a13]).bind fun y2 =>
 cond (decide ((g y2 0).int < 0)) (
 (Lqbg none [.i a7, .l a8, .l a9, .i a10, .i a11, .i a12]).bind fun y3 =>
 some [.i ((g y3 0).int), .i ((g y3 1).int), .i ((g y3 2).int), .i ((g y3 3).int), .l ((g y3 4).list), .l ((g y3 5).list)]) (
 (Lqp none [.l a9, .s a13]).bind fun y4 =>
 cond ((g y4 0).bool) (
 (Lqbg none [.i a7, .l a8, .l a9, .i a10, .i a11, .i a12]).bind fun y5 =>
 some [.i ((g y5 0).int), .i ((g y5 1).int), .i ((g y5 2).int), .i ((g y5 3).int), .l ((g y5 4).list), .l ((g y5 5).list)]) (
 cond (decide (23200 ≤ (a8.length : Int))) (
 (Lqbg none [.i a7, .l a8, .l a9, .i a10, .i a11, .i a12]).bind fun y6 =>
 some [.i ((g y6 0).int), .i ((g y6 1).int), .i ((g y6 2).int), .i ((g y6 3).int), .l ((g y6 4).list), .l ((g y6 5).list)]) (
 (Lqbg none [.i a7, .l a8, .l a9, .i a10, .i a11, .i a12]).bind fun y7 =>
 cond (decide (((g y7 4).list).length + ([[.s a13]] : Rw).length ≤ most)) (
 some [.i ((g y7 0).int), .i ((g y7 1).int), .i ((g y7 2).int), .i ((g y7 3).int), .l ((g y7 4).list ++ ([[.s a13]] : Rw)), .l ((g y7 5).list)]) (
 none))))) := (zd _ _).trans (by kernel_rfl)
theorem kqc5 : SigOk Tryz.prog (dqc5.sig (Lqc5 none)) ∧ (dqc5.sig (Lqc5 none)).ok = true := zf (zb kqg (by kernel_rfl) (zb kqp (by kernel_rfl) (zb kqbg (by kernel_rfl) ze))) (by kernel_rfl) (by kernel_rfl) (by kernel_rfl)
end KV
end
section
set_option maxRecDepth 100000
namespace KV
open Go Go.Eng Go.Proofs
def dql : FD := { fn := 147, nb := 0, pre := ⟨[.ag [.i .i64 0, .i .i64 1, .fz 9 false 2, .fz 9 false 3, .i .i64 4, .i .i64 5, .i .i64 6, .i .i64 7, .fz 90 false 8, .fz 156 false 9, .fz 158 false 10, .i .i64 11, .fz 9 false 12, .fz 9 false 13, .i .i64 14, .i .i64 15, .i .i64 16], .ag [.i .i64 17, .s 18, .s 19, .i .i64 20, .s 21, .fz 9 false 22]], []⟩, post := ⟨[.ag [.i .i64 0, .i .i64 1, .i .i64 2, .ow 0, .ow 1, .i .i64 3, .i .i64 4, .i .i64 5, .i .i64 6, .ow 2, .ow 3, .ow 4, .i .i64 7, .ow 5, .ow 6, .i .i64 8, .i .i64 9, .i .i64 10, .s 11, .i .i64 12, .s 13, .s 14]], [.rw 9 true 15, .rw 9 true 16, .rw 90 true 17, .rw 156 true 18, .rw 158 true 19, .rw 9 true 20, .rw 9 true 21]⟩, sh := false, cuts := [⟨25, [4, 6, 7, 8], ⟨[.sc (.pt 0 0), .sc (.pt 1 0), .sc (.pt 2 0), .sc (.s 0)], [.bx [.i .i64 1, .i .i64 2, .i .i64 3, .ow 11, .ow 12, .i .i64 4, .i .i64 5, .i .i64 6, .i .i64 7, .ow 13, .ow 14, .ow 15, .i .i64 8, .ow 16, .ow 17, .i .i64 9, .i .i64 10, .i .i64 11, .s 12, .i .i64 13, .s 14, .s 15], .bx [.i .i64 16, .i .i64 17, .i .i64 18, .i .i64 19, .i .i64 20, .fz 90 false 21, .fz 156 false 22, .ow 3, .s 23, .i .i64 24, .s 25, .s 26], .bx [.i .i64 27, .i .i64 28, .ow 4, .ow 5, .i .i64 29, .i .i64 30, .i .i64 31, .i .i64 32, .ow 6, .ow 7, .ow 8, .i .i64 33, .ow 9, .ow 10, .i .i64 34, .i .i64 35, .i .i64 36], .rw 158 false 37, .rw 9 true 38, .rw 9 true 39, .rw 90 true 40, .rw 156 true 41, .rw 158 true 42, .rw 9 true 43, .rw 9 true 44, .rw 9 true 45, .rw 9 true 46, .rw 90 true 47, .rw 156 true 48, .rw 158 true 49, .rw 9 true 50, .rw 9 true 51]⟩⟩] }
noncomputable def Lql : Option Nat → Lv → Option Lv := Lim Tryz.prog [dqu.sig (Lqu none), dqv.sig (Lqv none), dqo.sig (Lqo none), dqcs.sig (Lqcs none), dqbf.sig (Lqbf none), dqbv.sig (Lqbv none), dqcf.sig (Lqcf none), dqc5.sig (Lqc5 none)] dql Tryz.f147
theorem eql_i (a0 a1 : Int) (a2 a3 : Rw) (a4 a5 a6 a7 : Int) (a8 a9 a10 : Rw) (a11 : Int) (a12 a13 : Rw) (a14 a15 a16 a17 : Int) (a18 a19 : ByteArray) (a20 : Int) (a21 : ByteArray) (a22 : Rw) : Lql none [.i a0, .i a1, .l a2, .l a3, .i a4, .i a5, .i a6, .i a7, .l a8, .l a9, .l a10, .i a11, .l a12, .l a13, .i a14, .i a15, .i a16, .i a17, .s a18, .s a19, .i a20, .s a21, .l a22] =
 (Lqbf none [.i a0, .i a1, .l a2, .l a3, .i a4, .i a5, .i a6, .i a7, .l a8, .l a9, .l a10, .i a11, .l a12, .l a13, .i a14, .i a15, .i a16]).bind fun y1 =>
 cond (!(g y1 0).bool) (
 some [.i 1, .i 0, .i 0, .i 0, .i 0, .i 0, .i 0, .i 0, .i 0, .i 0, .i 0, .s (⟨#[]⟩ : ByteArray), .i 0, .s (⟨#[]⟩ : ByteArray), .s (⟨#[]⟩ : ByteArray), .l [], .l [], .l [], .l [], .l [], .l [], .l []]) (
 (Lqbv none [.i a0, .i a1, .l a2, .l a3, .i a4, .i a5, .i a6, .i a7, .l a8, .l a9, .l a10, .i a11, .l a12, .l a13, .i a14, .i a15, .i a16]).bind fun y2 =>
 (Lqu none [.i a17, .s a18, .s a19, .i a20, .s a21, .l a22, .i a0]).bind fun y3 =>
 cond (!(g y3 0).bool) (
 some [.i 1, .i ((g y2 0).int), .i ((g y2 1).int), .i ((g y2 2).int), .i ((g y2 3).int), .i ((g y2 4).int), .i ((g y2 5).int), .i ((g y2 6).int), .i ((g y2 7).int), .i ((g y2 8).int), .i ((g y2 9).int), .s (⟨#[]⟩ : ByteArray), .i 0, .s (⟨#[]⟩ : ByteArray), .s (⟨#[]⟩ : ByteArray), .l ((g y2 10).list), .l ((g y2 11).list), .l ((g y2 12).list), .l ((g y2 13).list), .l ((g y2 14).list), .l ((g y2 15).list), .l ((g y2 16).list)]) (
 (Lqo none [.i a4, .i a5, .i a6, .i a7, .l a8, .l a9, .l a10]).bind fun y4 =>
 (Lqcs none [.i ((g y4 0).int), .i ((g y4 1).int), .i ((g y4 2).int), .i ((g y4 3).int), .l ((g y4 4).list), .l ((g y4 5).list), .i a17, .s a18, .s a19, .i a20, .s a21, .l a22, .l ((g y4 6).list)]).bind fun y5 =>
 cond ((g y5 0).int != 0) (
 some [.i ((g y5 0).int), .i ((g y2 0).int), .i ((g y2 1).int), .i ((g y2 2).int), .i ((g y2 3).int), .i ((g y2 4).int), .i ((g y2 5).int), .i ((g y2 6).int), .i ((g y2 7).int), .i ((g y2 8).int), .i ((g y2 9).int), .s (⟨#[]⟩ : ByteArray), .i 0, .s ((g y5 9).str), .s ((g y5 10).str), .l ((g y2 10).list), .l ((g y2 11).list), .l ((g y2 12).list), .l ((g y2 13).list), .l ((g y2 14).list), .l ((g y2 15).list), .l ((g y2 16).list)]) (
 cond (a17 == 1) (
 (Lqcf none [.i ((g y5 1).int), .i ((g y5 2).int), .i ((g y5 3).int), .i ((g y5 4).int), .l ((g y5 5).list), .l ((g y5 6).list), .l ((g y5 11).list)]).bind fun y6 =>
 cond (decide (a1 < (g y6 0).int)) (
 some [.i 8, .i ((g y2 0).int), .i ((g y2 1).int), .i ((g y2 2).int), .i ((g y2 3).int), .i ((g y2 4).int), .i ((g y2 5).int), .i ((g y2 6).int), .i ((g y2 7).int), .i ((g y2 8).int), .i ((g y2 9).int), .s (⟨#[]⟩ : ByteArray), .i 0, .s (⟨#[]⟩ : ByteArray), .s (⟨#[]⟩ : ByteArray), .l ((g y2 10).list), .l ((g y2 11).list), .l ((g y2 12).list), .l ((g y2 13).list), .l ((g y2 14).list), .l ((g y2 15).list), .l ((g y2 16).list)]) (
 cond (decide (4000 ≤ (IntKind.i64.wrap ((a2.length : Int) + (a3.length : Int))))) (
 some [.i 9, .i ((g y2 0).int), .i ((g y2 1).int), .i ((g y2 2).int), .i ((g y2 3).int), .i ((g y2 4).int), .i ((g y2 5).int), .i ((g y2 6).int), .i ((g y2 7).int), .i ((g y2 8).int), .i ((g y2 9).int), .s (⟨#[]⟩ : ByteArray), .i 0, .s (⟨#[]⟩ : ByteArray), .s (⟨#[]⟩ : ByteArray), .l ((g y2 10).list), .l ((g y2 11).list), .l ((g y2 12).list), .l ((g y2 13).list), .l ((g y2 14).list), .l ((g y2 15).list), .l ((g y2 16).list)]) (
 (Lqbv none [.i a0, .i a1, .l a2, .l a3, .i a4, .i a5, .i a6, .i a7, .l a8, .l a9, .l a10, .i a11, .l a12, .l a13, .i a14, .i a15, .i a16]).bind fun y7 =>
 (Lqv none [.i a17, .s a18, .s a19, .i a20, .s a21, .l a22, .i a0]).bind fun y8 =>
 cond (decide (((g y7 11).list).length + ([[.s ((g y8 0).str)]] : Rw).length ≤ most)) (
 (Lqo none [.i ((g y5 1).int), .i ((g y5 2).int), .i ((g y5 3).int), .i ((g y5 4).int), .l ((g y5 5).list), .l ((g y5 6).list), .l ((g y5 11).list)]).bind fun y9 =>
 cond (a17 == 1) (
 Lql (some 25) [.s ((g y5 7).str), .i 0, .i 0, .i 0, .i 0, .i 0, .i 0, .i 0, .i 0, .i 0, .i 0, .i 0, .s (⟨#[]⟩ : ByteArray), .i 0, .s (⟨#[]⟩ : ByteArray), .s (⟨#[]⟩ : ByteArray), .i ((g y5 0).int), .i ((g y5 1).int), .i ((g y5 2).int), .i ((g y5 3).int), .i ((g y5 4).int), .l ((g y5 5).list), .l ((g y5 6).list), .s ((g y5 7).str), .i ((g y5 8).int), .s ((g y5 9).str), .s ((g y5 10).str), .i ((g y7 0).int), .i ((g y7 1).int), .i ((g y9 0).int), .i ((g y9 1).int), .i ((g y9 2).int), .i ((g y9 3).int), .i ((g y7 6).int), .i ((g y7 7).int), .i ((g y7 8).int), .i ((g y7 9).int), .l ((g y5 11).list), .l ((g y7 10).list), .l ((g y7 11).list ++ ([[.s ((g y8 0).str)]] : Rw)), .l ((g y9 4).list), .l ((g y9 5).list), .l ((g y9 6).list), .l ((g y7 15).list), .l ((g y7 16).list), .l [], .l [], .l [], .l [], .l [], .l [], .l []]) (
 Lql (some 25) [.s a18, .i 0, .i 0, .i 0, .i 0, .i 0, .i 0, .i 0, .i 0, .i 0, .i 0, .i 0, .s (⟨#[]⟩ : ByteArray), .i 0, .s (⟨#[]⟩ : ByteArray), .s (⟨#[]⟩ : ByteArray), .i ((g y5 0).int), .i ((g y5 1).int), .i ((g y5 2).int), .i ((g y5 3).int), .i ((g y5 4).int), .l ((g y5 5).list), .l ((g y5 6).list), .s ((g y5 7).str), .i ((g y5 8).int), .s ((g y5 9).str), .s ((g y5 10).str), .i ((g y7 0).int), .i ((g y7 1).int), .i ((g y9 0).int), .i ((g y9 1).int), .i ((g y9 2).int), .i ((g y9 3).int), .i ((g y7 6).int), .i ((g y7 7).int), .i ((g y7 8).int), .i ((g y7 9).int), .l ((g y5 11).list), .l ((g y7 10).list), .l ((g y7 11).list ++ ([[.s ((g y8 0).str)]] : Rw)), .l ((g y9 4).list), .l ((g y9 5).list), .l ((g y9 6).list), .l ((g y7 15).list), .l ((g y7 16).list), .l [], .l [], .l [], .l [], .l [], .l [], .l []])) (
 none)))) (
 cond (decide (4000 ≤ (IntKind.i64.wrap ((a2.length : Int) + (a3.length : Int))))) (
 some [.i 9, .i ((g y2 0).int), .i ((g y2 1).int), .i ((g y2 2).int), .i ((g y2 3).int), .i ((g y2 4).int), .i ((g y2 5).int), .i ((g y2 6).int), .i ((g y2 7).int), .i ((g y2 8).int), .i ((g y2 9).int), .s (⟨#[]⟩ : ByteArray), .i 0, .s (⟨#[]⟩ : ByteArray), .s (⟨#[]⟩ : ByteArray), .l ((g y2 10).list), .l ((g y2 11).list), .l ((g y2 12).list), .l ((g y2 13).list), .l ((g y2 14).list), .l ((g y2 15).list), .l ((g y2 16).list)]) (
 (Lqbv none [.i a0, .i a1, .l a2, .l a3, .i a4, .i a5, .i a6, .i a7, .l a8, .l a9, .l a10, .i a11, .l a12, .l a13, .i a14, .i a15, .i a16]).bind fun y10 =>
 (Lqv none [.i a17, .s a18, .s a19, .i a20, .s a21, .l a22, .i a0]).bind fun y11 =>
 cond (decide (((g y10 11).list).length + ([[.s ((g y11 0).str)]] : Rw).length ≤ most)) (
 (Lqo none [.i ((g y5 1).int), .i ((g y5 2).int), .i ((g y5 3).int), .i ((g y5 4).int), .l ((g y5 5).list), .l ((g y5 6).list), .l ((g y5 11).list)]).bind fun y12 =>
 cond (a17 == 1) (
 Lql (some 25) [.s ((g y5 7).str), .i 0, .i 0, .i 0, .i 0, .i 0, .i 0, .i 0, .i 0, .i 0, .i 0, .i 0, .s (⟨#[]⟩ : ByteArray), .i 0, .s (⟨#[]⟩ : ByteArray), .s (⟨#[]⟩ : ByteArray), .i ((g y5 0).int), .i ((g y5 1).int), .i ((g y5 2).int), .i ((g y5 3).int), .i ((g y5 4).int), .l ((g y5 5).list), .l ((g y5 6).list), .s ((g y5 7).str), .i ((g y5 8).int), .s ((g y5 9).str), .s ((g y5 10).str), .i ((g y10 0).int), .i ((g y10 1).int), .i ((g y12 0).int), .i ((g y12 1).int), .i ((g y12 2).int), .i ((g y12 3).int), .i ((g y10 6).int), .i ((g y10 7).int), .i ((g y10 8).int), .i ((g y10 9).int), .l ((g y5 11).list), .l ((g y10 10).list), .l ((g y10 11).list ++ ([[.s ((g y11 0).str)]] : Rw)), .l ((g y12 4).list), .l ((g y12 5).list), .l ((g y12 6).list), .l ((g y10 15).list), .l ((g y10 16).list), .l [], .l [], .l [], .l [], .l [], .l [], .l []]) (
 Lql (some 25) [.s a18, .i 0, .i 0, .i 0, .i 0, .i 0, .i 0, .i 0, .i 0, .i 0, .i 0, .i 0, .s (⟨#[]⟩ : ByteArray), .i 0, .s (⟨#[]⟩ : ByteArray), .s (⟨#[]⟩ : ByteArray), .i ((g y5 0).int), .i ((g y5 1).int), .i ((g y5 2).int), .i ((g y5 3).int), .i ((g y5 4).int), .l ((g y5 5).list), .l ((g y5 6).list), .s ((g y5 7).str), .i ((g y5 8).int), .s ((g y5 9).str), .s ((g y5 10).str), .i ((g y10 0).int), .i ((g y10 1).int), .i ((g y12 0).int), .i ((g y12 1).int), .i ((g y12 2).int), .i ((g y12 3).int), .i ((g y10 6).int), .i ((g y10 7).int), .i ((g y10 8).int), .i ((g y10 9).int), .l ((g y5 11).list), .l ((g y10 10).list), .l ((g y10 11).list ++ ([[.s ((g y11 0).str)]] : Rw)), .l ((g y12 4).list), .l ((g y12 5).list), .l ((g y12 6).list), .l ((g y10 15).list), .l ((g y10 16).list), .l [], .l [], .l [], .l [], .l [], .l [], .l []])) (
 none)))))) := (zd _ _).trans (by kernel_rfl)
theorem eql_25 (a0 : ByteArray) (a1 a2 a3 a4 a5 a6 a7 a8 a9 a10 a11 : Int) (a12 : ByteArray) (a13 : Int) (a14 a15 : ByteArray) (a16 a17 a18 a19 a20 : Int) (a21 a22 : Rw) (a23 : ByteArray) (a24 : Int) (a25 a26 : ByteArray) (a27 a28 a29 a30 a31 a32 a33 a34 a35 a36 : Int) (a37 a38 a39 a40 a41 a42 a43 a44 a45 a46 a47 a48 a49 a50 a51 : Rw) : Lql (some 25) [.s a0, .i a1, .i a2, .i a3, .i a4, .i a5, .i a6, .i a7, .i a8, .i a9, .i a10, .i a11, .s a12, .i a13, .s a14, .s a15, .i a16, .i a17, .i a18, .i a19, .i a20, .l a21, .l a22, .s a23, .i a24, .s a25, .s a26, .i a27, .i a28, .i a29, .i a30, .i a31, .i a32, .i a33, .i a34, .i a35, .i a36, .l a37, .l a38, .l a39, .l a40, .l a41, .l a42, .l a43, .l a44, .l a45, .l a46, .l a47, .l a48, .l a49, .l a50, .l a51] =
 cond (!Eng.seq a0 (⟨#[]⟩ : ByteArray)) (
 (Lqc5 none [.i a29, .i a30, .i a31, .i a32, .l a40, .l a41, .l a42, .i a33, .l a43, .l a44, .i a34, .i a35, .i a36, .s a0]).bind fun y1 =>
 some [.i 0, .i a27, .i a28, .i a29, .i a30, .i a31, .i a32, .i ((g y1 0).int), .i ((g y1 1).int), .i ((g y1 2).int), .i ((g y1 3).int), .s a23, .i a24, .s (⟨#[]⟩ : ByteArray), .s (⟨#[]⟩ : ByteArray), .l a38, .l a39, .l a40, .l a41, .l a42, .l ((g y1 4).list), .l ((g y1 5).list)]) (
 some [.i 0, .i a27, .i a28, .i a29, .i a30, .i a31, .i a32, .i a33, .i a34, .i a35, .i a36, .s a23, .i a24, .s (⟨#[]⟩ : ByteArray), .s (⟨#[]⟩ : ByteArray), .l a38, .l a39, .l a40, .l a41, .l a42, .l a43, .l a44]) := (zd _ _).trans (by kernel_rfl)
theorem kql : SigOk Tryz.prog (dql.sig (Lql none)) ∧ (dql.sig (Lql none)).ok = true := zf (zb kqu (by kernel_rfl) (zb kqv (by kernel_rfl) (zb kqo (by kernel_rfl) (zb kqcs (by kernel_rfl) (zb kqbf (by kernel_rfl) (zb kqbv (by kernel_rfl) (zb kqcf (by kernel_rfl) (zb kqc5 (by kernel_rfl) ze)))))))) (by kernel_rfl) (by kernel_rfl) (by kernel_rfl)
def dqco : FD := { fn := 61, nb := 0, pre := ⟨[.ag [.i .i64 0, .i .i64 1, .fz 9 false 2, .fz 9 false 3, .i .i64 4, .i .i64 5, .i .i64 6, .i .i64 7, .fz 90 false 8, .fz 156 false 9, .fz 158 false 10, .i .i64 11, .fz 9 false 12, .fz 9 false 13, .i .i64 14, .i .i64 15, .i .i64 16], .ag [.s 17, .fz 9 false 18], .sc (.i .i64 19)], []⟩, post := ⟨[.ag [.i .i64 0, .i .i64 1, .i .i64 2, .ow 0, .ow 1, .i .i64 3, .i .i64 4, .i .i64 5, .i .i64 6, .ow 2, .ow 3, .ow 4, .i .i64 7, .ow 5, .ow 6, .i .i64 8, .i .i64 9, .i .i64 10, .s 11, .i .i64 12, .s 13, .s 14]], [.rw 9 true 15, .rw 9 true 16, .rw 90 true 17, .rw 156 true 18, .rw 158 true 19, .rw 9 true 20, .rw 9 true 21]⟩, sh := false, cuts := [] }
noncomputable def Lqco : Option Nat → Lv → Option Lv := Lim Tryz.prog [dqbu.sig (Lqbu none), dql.sig (Lql none)] dqco Tryz.f61
theorem eqco_i (a0 a1 : Int) (a2 a3 : Rw) (a4 a5 a6 a7 : Int) (a8 a9 a10 : Rw) (a11 : Int) (a12 a13 : Rw) (a14 a15 a16 : Int) (a17 : ByteArray) (a18 : Rw) (a19 : Int) : Lqco none [.i a0, .i a1, .l a2, .l a3, .i a4, .i a5, .i a6, .i a7, .l a8, .l a9, .l a10, .i a11, .l a12, .l a13, .i a14, .i a15, .i a16, .s a17, .l a18, .i a19] =
 (Lqbu none [.s a17, .l a18]).bind fun y1 =>
 (Lql none [.i a0, .i a1, .l a2, .l a3, .i a4, .i a5, .i a6, .i a7, .l a8, .l a9, .l a10, .i a11, .l a12, .l a13, .i a14, .i a15, .i a16, .i 1, .s (⟨#[]⟩ : ByteArray), .s (⟨#[]⟩ : ByteArray), .i a19, .s ((g y1 0).str), .l ((g y1 1).list)]).bind fun y2 =>
 some [.i ((g y2 0).int), .i ((g y2 1).int), .i ((g y2 2).int), .i ((g y2 3).int), .i ((g y2 4).int), .i ((g y2 5).int), .i ((g y2 6).int), .i ((g y2 7).int), .i ((g y2 8).int), .i ((g y2 9).int), .i ((g y2 10).int), .s ((g y2 11).str), .i ((g y2 12).int), .s ((g y2 13).str), .s ((g y2 14).str), .l ((g y2 15).list), .l ((g y2 16).list), .l ((g y2 17).list), .l ((g y2 18).list), .l ((g y2 19).list), .l ((g y2 20).list), .l ((g y2 21).list)] := (zd _ _).trans (by kernel_rfl)
theorem kqco : SigOk Tryz.prog (dqco.sig (Lqco none)) ∧ (dqco.sig (Lqco none)).ok = true := zf (zb kqbu (by kernel_rfl) (zb kql (by kernel_rfl) ze)) (by kernel_rfl) (by kernel_rfl) (by kernel_rfl)
def dqbd : FD := { fn := 56, nb := 0, pre := ⟨[.sc (.fz 9 false 0), .sc (.fz 9 false 1)], []⟩, post := ⟨[.sc (.b 0)], []⟩, sh := false, cuts := [⟨4, [0, 1, 5], ⟨[.sc (.fz 9 false 0), .sc (.fz 9 false 1), .sc (.i .i64 2)], []⟩⟩] }
noncomputable def Lqbd : Option Nat → Lv → Option Lv := Lim Tryz.prog [] dqbd Tryz.f56
theorem eqbd_i (a0 a1 : Rw) : Lqbd none [.l a0, .l a1] =
 cond ((a0.length : Int) != (a1.length : Int)) (
 some [.b false]) (
 Lqbd (some 4) [.l a0, .l a1, .i 0]) := (zd _ _).trans (by kernel_rfl)
theorem eqbd_4 (a0 a1 : Rw) (a2 : Int) : Lqbd (some 4) [.l a0, .l a1, .i a2] =
 cond (decide (a2 < (a0.length : Int))) (
 cond (inb a2 a0.length) (
 cond (inb a2 a1.length) (
 cond (!Eng.seq ((rd a0 a2.toNat 0).str) ((rd a1 a2.toNat 0).str)) (
 some [.b false]) (
 Lqbd (some 4) [.l a0, .l a1, .i (IntKind.i64.wrap (a2 + 1))])) (
 none)) (
 none)) (
 some [.b true]) := (zd _ _).trans (by kernel_rfl)
theorem kqbd : SigOk Tryz.prog (dqbd.sig (Lqbd none)) ∧ (dqbd.sig (Lqbd none)).ok = true := zf ze (by kernel_rfl) (by kernel_rfl) (by kernel_rfl)
def dqct : FD := { fn := 65, nb := 0, pre := ⟨[.ag [.s 0, .fz 9 false 1], .ag [.s 2, .fz 9 false 3]], []⟩, post := ⟨[.sc (.b 0)], []⟩, sh := false, cuts := [] }
noncomputable def Lqct : Option Nat → Lv → Option Lv := Lim Tryz.prog [dqbd.sig (Lqbd none)] dqct Tryz.f65
theorem eqct_i (a0 : ByteArray) (a1 : Rw) (a2 : ByteArray) (a3 : Rw) : Lqct none [.s a0, .l a1, .s a2, .l a3] =
 cond (Eng.seq a0 a2) (
 (Lqbd none [.l a1, .l a3]).bind fun y1 =>
 some [.b ((g y1 0).bool)]) (
 some [.b false]) := (zd _ _).trans (by kernel_rfl)
theorem kqct : SigOk Tryz.prog (dqct.sig (Lqct none)) ∧ (dqct.sig (Lqct none)).ok = true := zf (zb kqbd (by kernel_rfl) ze) (by kernel_rfl) (by kernel_rfl) (by kernel_rfl)
def dqm : FD := { fn := 35, nb := 0, pre := ⟨[.ag [.i .i64 0, .i .i64 1, .i .i64 2, .i .i64 3, .fz 90 false 4, .fz 156 false 5, .fz 158 false 6], .ag [.i .i64 7, .i .i64 8, .i .i64 9, .i .i64 10, .fz 90 false 11, .fz 156 false 12, .fz 158 false 13]], []⟩, post := ⟨[.sc (.b 0)], []⟩, sh := false, cuts := [⟨4, [2, 3, 5], ⟨[.sc (.pt 0 0), .sc (.pt 1 0), .sc (.i .i64 0)], [.bx [.i .i64 1, .i .i64 2, .i .i64 3, .i .i64 4, .fz 90 false 5, .fz 156 false 6, .fz 158 false 7], .bx [.i .i64 8, .i .i64 9, .i .i64 10, .i .i64 11, .fz 90 false 12, .fz 156 false 13, .fz 158 false 14]]⟩⟩, ⟨9, [2, 3, 6], ⟨[.sc (.pt 0 0), .sc (.pt 1 0), .sc (.i .i64 0)], [.bx [.i .i64 1, .i .i64 2, .i .i64 3, .i .i64 4, .fz 90 false 5, .fz 156 false 6, .fz 158 false 7], .bx [.i .i64 8, .i .i64 9, .i .i64 10, .i .i64 11, .fz 90 false 12, .fz 156 false 13, .fz 158 false 14]]⟩⟩, ⟨14, [2, 3, 7], ⟨[.sc (.pt 0 0), .sc (.pt 1 0), .sc (.i .i64 0)], [.bx [.i .i64 1, .i .i64 2, .i .i64 3, .i .i64 4, .fz 90 false 5, .fz 156 false 6, .fz 158 false 7], .bx [.i .i64 8, .i .i64 9, .i .i64 10, .i .i64 11, .fz 90 false 12, .fz 156 false 13, .fz 158 false 14]]⟩⟩] }
noncomputable def Lqm : Option Nat → Lv → Option Lv := Lim Tryz.prog [dqct.sig (Lqct none)] dqm Tryz.f35
theorem eqm_i (a0 a1 a2 a3 : Int) (a4 a5 a6 : Rw) (a7 a8 a9 a10 : Int) (a11 a12 a13 : Rw) : Lqm none [.i a0, .i a1, .i a2, .i a3, .l a4, .l a5, .l a6, .i a7, .i a8, .i a9, .i a10, .l a11, .l a12, .l a13] =
 cond (a0 != a7) (
 some [.b false]) (
 cond (a1 != a8) (
 some [.b false]) (
 cond (a2 != a9) (
 some [.b false]) (
 cond (a3 != a10) (
 some [.b false]) (
 cond ((a4.length : Int) != (a11.length : Int)) (
 some [.b false]) (
 cond ((a5.length : Int) != (a12.length : Int)) (
 some [.b false]) (
 cond ((a6.length : Int) != (a13.length : Int)) (
 some [.b false]) (
 Lqm (some 4) [.i 0, .i a0, .i a1, .i a2, .i a3, .l a4, .l a5, .l a6, .i a7, .i a8, .i a9, .i a10, .l a11, .l a12, .l a13]))))))) := (zd _ _).trans (by kernel_rfl)
theorem eqm_4 (a0 a1 a2 a3 a4 : Int) (a5 a6 a7 : Rw) (a8 a9 a10 a11 : Int) (a12 a13 a14 : Rw) : Lqm (some 4) [.i a0, .i a1, .i a2, .i a3, .i a4, .l a5, .l a6, .l a7, .i a8, .i a9, .i a10, .i a11, .l a12, .l a13, .l a14] =
 cond (decide (a0 < (a5.length : Int))) (
 cond (inb a0 a5.length) (
 cond (inb a0 a12.length) (
 cond (!Eng.seq ((rd a5 a0.toNat 0).str) ((rd a12 a0.toNat 0).str)) (
 some [.b false]) (
 cond (inb a0 a5.length) (
 cond (inb a0 a12.length) (
 cond ((rd a5 a0.toNat 1).int != (rd a12 a0.toNat 1).int) (
 some [.b false]) (
 cond (inb a0 a5.length) (
 cond (inb a0 a12.length) (
 (Lqct none [.s ((rd a5 a0.toNat 2).str), .l ((rd a5 a0.toNat 3).list), .s ((rd a12 a0.toNat 2).str), .l ((rd a12 a0.toNat 3).list)]).bind fun y1 =>
 cond (!(g y1 0).bool) (
 some [.b false]) (
 Lqm (some 4) [.i (IntKind.i64.wrap (a0 + 1)), .i a1, .i a2, .i a3, .i a4, .l a5, .l a6, .l a7, .i a8, .i a9, .i a10, .i a11, .l a12, .l a13, .l a14])) (
 none)) (
 none))) (
 none)) (
 none))) (
 none)) (
 none)) (
 Lqm (some 9) [.i 0, .i a1, .i a2, .i a3, .i a4, .l a5, .l a6, .l a7, .i a8, .i a9, .i a10, .i a11, .l a12, .l a13, .l a14]) := (zd _ _).trans (by kernel_rfl)
theorem eqm_9 (a0 a1 a2 a3 a4 : Int) (a5 a6 a7 : Rw) (a8 a9 a10 a11 : Int) (a12 a13 a14 : Rw) : Lqm (some 9) [.i a0, .i a1, .i a2, .i a3, .i a4, .l a5, .l a6, .l a7, .i a8, .i a9, .i a10, .i a11, .l a12, .l a13, .l a14] =
 cond (decide (a0 < (a6.length : Int))) (
 cond (inb a0 a6.length) (
 cond (inb a0 a13.length) (
 cond (!((Eng.seq ((rd a6 a0.toNat 0).str) ((rd a13 a0.toNat 0).str)) && ((Eng.seq ((rd a6 a0.toNat 1).str) ((rd a13 a0.toNat 1).str)) && true))) (
 some [.b false]) (
 Lqm (some 9) [.i (IntKind.i64.wrap (a0 + 1)), .i a1, .i a2, .i a3, .i a4, .l a5, .l a6, .l a7, .i a8, .i a9, .i a10, .i a11, .l a12, .l a13, .l a14])) (
 none)) (
 none)) (
 Lqm (some 14) [.i 0, .i a1, .i a2, .i a3, .i a4, .l a5, .l a6, .l a7, .i a8, .i a9, .i a10, .i a11, .l a12, .l a13, .l a14]) := (zd _ _).trans (by kernel_rfl)
theorem eqm_14 (a0 a1 a2 a3 a4 : Int) (a5 a6 a7 : Rw) (a8 a9 a10 a11 : Int) (a12 a13 a14 : Rw) : Lqm (some 14) [.i a0, .i a1, .i a2, .i a3, .i a4, .l a5, .l a6, .l a7, .i a8, .i a9, .i a10, .i a11, .l a12, .l a13, .l a14] =
 cond (decide (a0 < (a7.length : Int))) (
 cond (inb a0 a7.length) (
 cond (inb a0 a14.length) (
 cond (!(((rd a7 a0.toNat 0).int == (rd a14 a0.toNat 0).int) && ((Eng.seq ((rd a7 a0.toNat 1).str) ((rd a14 a0.toNat 1).str)) && (((rd a7 a0.toNat 2).int == (rd a14 a0.toNat 2).int) && true)))) (
 some [.b false]) (
 Lqm (some 14) [.i (IntKind.i64.wrap (a0 + 1)), .i a1, .i a2, .i a3, .i a4, .l a5, .l a6, .l a7, .i a8, .i a9, .i a10, .i a11, .l a12, .l a13, .l a14])) (
 none)) (
 none)) (
 some [.b true]) := (zd _ _).trans (by kernel_rfl)
theorem kqm : SigOk Tryz.prog (dqm.sig (Lqm none)) ∧ (dqm.sig (Lqm none)).ok = true := zf (zb kqct (by kernel_rfl) ze) (by kernel_rfl) (by kernel_rfl) (by kernel_rfl)
def dqc6 : FD := { fn := 50, nb := 0, pre := ⟨[.ag [.i .i64 0, .fz 9 false 1, .fz 9 false 2, .i .i64 3, .i .i64 4, .i .i64 5], .ag [.i .i64 6, .fz 9 false 7, .fz 9 false 8, .i .i64 9, .i .i64 10, .i .i64 11]], []⟩, post := ⟨[.sc (.b 0)], []⟩, sh := false, cuts := [] }
noncomputable def Lqc6 : Option Nat → Lv → Option Lv := Lim Tryz.prog [dqbd.sig (Lqbd none)] dqc6 Tryz.f50
theorem eqc6_i (a0 : Int) (a1 a2 : Rw) (a3 a4 a5 a6 : Int) (a7 a8 : Rw) (a9 a10 a11 : Int) : Lqc6 none [.i a0, .l a1, .l a2, .i a3, .i a4, .i a5, .i a6, .l a7, .l a8, .i a9, .i a10, .i a11] =
 cond (a0 == a6) (
 cond (a3 == a9) (
 cond (a4 == a10) (
 cond (a5 == a11) (
 (Lqbd none [.l a1, .l a7]).bind fun y1 =>
 cond ((g y1 0).bool) (
 (Lqbd none [.l a2, .l a8]).bind fun y2 =>
 some [.b ((g y2 0).bool)]) (
 some [.b false])) (
 some [.b false])) (
 some [.b false])) (
 some [.b false])) (
 some [.b false]) := (zd _ _).trans (by kernel_rfl)
theorem kqc6 : SigOk Tryz.prog (dqc6.sig (Lqc6 none)) ∧ (dqc6.sig (Lqc6 none)).ok = true := zf (zb kqbd (by kernel_rfl) ze) (by kernel_rfl) (by kernel_rfl) (by kernel_rfl)
def dqc7 : FD := { fn := 20, nb := 0, pre := ⟨[.ag [.i .i64 0, .i .i64 1, .fz 9 false 2, .fz 9 false 3, .i .i64 4, .i .i64 5, .i .i64 6, .i .i64 7, .fz 90 false 8, .fz 156 false 9, .fz 158 false 10, .i .i64 11, .fz 9 false 12, .fz 9 false 13, .i .i64 14, .i .i64 15, .i .i64 16], .ag [.i .i64 17, .i .i64 18, .fz 9 false 19, .fz 9 false 20, .i .i64 21, .i .i64 22, .i .i64 23, .i .i64 24, .fz 90 false 25, .fz 156 false 26, .fz 158 false 27, .i .i64 28, .fz 9 false 29, .fz 9 false 30, .i .i64 31, .i .i64 32, .i .i64 33]], []⟩, post := ⟨[.sc (.b 0)], []⟩, sh := false, cuts := [] }
noncomputable def Lqc7 : Option Nat → Lv → Option Lv := Lim Tryz.prog [dqbd.sig (Lqbd none), dqm.sig (Lqm none), dqc6.sig (Lqc6 none)] dqc7 Tryz.f20
theorem eqc7_i (a0 a1 : Int) (a2 a3 : Rw) (a4 a5 a6 a7 : Int) (a8 a9 a10 : Rw) (a11 : Int) (a12 a13 : Rw) (a14 a15 a16 a17 a18 : Int) (a19 a20 : Rw) (a21 a22 a23 a24 : Int) (a25 a26 a27 : Rw) (a28 : Int) (a29 a30 : Rw) (a31 a32 a33 : Int) : Lqc7 none [.i a0, .i a1, .l a2, .l a3, .i a4, .i a5, .i a6, .i a7, .l a8, .l a9, .l a10, .i a11, .l a12, .l a13, .i a14, .i a15, .i a16, .i a17, .i a18, .l a19, .l a20, .i a21, .i a22, .i a23, .i a24, .l a25, .l a26, .l a27, .i a28, .l a29, .l a30, .i a31, .i a32, .i a33] =
 cond (a0 == a17) (
 cond (a1 == a18) (
 (Lqbd none [.l a2, .l a19]).bind fun y1 =>
 cond ((g y1 0).bool) (
 (Lqbd none [.l a3, .l a20]).bind fun y2 =>
 cond ((g y2 0).bool) (
 (Lqm none [.i a4, .i a5, .i a6, .i a7, .l a8, .l a9, .l a10, .i a21, .i a22, .i a23, .i a24, .l a25, .l a26, .l a27]).bind fun y3 =>
 cond ((g y3 0).bool) (
 (Lqc6 none [.i a11, .l a12, .l a13, .i a14, .i a15, .i a16, .i a28, .l a29, .l a30, .i a31, .i a32, .i a33]).bind fun y4 =>
 some [.b ((g y4 0).bool)]) (
 some [.b false])) (
 some [.b false])) (
 some [.b false])) (
 some [.b false])) (
 some [.b false]) := (zd _ _).trans (by kernel_rfl)
theorem kqc7 : SigOk Tryz.prog (dqc7.sig (Lqc7 none)) ∧ (dqc7.sig (Lqc7 none)).ok = true := zf (zb kqbd (by kernel_rfl) (zb kqm (by kernel_rfl) (zb kqc6 (by kernel_rfl) ze))) (by kernel_rfl) (by kernel_rfl) (by kernel_rfl)
def dqcr : FD := { fn := 26, nb := 0, pre := ⟨[.ag [.i .i64 0, .i .i64 1, .fz 9 false 2, .fz 9 false 3, .i .i64 4, .i .i64 5, .i .i64 6, .i .i64 7, .fz 90 false 8, .fz 156 false 9, .fz 158 false 10, .i .i64 11, .fz 9 false 12, .fz 9 false 13, .i .i64 14, .i .i64 15, .i .i64 16], .sc (.s 17)], []⟩, post := ⟨[.tu [(true, [.s 0, .ow 0]), (false, [.b 1])]], [.rw 9 true 2]⟩, sh := false, cuts := [] }
noncomputable def Lqcr : Option Nat → Lv → Option Lv := Lim Tryz.prog [dqbk.sig (Lqbk none), dqz.sig (Lqz none), dqbs.sig (Lqbs none)] dqcr Tryz.f26
theorem eqcr_i (a0 a1 : Int) (a2 a3 : Rw) (a4 a5 a6 a7 : Int) (a8 a9 a10 : Rw) (a11 : Int) (a12 a13 : Rw) (a14 a15 a16 : Int) (a17 : ByteArray) : Lqcr none [.i a0, .i a1, .l a2, .l a3, .i a4, .i a5, .i a6, .i a7, .l a8, .l a9, .l a10, .i a11, .l a12, .l a13, .i a14, .i a15, .i a16, .s a17] =
 (Lqbs none [.i a0, .i a1, .l a2, .l a3, .i a4, .i a5, .i a6, .i a7, .l a8, .l a9, .l a10, .i a11, .l a12, .l a13, .i a14, .i a15, .i a16]).bind fun y1 =>
 cond (!(g y1 0).bool) (
 some [.s (⟨#[]⟩ : ByteArray), .b false, .l []]) (
 (Lqbk none [.s a17, .i a4, .i a5, .i a6, .i a7, .l a8, .l a9, .l a10]).bind fun y2 =>
 cond (!(g y2 1).bool) (
 some [.s (⟨#[]⟩ : ByteArray), .b false, .l []]) (
 cond (inb ((g y2 0).int) a8.length) (
 (Lqz none [.l ((rd a8 (((g y2 0).int).toNat) 3).list)]).bind fun y3 =>
 some [.s ((rd a8 (((g y2 0).int).toNat) 2).str), .b true, .l ((g y3 0).list)]) (
 none))) := (zd _ _).trans (by kernel_rfl)
theorem kqcr : SigOk Tryz.prog (dqcr.sig (Lqcr none)) ∧ (dqcr.sig (Lqcr none)).ok = true := zf (zb kqbk (by kernel_rfl) (zb kqz (by kernel_rfl) (zb kqbs (by kernel_rfl) ze))) (by kernel_rfl) (by kernel_rfl) (by kernel_rfl)
def dqc8 : FD := { fn := 73, nb := 0, pre := ⟨[.sc (.fz 5 false 0)], []⟩, post := ⟨[.sc (.pt 0 0)], [.bx [.fz 5 false 0, .i .i64 1]]⟩, sh := true, cuts := [] }
noncomputable def Lqc8 : Option Nat → Lv → Option Lv := Lim Tryz.prog [] dqc8 Tryz.f73
theorem eqc8_i (a0 : Rw) : Lqc8 none [.l a0] =
 cond (decide (2000 < (a0.length : Int))) (
 cond (decide (2000 ≤ (a0.length : Int))) (
 some [.l (Eng.sub a0 0 2000), .i 0]) (
 none)) (
 some [.l a0, .i 0]) := (zd _ _).trans (by kernel_rfl)
theorem kqc8 : SigOk Tryz.prog (dqc8.sig (Lqc8 none)) ∧ (dqc8.sig (Lqc8 none)).ok = true := zf ze (by kernel_rfl) (by kernel_rfl) (by kernel_rfl)
def dqb : FD := { fn := 74, nb := 1, pre := ⟨[.sc (.pt 0 0), .sc (.i .i64 0)], [.bx [.fz 5 false 1, .i .i64 2]]⟩, post := ⟨[.sc (.i .i64 0)], [.bx [.fz 5 false 1, .i .i64 2]]⟩, sh := true, cuts := [] }
noncomputable def Lqb : Option Nat → Lv → Option Lv := Lim Tryz.prog [] dqb Tryz.f74
theorem eqb_i (a0 : Int) (a1 : Rw) (a2 : Int) : Lqb none [.i a0, .l a1, .i a2] =
 cond (decide (a0 < 1)) (
 some [.i 0, .l a1, .i (IntKind.i64.wrap (a2 + 1))]) (
 cond ((a1.length : Int) == 0) (
 some [.i 0, .l a1, .i (IntKind.i64.wrap (a2 + 1))]) (
 cond (decide ((IntKind.i64.wrap ((IntKind.i64.wrap (a2 + 1)) - 1)) < (a1.length : Int))) (
 cond (inb (IntKind.i64.wrap ((IntKind.i64.wrap (a2 + 1)) - 1)) a1.length) (
 cond (a0 != 0) (
 some [.i ((IntKind.i64.wrap ((rd a1 ((IntKind.i64.wrap ((IntKind.i64.wrap (a2 + 1)) - 1)).toNat) 0).int)).tmod a0), .l a1, .i (IntKind.i64.wrap (a2 + 1))]) (
 none)) (
 none)) (
 cond ((a1.length : Int) != 0) (
 cond (inb ((IntKind.i64.wrap ((IntKind.i64.wrap (a2 + 1)) - 1)).tmod (a1.length : Int)) a1.length) (
 cond ((a1.length : Int) != 0) (
 cond (inb ((IntKind.i64.wrap ((IntKind.i64.wrap ((IntKind.i64.wrap ((IntKind.i64.wrap (a2 + 1)) - 1)) * 7)) + 3)).tmod (a1.length : Int)) a1.length) (
 cond ((a1.length : Int) != 0) (
 cond (a0 != 0) (
 some [.i ((IntKind.i64.wrap (BitVec.ofInt (IntKind.i64).bits (IntKind.i64.wrap ((IntKind.i64.wrap ((IntKind.i64.wrap ((IntKind.i64.wrap ((IntKind.i64.wrap ((rd a1 (((IntKind.i64.wrap ((IntKind.i64.wrap (a2 + 1)) - 1)).tmod (a1.length : Int)).toNat) 0).int)) * 131)) + (IntKind.i64.wrap ((IntKind.i64.wrap ((rd a1 (((IntKind.i64.wrap ((IntKind.i64.wrap ((IntKind.i64.wrap ((IntKind.i64.wrap (a2 + 1)) - 1)) * 7)) + 3)).tmod (a1.length : Int)).toNat) 0).int)) * 1117)))) + (IntKind.i64.wrap ((IntKind.i64.wrap ((IntKind.i64.wrap (a2 + 1)) - 1)) * 29)))) + (IntKind.i64.wrap ((IntKind.i64.wrap ((IntKind.i64.wrap ((IntKind.i64.wrap (a2 + 1)) - 1)).tdiv (a1.length : Int))) * 53)))) ^^^ BitVec.ofInt (IntKind.i64).bits (IntKind.i64.wrap ((IntKind.i64.wrap ((IntKind.i64.wrap ((IntKind.i64.wrap ((IntKind.i64.wrap ((IntKind.i64.wrap ((rd a1 (((IntKind.i64.wrap ((IntKind.i64.wrap (a2 + 1)) - 1)).tmod (a1.length : Int)).toNat) 0).int)) * 131)) + (IntKind.i64.wrap ((IntKind.i64.wrap ((rd a1 (((IntKind.i64.wrap ((IntKind.i64.wrap ((IntKind.i64.wrap ((IntKind.i64.wrap (a2 + 1)) - 1)) * 7)) + 3)).tmod (a1.length : Int)).toNat) 0).int)) * 1117)))) + (IntKind.i64.wrap ((IntKind.i64.wrap ((IntKind.i64.wrap (a2 + 1)) - 1)) * 29)))) + (IntKind.i64.wrap ((IntKind.i64.wrap ((IntKind.i64.wrap ((IntKind.i64.wrap (a2 + 1)) - 1)).tdiv (a1.length : Int))) * 53)))).tdiv 64))).toNat).tmod a0), .l a1, .i (IntKind.i64.wrap (a2 + 1))]) (
 none)) (
 none)) (
 none)) (
 none)) (
 none)) (
 none)))) := (zd _ _).trans (by kernel_rfl)
theorem kqb : SigOk Tryz.prog (dqb.sig (Lqb none)) ∧ (dqb.sig (Lqb none)).ok = true := zf ze (by kernel_rfl) (by kernel_rfl) (by kernel_rfl)
def dqcl : FD := { fn := 201, nb := 0, pre := ⟨[.sc (.s 0), .sc (.i .i64 1)], []⟩, post := ⟨[.sc (.s 0)], []⟩, sh := false, cuts := [⟨2, [0, 1, 5], ⟨[.sc (.s 0), .sc (.i .i64 1), .sc (.s 2)], []⟩⟩] }
noncomputable def Lqcl : Option Nat → Lv → Option Lv := Lim Tryz.prog [] dqcl Tryz.f201
theorem eqcl_i (a0 : ByteArray) (a1 : Int) : Lqcl none [.s a0, .i a1] =
 Lqcl (some 2) [.s a0, .i a1, .s (⟨#[]⟩ : ByteArray)] := (zd _ _).trans (by kernel_rfl)
theorem eqcl_2 (a0 : ByteArray) (a1 : Int) (a2 : ByteArray) : Lqcl (some 2) [.s a0, .i a1, .s a2] =
 cond (decide (0 < a1)) (
 cond ((a1.tmod 2) == 1) (
 cond (decide (a2.size + a0.size ≤ most)) (
 cond (decide (a0.size + a0.size ≤ most)) (
 Lqcl (some 2) [.s (a0 ++ a0), .i (IntKind.i64.wrap (a1.tdiv 2)), .s (a2 ++ a0)]) (
 none)) (
 none)) (
 cond (decide (a0.size + a0.size ≤ most)) (
 Lqcl (some 2) [.s (a0 ++ a0), .i (IntKind.i64.wrap (a1.tdiv 2)), .s a2]) (
 none))) (
 some [.s a2]) := (zd _ _).trans (by kernel_rfl)
theorem kqcl : SigOk Tryz.prog (dqcl.sig (Lqcl none)) ∧ (dqcl.sig (Lqcl none)).ok = true := zf ze (by kernel_rfl) (by kernel_rfl) (by kernel_rfl)
def dqb2 : FD := { fn := 145, nb := 1, pre := ⟨[.sc (.pt 0 0), .ag [.s 0, .fz 9 false 1]], [.bx [.fz 5 false 2, .i .i64 3]]⟩, post := ⟨[.ag [.s 0, .ow 1]], [.bx [.fz 5 false 1, .i .i64 2], .rw 9 true 3]⟩, sh := true, cuts := [⟨15, [4, 5, 6, 7], ⟨[.sc (.pt 1 0), .sc (.pt 2 0), .sc (.i .i64 0), .sc (.i .i64 1)], [.bx [.fz 5 false 2, .i .i64 3], .bx [.s 4, .ow 3], .bx [.s 5, .ow 4], .rw 9 true 6, .rw 9 true 7]⟩⟩] }
noncomputable def Lqb2 : Option Nat → Lv → Option Lv := Lim Tryz.prog [dqb.sig (Lqb none), dqbu.sig (Lqbu none), dqcl.sig (Lqcl none)] dqb2 Tryz.f145
theorem eqb2_i (a0 : ByteArray) (a1 a2 : Rw) (a3 : Int) : Lqb2 none [.s a0, .l a1, .l a2, .i a3] =
 (Lqbu none [.s a0, .l a1]).bind fun y1 =>
 (Lqb none [.i 5, .l a2, .i a3]).bind fun y2 =>
 cond ((g y2 0).int == 0) (
 (Lqb none [.i 2, .l ((g y2 1).list), .i ((g y2 2).int)]).bind fun y3 =>
 (Lqcl none [.s (⟨#[116]⟩ : ByteArray), .i (IntKind.i64.wrap (2000 + (g y3 0).int))]).bind fun y4 =>
 some [.s ((g y4 0).str), .l ((g y3 1).list), .i ((g y3 2).int), .l ((g y1 1).list)]) (
 cond ((g y2 0).int == 1) (
 cond (decide (((g y1 1).list).length + ([[.s (⟨#[120]⟩ : ByteArray)]] : Rw).length ≤ most)) (
 some [.s ((g y1 0).str), .l ((g y2 1).list), .i ((g y2 2).int), .l ((g y1 1).list ++ ([[.s (⟨#[120]⟩ : ByteArray)]] : Rw))]) (
 none)) (
 cond ((g y2 0).int == 2) (
 cond (decide (0 < (((g y1 1).list).length : Int))) (
 cond (inb 0 (((g y1 1).list).length)) (
 cond (decide (((g y1 1).list).length + ([[.s ((rd ((g y1 1).list) 0 0).str)]] : Rw).length ≤ most)) (
 some [.s ((g y1 0).str), .l ((g y2 1).list), .i ((g y2 2).int), .l ((g y1 1).list ++ ([[.s ((rd ((g y1 1).list) 0 0).str)]] : Rw))]) (
 none)) (
 none)) (
 some [.s ((g y1 0).str), .l ((g y2 1).list), .i ((g y2 2).int), .l ((g y1 1).list)])) (
 cond ((g y2 0).int == 3) (
 (Lqb none [.i 2, .l ((g y2 1).list), .i ((g y2 2).int)]).bind fun y5 =>
 Lqb2 (some 15) [.i (IntKind.i64.wrap (30 + (g y5 0).int)), .i 0, .l ((g y5 1).list), .i ((g y5 2).int), .s (⟨#[]⟩ : ByteArray), .s ((g y1 0).str), .l [], .l ([] : Rw)]) (
 cond (decide (((g y1 0).str).size + (⟨#[122]⟩ : ByteArray).size ≤ most)) (
 some [.s (((g y1 0).str) ++ (⟨#[122]⟩ : ByteArray)), .l ((g y2 1).list), .i ((g y2 2).int), .l ((g y1 1).list)]) (
 none))))) := (zd _ _).trans (by kernel_rfl)
theorem eqb2_15 (a0 a1 : Int) (a2 : Rw) (a3 : Int) (a4 a5 : ByteArray) (a6 a7 : Rw) : Lqb2 (some 15) [.i a0, .i a1, .l a2, .i a3, .s a4, .s a5, .l a6, .l a7] =
 cond (decide (a1 < a0)) (
 cond (decide (a7.length + ([[.s (bytesOf ([[.i (IntKind.u8.wrap (IntKind.i64.wrap (33 + a1)))]] : Rw))]] : Rw).length ≤ most)) (
 Lqb2 (some 15) [.i a0, .i (IntKind.i64.wrap (a1 + 1)), .l a2, .i a3, .s a4, .s a5, .l a6, .l (a7 ++ ([[.s (bytesOf ([[.i (IntKind.u8.wrap (IntKind.i64.wrap (33 + a1)))]] : Rw))]] : Rw))]) (
 none)) (
 some [.s a5, .l a2, .i a3, .l a7]) := (zd _ _).trans (by kernel_rfl)
theorem kqb2 : SigOk Tryz.prog (dqb2.sig (Lqb2 none)) ∧ (dqb2.sig (Lqb2 none)).ok = true := zf (zb kqb (by kernel_rfl) (zb kqbu (by kernel_rfl) (zb kqcl (by kernel_rfl) ze))) (by kernel_rfl) (by kernel_rfl) (by kernel_rfl)
def dqcp : FD := { fn := 154, nb := 1, pre := ⟨[.sc (.pt 0 0)], [.bx [.fz 5 false 0, .i .i64 1]]⟩, post := ⟨[.sc (.s 0)], [.bx [.fz 5 false 1, .i .i64 2]]⟩, sh := true, cuts := [⟨13, [0, 3, 4, 5], ⟨[.sc (.pt 0 0), .sc (.i .i64 0), .sc (.ow 1), .sc (.i .i64 1)], [.bx [.fz 5 false 2, .i .i64 3], .rw 5 true 4]⟩⟩] }
noncomputable def Lqcp : Option Nat → Lv → Option Lv := Lim Tryz.prog [dqb.sig (Lqb none)] dqcp Tryz.f154
theorem eqcp_i (a0 : Rw) (a1 : Int) : Lqcp none [.l a0, .i a1] =
 (Lqb none [.i 9, .l a0, .i a1]).bind fun y1 =>
 cond ((g y1 0).int == 0) (
 some [.s (⟨#[]⟩ : ByteArray), .l ((g y1 1).list), .i ((g y1 2).int)]) (
 cond ((g y1 0).int == 1) (
 some [.s (⟨#[97, 32, 98]⟩ : ByteArray), .l ((g y1 1).list), .i ((g y1 2).int)]) (
 cond ((g y1 0).int == 2) (
 some [.s (⟨#[37, 45, 10]⟩ : ByteArray), .l ((g y1 1).list), .i ((g y1 2).int)]) (
 cond ((g y1 0).int == 3) (
 some [.s (⟨#[255, 0]⟩ : ByteArray), .l ((g y1 1).list), .i ((g y1 2).int)]) (
 (Lqb none [.i 4, .l ((g y1 1).list), .i ((g y1 2).int)]).bind fun y2 =>
 Lqcp (some 13) [.i ((g y2 0).int), .i 0, .l ((g y2 1).list), .i ((g y2 2).int), .l ([] : Rw)])))) := (zd _ _).trans (by kernel_rfl)
theorem eqcp_13 (a0 a1 : Int) (a2 : Rw) (a3 : Int) (a4 : Rw) : Lqcp (some 13) [.i a0, .i a1, .l a2, .i a3, .l a4] =
 cond (decide (a1 ≤ a0)) (
 (Lqb none [.i 6, .l a2, .i a3]).bind fun y1 =>
 cond (decide (a4.length + ([[.i (IntKind.u8.wrap (IntKind.i64.wrap (97 + (g y1 0).int)))]] : Rw).length ≤ most)) (
 Lqcp (some 13) [.i a0, .i (IntKind.i64.wrap (a1 + 1)), .l ((g y1 1).list), .i ((g y1 2).int), .l (a4 ++ ([[.i (IntKind.u8.wrap (IntKind.i64.wrap (97 + (g y1 0).int)))]] : Rw))]) (
 none)) (
 some [.s (bytesOf a4), .l a2, .i a3]) := (zd _ _).trans (by kernel_rfl)
theorem kqcp : SigOk Tryz.prog (dqcp.sig (Lqcp none)) ∧ (dqcp.sig (Lqcp none)).ok = true := zf (zb kqb (by kernel_rfl) ze) (by kernel_rfl) (by kernel_rfl) (by kernel_rfl)
def dqcz : FD := { fn := 75, nb := 1, pre := ⟨[.sc (.pt 0 0)], [.bx [.fz 5 false 0, .i .i64 1]]⟩, post := ⟨[.ag [.i .i64 0, .s 1, .i .i64 2, .s 3, .i .i64 4, .i .i64 5]], [.bx [.fz 5 false 6, .i .i64 7]]⟩, sh := true, cuts := [] }
noncomputable def Lqcz : Option Nat → Lv → Option Lv := Lim Tryz.prog [dqb.sig (Lqb none), dqcp.sig (Lqcp none)] dqcz Tryz.f75
theorem eqcz_i (a0 : Rw) (a1 : Int) : Lqcz none [.l a0, .i a1] =
 (Lqcp none [.l a0, .i a1]).bind fun y1 =>
 (Lqb none [.i 8, .l ((g y1 1).list), .i ((g y1 2).int)]).bind fun y2 =>
 (Lqb none [.i 3, .l ((g y2 1).list), .i ((g y2 2).int)]).bind fun y3 =>
 cond (inb ((g y3 0).int) (([[.s (⟨#[112]⟩ : ByteArray)], [.s (⟨#[113]⟩ : ByteArray)], [.s (⟨#[114]⟩ : ByteArray)]] : Rw).length)) (
 (Lqb none [.i 40, .l ((g y3 1).list), .i ((g y3 2).int)]).bind fun y4 =>
 (Lqb none [.i 5, .l ((g y4 1).list), .i ((g y4 2).int)]).bind fun y5 =>
 cond (inb ((g y5 0).int) (([[.i 1], [.i 3], [.i 10], [.i 40], [.i 200]] : Rw).length)) (
 (Lqb none [.i 20, .l ((g y5 1).list), .i ((g y5 2).int)]).bind fun y6 =>
 cond (decide ((g y6 0).int < 7)) (
 some [.i 1, .s ((g y1 0).str), .i ((g y2 0).int), .s ((rd ([[.s (⟨#[112]⟩ : ByteArray)], [.s (⟨#[113]⟩ : ByteArray)], [.s (⟨#[114]⟩ : ByteArray)]] : Rw) (((g y3 0).int).toNat) 0).str), .i ((g y4 0).int), .i ((rd ([[.i 1], [.i 3], [.i 10], [.i 40], [.i 200]] : Rw) (((g y5 0).int).toNat) 0).int), .l ((g y6 1).list), .i ((g y6 2).int)]) (
 cond (decide ((g y6 0).int < 10)) (
 some [.i 2, .s ((g y1 0).str), .i ((g y2 0).int), .s ((rd ([[.s (⟨#[112]⟩ : ByteArray)], [.s (⟨#[113]⟩ : ByteArray)], [.s (⟨#[114]⟩ : ByteArray)]] : Rw) (((g y3 0).int).toNat) 0).str), .i ((g y4 0).int), .i ((rd ([[.i 1], [.i 3], [.i 10], [.i 40], [.i 200]] : Rw) (((g y5 0).int).toNat) 0).int), .l ((g y6 1).list), .i ((g y6 2).int)]) (
 cond ((g y6 0).int == 10) (
 some [.i 3, .s ((g y1 0).str), .i ((g y2 0).int), .s ((rd ([[.s (⟨#[112]⟩ : ByteArray)], [.s (⟨#[113]⟩ : ByteArray)], [.s (⟨#[114]⟩ : ByteArray)]] : Rw) (((g y3 0).int).toNat) 0).str), .i ((g y4 0).int), .i ((rd ([[.i 1], [.i 3], [.i 10], [.i 40], [.i 200]] : Rw) (((g y5 0).int).toNat) 0).int), .l ((g y6 1).list), .i ((g y6 2).int)]) (
 cond ((g y6 0).int == 11) (
 some [.i 4, .s ((g y1 0).str), .i ((g y2 0).int), .s ((rd ([[.s (⟨#[112]⟩ : ByteArray)], [.s (⟨#[113]⟩ : ByteArray)], [.s (⟨#[114]⟩ : ByteArray)]] : Rw) (((g y3 0).int).toNat) 0).str), .i ((g y4 0).int), .i ((rd ([[.i 1], [.i 3], [.i 10], [.i 40], [.i 200]] : Rw) (((g y5 0).int).toNat) 0).int), .l ((g y6 1).list), .i ((g y6 2).int)]) (
 cond ((g y6 0).int == 12) (
 some [.i 5, .s ((g y1 0).str), .i ((g y2 0).int), .s ((rd ([[.s (⟨#[112]⟩ : ByteArray)], [.s (⟨#[113]⟩ : ByteArray)], [.s (⟨#[114]⟩ : ByteArray)]] : Rw) (((g y3 0).int).toNat) 0).str), .i ((g y4 0).int), .i ((rd ([[.i 1], [.i 3], [.i 10], [.i 40], [.i 200]] : Rw) (((g y5 0).int).toNat) 0).int), .l ((g y6 1).list), .i ((g y6 2).int)]) (
 cond (decide ((g y6 0).int < 15)) (
 some [.i 6, .s ((g y1 0).str), .i ((g y2 0).int), .s ((rd ([[.s (⟨#[112]⟩ : ByteArray)], [.s (⟨#[113]⟩ : ByteArray)], [.s (⟨#[114]⟩ : ByteArray)]] : Rw) (((g y3 0).int).toNat) 0).str), .i ((g y4 0).int), .i ((rd ([[.i 1], [.i 3], [.i 10], [.i 40], [.i 200]] : Rw) (((g y5 0).int).toNat) 0).int), .l ((g y6 1).list), .i ((g y6 2).int)]) (
 cond ((g y6 0).int == 15) (
 some [.i 8, .s ((g y1 0).str), .i ((g y2 0).int), .s ((rd ([[.s (⟨#[112]⟩ : ByteArray)], [.s (⟨#[113]⟩ : ByteArray)], [.s (⟨#[114]⟩ : ByteArray)]] : Rw) (((g y3 0).int).toNat) 0).str), .i ((g y4 0).int), .i ((rd ([[.i 1], [.i 3], [.i 10], [.i 40], [.i 200]] : Rw) (((g y5 0).int).toNat) 0).int), .l ((g y6 1).list), .i ((g y6 2).int)]) (
 cond ((g y6 0).int == 16) (
 some [.i 9, .s ((g y1 0).str), .i ((g y2 0).int), .s ((rd ([[.s (⟨#[112]⟩ : ByteArray)], [.s (⟨#[113]⟩ : ByteArray)], [.s (⟨#[114]⟩ : ByteArray)]] : Rw) (((g y3 0).int).toNat) 0).str), .i ((g y4 0).int), .i ((rd ([[.i 1], [.i 3], [.i 10], [.i 40], [.i 200]] : Rw) (((g y5 0).int).toNat) 0).int), .l ((g y6 1).list), .i ((g y6 2).int)]) (
 some [.i 10, .s ((g y1 0).str), .i ((g y2 0).int), .s ((rd ([[.s (⟨#[112]⟩ : ByteArray)], [.s (⟨#[113]⟩ : ByteArray)], [.s (⟨#[114]⟩ : ByteArray)]] : Rw) (((g y3 0).int).toNat) 0).str), .i ((g y4 0).int), .i ((rd ([[.i 1], [.i 3], [.i 10], [.i 40], [.i 200]] : Rw) (((g y5 0).int).toNat) 0).int), .l ((g y6 1).list), .i ((g y6 2).int)]))))))))) (
 none)) (
 none) := (zd _ _).trans (by kernel_rfl)
theorem kqcz : SigOk Tryz.prog (dqcz.sig (Lqcz none)) ∧ (dqcz.sig (Lqcz none)).ok = true := zf (zb kqb (by kernel_rfl) (zb kqcp (by kernel_rfl) ze)) (by kernel_rfl) (by kernel_rfl) (by kernel_rfl)
end KV
end
section
set_option maxRecDepth 100000
namespace KV
open Go Go.Eng Go.Proofs
def dqq : FD := { fn := 76, nb := 0, pre := ⟨[.sc (.fz 9 false 0)], []⟩, post := ⟨[.sc (.ow 0)], [.rw 9 true 0]⟩, sh := false, cuts := [⟨3, [0, 3, 4], ⟨[.sc (.fz 9 false 0), .sc (.ow 0), .sc (.i .i64 1)], [.rw 9 true 2]⟩⟩, ⟨6, [0, 3, 4, 5], ⟨[.sc (.fz 9 false 0), .sc (.ow 0), .sc (.i .i64 1), .sc (.i .i64 2)], [.rw 9 true 3]⟩⟩, ⟨9, [0, 3, 4, 5], ⟨[.sc (.fz 9 false 0), .sc (.ow 0), .sc (.i .i64 1), .sc (.i .i64 2)], [.rw 9 true 3]⟩⟩] }
noncomputable def Lqq : Option Nat → Lv → Option Lv := Lim Tryz.prog [] dqq Tryz.f76
theorem eqq_i (a0 : Rw) : Lqq none [.l a0] =
 Lqq (some 3) [.l a0, .i 0, .l ([] : Rw)] := (zd _ _).trans (by kernel_rfl)
theorem eqq_3 (a0 : Rw) (a1 : Int) (a2 : Rw) : Lqq (some 3) [.l a0, .i a1, .l a2] =
 cond (decide (a1 < (a0.length : Int))) (
 Lqq (some 6) [.l a0, .i a1, .i 0, .l a2]) (
 some [.l a2]) := (zd _ _).trans (by kernel_rfl)
theorem eqq_6 (a0 : Rw) (a1 a2 : Int) (a3 : Rw) : Lqq (some 6) [.l a0, .i a1, .i a2, .l a3] =
 cond (decide (a2 < (a3.length : Int))) (
 cond (inb a2 a3.length) (
 cond (inb a1 a0.length) (
 cond (slt ((rd a3 a2.toNat 0).str) ((rd a0 a1.toNat 0).str)) (
 Lqq (some 6) [.l a0, .i a1, .i (IntKind.i64.wrap (a2 + 1)), .l a3]) (
 cond (decide (a2 < (a3.length : Int))) (
 cond (inb a2 a3.length) (
 cond (inb a1 a0.length) (
 cond (Eng.seq ((rd a3 a2.toNat 0).str) ((rd a0 a1.toNat 0).str)) (
 Lqq (some 3) [.l a0, .i (IntKind.i64.wrap (a1 + 1)), .l a3]) (
 Lqq (some 9) [.l a0, .i a1, .i a2, .l a3])) (
 none)) (
 none)) (
 Lqq (some 9) [.l a0, .i a1, .i a2, .l a3]))) (
 none)) (
 none)) (
 cond (decide (a2 < (a3.length : Int))) (
 cond (inb a2 a3.length) (
 cond (inb a1 a0.length) (
 cond (Eng.seq ((rd a3 a2.toNat 0).str) ((rd a0 a1.toNat 0).str)) (
 Lqq (some 3) [.l a0, .i (IntKind.i64.wrap (a1 + 1)), .l a3]) (
 Lqq (some 9) [.l a0, .i a1, .i a2, .l a3])) (
 none)) (
 none)) (
 Lqq (some 9) [.l a0, .i a1, .i a2, .l a3])) := (zd _ _).trans (by kernel_rfl)
theorem eqq_9 (a0 : Rw) (a1 a2 : Int) (a3 : Rw) : Lqq (some 9) [.l a0, .i a1, .i a2, .l a3] =
 cond (decide (0 ≤ a2)) (
 cond (decide (a2 ≤ (a3.length : Int))) (
 cond (decide (([] : Rw).length + (Eng.sub a3 0 a2.toNat).length ≤ most)) (
 cond (inb a1 a0.length) (
 cond (decide ((([] : Rw) ++ (Eng.sub a3 0 a2.toNat)).length + ([[.s ((rd a0 a1.toNat 0).str)]] : Rw).length ≤ most)) (
 cond (decide (0 ≤ a2)) (
 cond (decide (a2 ≤ (a3.length : Int))) (
 cond (decide (((([] : Rw) ++ (Eng.sub a3 0 a2.toNat)) ++ ([[.s ((rd a0 a1.toNat 0).str)]] : Rw)).length + (Eng.sub a3 a2.toNat a3.length).length ≤ most)) (
 Lqq (some 3) [.l a0, .i (IntKind.i64.wrap (a1 + 1)), .l (((([] : Rw) ++ (Eng.sub a3 0 a2.toNat)) ++ ([[.s ((rd a0 a1.toNat 0).str)]] : Rw)) ++ (Eng.sub a3 a2.toNat a3.length))]) (
 none)) (
 none)) (
 none)) (
 none)) (
 none)) (
 none)) (
 none)) (
 none) := (zd _ _).trans (by kernel_rfl)
theorem kqq : SigOk Tryz.prog (dqq.sig (Lqq none)) ∧ (dqq.sig (Lqq none)).ok = true := zf ze (by kernel_rfl) (by kernel_rfl) (by kernel_rfl)
def dqbn : FD := { fn := 16, nb := 0, pre := ⟨[.ag [.i .i64 0, .s 1, .i .i64 2, .s 3, .i .i64 4, .i .i64 5], .ag [.i .i64 6, .i .i64 7, .i .i64 8, .i .i64 9, .fz 90 false 10, .fz 156 false 11, .fz 158 false 12]], []⟩, post := ⟨[.ag [.s 0, .ow 0]], [.rw 9 true 1]⟩, sh := false, cuts := [⟨5, [2, 3, 4, 5, 6, 7], ⟨[.sc (.pt 0 0), .sc (.pt 1 0), .sc (.pt 2 0), .sc (.pt 3 0), .sc (.ow 4), .sc (.i .i64 0)], [.bx [.i .i64 1, .s 2, .i .i64 3, .s 4, .i .i64 5, .i .i64 6], .bx [.i .i64 7, .i .i64 8, .i .i64 9, .i .i64 10, .fz 90 false 11, .fz 156 false 12, .fz 158 false 13], .bx [.s 14, .ow 5], .bx [.s 15, .ow 6], .rw 9 true 16, .rw 9 true 17, .rw 9 true 18]⟩⟩] }
noncomputable def Lqbn : Option Nat → Lv → Option Lv := Lim Tryz.prog [dqq.sig (Lqq none)] dqbn Tryz.f16
theorem eqbn_i (a0 : Int) (a1 : ByteArray) (a2 : Int) (a3 : ByteArray) (a4 a5 a6 a7 a8 a9 : Int) (a10 a11 a12 : Rw) : Lqbn none [.i a0, .s a1, .i a2, .s a3, .i a4, .i a5, .i a6, .i a7, .i a8, .i a9, .l a10, .l a11, .l a12] =
 cond (decide (0 < (a10.length : Int))) (
 Lqbn (some 5) [.i 0, .i a0, .s a1, .i a2, .s a3, .i a4, .i a5, .i a6, .i a7, .i a8, .i a9, .l a10, .l a11, .l a12, .s (⟨#[]⟩ : ByteArray), .s a1, .l ([] : Rw), .l [], .l []]) (
 (Lqq none [.l ([] : Rw)]).bind fun y1 =>
 some [.s a1, .l ((g y1 0).list)]) := (zd _ _).trans (by kernel_rfl)
theorem eqbn_5 (a0 a1 : Int) (a2 : ByteArray) (a3 : Int) (a4 : ByteArray) (a5 a6 a7 a8 a9 a10 : Int) (a11 a12 a13 : Rw) (a14 a15 : ByteArray) (a16 a17 a18 : Rw) : Lqbn (some 5) [.i a0, .i a1, .s a2, .i a3, .s a4, .i a5, .i a6, .i a7, .i a8, .i a9, .i a10, .l a11, .l a12, .l a13, .s a14, .s a15, .l a16, .l a17, .l a18] =
 cond (decide (a0 < (IntKind.i64.wrap (a3.tdiv 2)))) (
 cond (decide (a0 < 4)) (
 cond ((a11.length : Int) != 0) (
 cond (inb ((IntKind.i64.wrap (a5 + (IntKind.i64.wrap (5 * a0)))).tmod (a11.length : Int)) a11.length) (
 cond (decide (a16.length + ([[.s ((rd a11 (((IntKind.i64.wrap (a5 + (IntKind.i64.wrap (5 * a0)))).tmod (a11.length : Int)).toNat) 0).str)]] : Rw).length ≤ most)) (
 Lqbn (some 5) [.i (IntKind.i64.wrap (a0 + 1)), .i a1, .s a2, .i a3, .s a4, .i a5, .i a6, .i a7, .i a8, .i a9, .i a10, .l a11, .l a12, .l a13, .s a14, .s a15, .l (a16 ++ ([[.s ((rd a11 (((IntKind.i64.wrap (a5 + (IntKind.i64.wrap (5 * a0)))).tmod (a11.length : Int)).toNat) 0).str)]] : Rw)), .l a17, .l a18]) (
 none)) (
 none)) (
 none)) (
 (Lqq none [.l a16]).bind fun y1 =>
 some [.s a15, .l ((g y1 0).list)])) (
 (Lqq none [.l a16]).bind fun y2 =>
 some [.s a15, .l ((g y2 0).list)]) := (zd _ _).trans (by kernel_rfl)
theorem kqbn : SigOk Tryz.prog (dqbn.sig (Lqbn none)) ∧ (dqbn.sig (Lqbn none)).ok = true := zf (zb kqq (by kernel_rfl) ze) (by kernel_rfl) (by kernel_rfl) (by kernel_rfl)
def dqc9 : FD := { fn := 174, nb := 1, pre := ⟨[.sc (.pt 0 0)], [.bx [.fz 5 false 0, .i .i64 1]]⟩, post := ⟨[.sc (.i .i64 0)], [.bx [.fz 5 false 1, .i .i64 2]]⟩, sh := true, cuts := [] }
noncomputable def Lqc9 : Option Nat → Lv → Option Lv := Lim Tryz.prog [dqb.sig (Lqb none)] dqc9 Tryz.f174
theorem eqc9_i (a0 : Rw) (a1 : Int) : Lqc9 none [.l a0, .i a1] =
 (Lqb none [.i 8, .l a0, .i a1]).bind fun y1 =>
 cond (decide ((g y1 0).int < 2)) (
 some [.i 1, .l ((g y1 1).list), .i ((g y1 2).int)]) (
 cond ((g y1 0).int == 2) (
 some [.i 2, .l ((g y1 1).list), .i ((g y1 2).int)]) (
 some [.i 8, .l ((g y1 1).list), .i ((g y1 2).int)])) := (zd _ _).trans (by kernel_rfl)
theorem kqc9 : SigOk Tryz.prog (dqc9.sig (Lqc9 none)) ∧ (dqc9.sig (Lqc9 none)).ok = true := zf (zb kqb (by kernel_rfl) ze) (by kernel_rfl) (by kernel_rfl) (by kernel_rfl)
def dqbw : FD := { fn := 173, nb := 0, pre := ⟨[.sc (.i .i64 0), .sc (.i .i64 1), .ag [.fz 9 false 2, .fz 9 false 3]], []⟩, post := ⟨[.tu [(true, [.i .i64 0, .i .i64 1, .ow 0, .ow 1, .i .i64 2, .i .i64 3, .i .i64 4, .i .i64 5, .ow 2, .ow 3, .ow 4, .i .i64 6, .fz 9 true 7, .fz 9 true 8, .i .i64 9, .i .i64 10, .i .i64 11]), (false, [.i .i64 12])]], [.rw 9 true 13, .rw 9 true 14, .rw 90 true 15, .rw 156 true 16, .rw 158 true 17]⟩, sh := false, cuts := [] }
noncomputable def Lqbw : Option Nat → Lv → Option Lv := Lim Tryz.prog [dqh.sig (Lqh none), dqb1.sig (Lqb1 none), dqx.sig (Lqx none), dqn.sig (Lqn none), dqcx.sig (Lqcx none), dqcy.sig (Lqcy none)] dqbw Tryz.f173
theorem eqbw_i (a0 a1 : Int) (a2 a3 : Rw) : Lqbw none [.i a0, .i a1, .l a2, .l a3] =
 (Lqh none [.i a0]).bind fun y1 =>
 cond (!(g y1 0).bool) (
 some [.i 0, .i 0, .i 0, .i 0, .i 0, .i 0, .i 0, .l ([]), .l ([]), .i 0, .i 0, .i 0, .i 1, .l [], .l [], .l [], .l [], .l []]) (
 (Lqx none [.i a1, .i 0, .i 1000000]).bind fun y2 =>
 cond (!(g y2 0).bool) (
 some [.i 0, .i 0, .i 0, .i 0, .i 0, .i 0, .i 0, .l ([]), .l ([]), .i 0, .i 0, .i 0, .i 1, .l [], .l [], .l [], .l [], .l []]) (
 (Lqn none [.l a2, .l a3]).bind fun y3 =>
 cond (!(g y3 0).bool) (
 some [.i 0, .i 0, .i 0, .i 0, .i 0, .i 0, .i 0, .l ([]), .l ([]), .i 0, .i 0, .i 0, .i 1, .l [], .l [], .l [], .l [], .l []]) (
 (Lqcx none [.l a2, .l a3]).bind fun y4 =>
 (Lqb1 none [.i a0, .l ((g y4 0).list)]).bind fun y5 =>
 cond ((g y5 0).int != 0) (
 some [.i 0, .i 0, .i 0, .i 0, .i 0, .i 0, .i 0, .l ([]), .l ([]), .i 0, .i 0, .i 0, .i 2, .l [], .l [], .l [], .l [], .l []]) (
 (Lqcy none [.l a2, .l a3]).bind fun y6 =>
 some [.i a0, .i a1, .i ((g y5 1).int), .i ((g y5 2).int), .i ((g y5 3).int), .i ((g y5 4).int), .i 0, .l ([]), .l ([]), .i 0, .i 0, .i 0, .i 0, .l ((g y6 0).list), .l ((g y6 1).list), .l ((g y5 9).list), .l ((g y5 10).list), .l ((g y5 11).list)])))) := (zd _ _).trans (by kernel_rfl)
theorem kqbw : SigOk Tryz.prog (dqbw.sig (Lqbw none)) ∧ (dqbw.sig (Lqbw none)).ok = true := zf (zb kqh (by kernel_rfl) (zb kqb1 (by kernel_rfl) (zb kqx (by kernel_rfl) (zb kqn (by kernel_rfl) (zb kqcx (by kernel_rfl) (zb kqcy (by kernel_rfl) ze)))))) (by kernel_rfl) (by kernel_rfl) (by kernel_rfl)
def dqc0 : FD := { fn := 77, nb := 0, pre := ⟨[.ag [.i .i64 0, .s 1, .i .i64 2, .s 3, .i .i64 4, .i .i64 5], .ag [.i .i64 6, .i .i64 7, .i .i64 8, .i .i64 9, .fz 90 false 10, .fz 156 false 11, .fz 158 false 12]], []⟩, post := ⟨[.sc (.s 0)], []⟩, sh := false, cuts := [] }
noncomputable def Lqc0 : Option Nat → Lv → Option Lv := Lim Tryz.prog [dqd.sig (Lqd none)] dqc0 Tryz.f77
theorem eqc0_i (a0 : Int) (a1 : ByteArray) (a2 : Int) (a3 : ByteArray) (a4 a5 a6 a7 a8 a9 : Int) (a10 a11 a12 : Rw) : Lqc0 none [.i a0, .s a1, .i a2, .s a3, .i a4, .i a5, .i a6, .i a7, .i a8, .i a9, .l a10, .l a11, .l a12] =
 cond ((a10.length : Int) == 0) (
 (Lqd none [.s (⟨#[110, 111, 110, 101]⟩ : ByteArray), .i a6]).bind fun y1 =>
 some [.s ((g y1 0).str)]) (
 cond ((a10.length : Int) != 0) (
 cond (inb (a4.tmod (a10.length : Int)) a10.length) (
 some [.s ((rd a10 ((a4.tmod (a10.length : Int)).toNat) 0).str)]) (
 none)) (
 none)) := (zd _ _).trans (by kernel_rfl)
theorem kqc0 : SigOk Tryz.prog (dqc0.sig (Lqc0 none)) ∧ (dqc0.sig (Lqc0 none)).ok = true := zf (zb kqd (by kernel_rfl) ze) (by kernel_rfl) (by kernel_rfl) (by kernel_rfl)
def dqda : FD := { fn := 81, nb := 0, pre := ⟨[.ag [.i .i64 0, .s 1, .i .i64 2, .s 3, .i .i64 4, .i .i64 5], .ag [.i .i64 6, .i .i64 7, .i .i64 8, .i .i64 9, .fz 90 false 10, .fz 156 false 11, .fz 158 false 12]], []⟩, post := ⟨[.sc (.i .i64 0)], []⟩, sh := false, cuts := [] }
noncomputable def Lqda : Option Nat → Lv → Option Lv := Lim Tryz.prog [] dqda Tryz.f81
theorem eqda_i (a0 : Int) (a1 : ByteArray) (a2 : Int) (a3 : ByteArray) (a4 a5 a6 a7 a8 a9 : Int) (a10 a11 a12 : Rw) : Lqda none [.i a0, .s a1, .i a2, .s a3, .i a4, .i a5, .i a6, .i a7, .i a8, .i a9, .l a10, .l a11, .l a12] =
 cond ((a12.length : Int) == 0) (
 some [.i (IntKind.i64.wrap (1 + a4))]) (
 cond ((a12.length : Int) != 0) (
 cond (inb (a4.tmod (a12.length : Int)) a12.length) (
 some [.i ((rd a12 ((a4.tmod (a12.length : Int)).toNat) 0).int)]) (
 none)) (
 none)) := (zd _ _).trans (by kernel_rfl)
theorem kqda : SigOk Tryz.prog (dqda.sig (Lqda none)) ∧ (dqda.sig (Lqda none)).ok = true := zf ze (by kernel_rfl) (by kernel_rfl) (by kernel_rfl)
def dqdb : FD := { fn := 63, nb := 0, pre := ⟨[.ag [.i .i64 0, .i .i64 1, .fz 9 false 2, .fz 9 false 3, .i .i64 4, .i .i64 5, .i .i64 6, .i .i64 7, .fz 90 false 8, .fz 156 false 9, .fz 158 false 10, .i .i64 11, .fz 9 false 12, .fz 9 false 13, .i .i64 14, .i .i64 15, .i .i64 16], .sc (.s 17), .sc (.s 18)], []⟩, post := ⟨[.ag [.i .i64 0, .i .i64 1, .i .i64 2, .ow 0, .ow 1, .i .i64 3, .i .i64 4, .i .i64 5, .i .i64 6, .ow 2, .ow 3, .ow 4, .i .i64 7, .ow 5, .ow 6, .i .i64 8, .i .i64 9, .i .i64 10, .s 11, .i .i64 12, .s 13, .s 14]], [.rw 9 true 15, .rw 9 true 16, .rw 90 true 17, .rw 156 true 18, .rw 158 true 19, .rw 9 true 20, .rw 9 true 21]⟩, sh := false, cuts := [] }
noncomputable def Lqdb : Option Nat → Lv → Option Lv := Lim Tryz.prog [dql.sig (Lql none)] dqdb Tryz.f63
theorem eqdb_i (a0 a1 : Int) (a2 a3 : Rw) (a4 a5 a6 a7 : Int) (a8 a9 a10 : Rw) (a11 : Int) (a12 a13 : Rw) (a14 a15 a16 : Int) (a17 a18 : ByteArray) : Lqdb none [.i a0, .i a1, .l a2, .l a3, .i a4, .i a5, .i a6, .i a7, .l a8, .l a9, .l a10, .i a11, .l a12, .l a13, .i a14, .i a15, .i a16, .s a17, .s a18] =
 (Lql none [.i a0, .i a1, .l a2, .l a3, .i a4, .i a5, .i a6, .i a7, .l a8, .l a9, .l a10, .i a11, .l a12, .l a13, .i a14, .i a15, .i a16, .i 2, .s a18, .s a17, .i 0, .s (⟨#[]⟩ : ByteArray), .l ([])]).bind fun y1 =>
 some [.i ((g y1 0).int), .i ((g y1 1).int), .i ((g y1 2).int), .i ((g y1 3).int), .i ((g y1 4).int), .i ((g y1 5).int), .i ((g y1 6).int), .i ((g y1 7).int), .i ((g y1 8).int), .i ((g y1 9).int), .i ((g y1 10).int), .s ((g y1 11).str), .i ((g y1 12).int), .s ((g y1 13).str), .s ((g y1 14).str), .l ((g y1 15).list), .l ((g y1 16).list), .l ((g y1 17).list), .l ((g y1 18).list), .l ((g y1 19).list), .l ((g y1 20).list), .l ((g y1 21).list)] := (zd _ _).trans (by kernel_rfl)
theorem kqdb : SigOk Tryz.prog (dqdb.sig (Lqdb none)) ∧ (dqdb.sig (Lqdb none)).ok = true := zf (zb kql (by kernel_rfl) ze) (by kernel_rfl) (by kernel_rfl) (by kernel_rfl)
def dqdc : FD := { fn := 82, nb := 0, pre := ⟨[.ag [.i .i64 0, .i .i64 1, .fz 9 false 2, .fz 9 false 3, .i .i64 4, .i .i64 5, .i .i64 6, .i .i64 7, .fz 90 false 8, .fz 156 false 9, .fz 158 false 10, .i .i64 11, .fz 9 false 12, .fz 9 false 13, .i .i64 14, .i .i64 15, .i .i64 16], .sc (.s 17)], []⟩, post := ⟨[.ag [.i .i64 0, .i .i64 1, .i .i64 2, .ow 0, .ow 1, .i .i64 3, .i .i64 4, .i .i64 5, .i .i64 6, .ow 2, .ow 3, .ow 4, .i .i64 7, .ow 5, .ow 6, .i .i64 8, .i .i64 9, .i .i64 10, .s 11, .i .i64 12, .s 13, .s 14]], [.rw 9 true 15, .rw 9 true 16, .rw 90 true 17, .rw 156 true 18, .rw 158 true 19, .rw 9 true 20, .rw 9 true 21]⟩, sh := false, cuts := [] }
noncomputable def Lqdc : Option Nat → Lv → Option Lv := Lim Tryz.prog [dql.sig (Lql none)] dqdc Tryz.f82
theorem eqdc_i (a0 a1 : Int) (a2 a3 : Rw) (a4 a5 a6 a7 : Int) (a8 a9 a10 : Rw) (a11 : Int) (a12 a13 : Rw) (a14 a15 a16 : Int) (a17 : ByteArray) : Lqdc none [.i a0, .i a1, .l a2, .l a3, .i a4, .i a5, .i a6, .i a7, .l a8, .l a9, .l a10, .i a11, .l a12, .l a13, .i a14, .i a15, .i a16, .s a17] =
 (Lql none [.i a0, .i a1, .l a2, .l a3, .i a4, .i a5, .i a6, .i a7, .l a8, .l a9, .l a10, .i a11, .l a12, .l a13, .i a14, .i a15, .i a16, .i 3, .s (⟨#[]⟩ : ByteArray), .s a17, .i 0, .s (⟨#[]⟩ : ByteArray), .l ([])]).bind fun y1 =>
 some [.i ((g y1 0).int), .i ((g y1 1).int), .i ((g y1 2).int), .i ((g y1 3).int), .i ((g y1 4).int), .i ((g y1 5).int), .i ((g y1 6).int), .i ((g y1 7).int), .i ((g y1 8).int), .i ((g y1 9).int), .i ((g y1 10).int), .s ((g y1 11).str), .i ((g y1 12).int), .s ((g y1 13).str), .s ((g y1 14).str), .l ((g y1 15).list), .l ((g y1 16).list), .l ((g y1 17).list), .l ((g y1 18).list), .l ((g y1 19).list), .l ((g y1 20).list), .l ((g y1 21).list)] := (zd _ _).trans (by kernel_rfl)
theorem kqdc : SigOk Tryz.prog (dqdc.sig (Lqdc none)) ∧ (dqdc.sig (Lqdc none)).ok = true := zf (zb kql (by kernel_rfl) ze) (by kernel_rfl) (by kernel_rfl) (by kernel_rfl)
def dqdd : FD := { fn := 83, nb := 0, pre := ⟨[.ag [.i .i64 0, .i .i64 1, .fz 9 false 2, .fz 9 false 3, .i .i64 4, .i .i64 5, .i .i64 6, .i .i64 7, .fz 90 false 8, .fz 156 false 9, .fz 158 false 10, .i .i64 11, .fz 9 false 12, .fz 9 false 13, .i .i64 14, .i .i64 15, .i .i64 16], .sc (.s 17), .sc (.i .i64 18)], []⟩, post := ⟨[.ag [.i .i64 0, .i .i64 1, .i .i64 2, .ow 0, .ow 1, .i .i64 3, .i .i64 4, .i .i64 5, .i .i64 6, .ow 2, .ow 3, .ow 4, .i .i64 7, .ow 5, .ow 6, .i .i64 8, .i .i64 9, .i .i64 10, .s 11, .i .i64 12, .s 13, .s 14]], [.rw 9 true 15, .rw 9 true 16, .rw 90 true 17, .rw 156 true 18, .rw 158 true 19, .rw 9 true 20, .rw 9 true 21]⟩, sh := false, cuts := [] }
noncomputable def Lqdd : Option Nat → Lv → Option Lv := Lim Tryz.prog [dql.sig (Lql none)] dqdd Tryz.f83
theorem eqdd_i (a0 a1 : Int) (a2 a3 : Rw) (a4 a5 a6 a7 : Int) (a8 a9 a10 : Rw) (a11 : Int) (a12 a13 : Rw) (a14 a15 a16 : Int) (a17 : ByteArray) (a18 : Int) : Lqdd none [.i a0, .i a1, .l a2, .l a3, .i a4, .i a5, .i a6, .i a7, .l a8, .l a9, .l a10, .i a11, .l a12, .l a13, .i a14, .i a15, .i a16, .s a17, .i a18] =
 (Lql none [.i a0, .i a1, .l a2, .l a3, .i a4, .i a5, .i a6, .i a7, .l a8, .l a9, .l a10, .i a11, .l a12, .l a13, .i a14, .i a15, .i a16, .i 4, .s a17, .s (⟨#[]⟩ : ByteArray), .i a18, .s (⟨#[]⟩ : ByteArray), .l ([])]).bind fun y1 =>
 some [.i ((g y1 0).int), .i ((g y1 1).int), .i ((g y1 2).int), .i ((g y1 3).int), .i ((g y1 4).int), .i ((g y1 5).int), .i ((g y1 6).int), .i ((g y1 7).int), .i ((g y1 8).int), .i ((g y1 9).int), .i ((g y1 10).int), .s ((g y1 11).str), .i ((g y1 12).int), .s ((g y1 13).str), .s ((g y1 14).str), .l ((g y1 15).list), .l ((g y1 16).list), .l ((g y1 17).list), .l ((g y1 18).list), .l ((g y1 19).list), .l ((g y1 20).list), .l ((g y1 21).list)] := (zd _ _).trans (by kernel_rfl)
theorem kqdd : SigOk Tryz.prog (dqdd.sig (Lqdd none)) ∧ (dqdd.sig (Lqdd none)).ok = true := zf (zb kql (by kernel_rfl) ze) (by kernel_rfl) (by kernel_rfl) (by kernel_rfl)
def dqde : FD := { fn := 84, nb := 0, pre := ⟨[.ag [.i .i64 0, .i .i64 1, .fz 9 false 2, .fz 9 false 3, .i .i64 4, .i .i64 5, .i .i64 6, .i .i64 7, .fz 90 false 8, .fz 156 false 9, .fz 158 false 10, .i .i64 11, .fz 9 false 12, .fz 9 false 13, .i .i64 14, .i .i64 15, .i .i64 16], .sc (.i .i64 17)], []⟩, post := ⟨[.ag [.i .i64 0, .i .i64 1, .i .i64 2, .ow 0, .ow 1, .i .i64 3, .i .i64 4, .i .i64 5, .i .i64 6, .ow 2, .ow 3, .ow 4, .i .i64 7, .ow 5, .ow 6, .i .i64 8, .i .i64 9, .i .i64 10, .s 11, .i .i64 12, .s 13, .s 14]], [.rw 9 true 15, .rw 9 true 16, .rw 90 true 17, .rw 156 true 18, .rw 158 true 19, .rw 9 true 20, .rw 9 true 21]⟩, sh := false, cuts := [] }
noncomputable def Lqde : Option Nat → Lv → Option Lv := Lim Tryz.prog [dql.sig (Lql none)] dqde Tryz.f84
theorem eqde_i (a0 a1 : Int) (a2 a3 : Rw) (a4 a5 a6 a7 : Int) (a8 a9 a10 : Rw) (a11 : Int) (a12 a13 : Rw) (a14 a15 a16 a17 : Int) : Lqde none [.i a0, .i a1, .l a2, .l a3, .i a4, .i a5, .i a6, .i a7, .l a8, .l a9, .l a10, .i a11, .l a12, .l a13, .i a14, .i a15, .i a16, .i a17] =
 (Lql none [.i a0, .i a1, .l a2, .l a3, .i a4, .i a5, .i a6, .i a7, .l a8, .l a9, .l a10, .i a11, .l a12, .l a13, .i a14, .i a15, .i a16, .i 5, .s (⟨#[]⟩ : ByteArray), .s (⟨#[]⟩ : ByteArray), .i a17, .s (⟨#[]⟩ : ByteArray), .l ([])]).bind fun y1 =>
 some [.i ((g y1 0).int), .i ((g y1 1).int), .i ((g y1 2).int), .i ((g y1 3).int), .i ((g y1 4).int), .i ((g y1 5).int), .i ((g y1 6).int), .i ((g y1 7).int), .i ((g y1 8).int), .i ((g y1 9).int), .i ((g y1 10).int), .s ((g y1 11).str), .i ((g y1 12).int), .s ((g y1 13).str), .s ((g y1 14).str), .l ((g y1 15).list), .l ((g y1 16).list), .l ((g y1 17).list), .l ((g y1 18).list), .l ((g y1 19).list), .l ((g y1 20).list), .l ((g y1 21).list)] := (zd _ _).trans (by kernel_rfl)
theorem kqde : SigOk Tryz.prog (dqde.sig (Lqde none)) ∧ (dqde.sig (Lqde none)).ok = true := zf (zb kql (by kernel_rfl) ze) (by kernel_rfl) (by kernel_rfl) (by kernel_rfl)
def dqdf : FD := { fn := 85, nb := 0, pre := ⟨[.ag [.i .i64 0, .i .i64 1, .fz 9 false 2, .fz 9 false 3, .i .i64 4, .i .i64 5, .i .i64 6, .i .i64 7, .fz 90 false 8, .fz 156 false 9, .fz 158 false 10, .i .i64 11, .fz 9 false 12, .fz 9 false 13, .i .i64 14, .i .i64 15, .i .i64 16], .sc (.i .i64 17)], []⟩, post := ⟨[.ag [.i .i64 0, .i .i64 1, .i .i64 2, .ow 0, .ow 1, .i .i64 3, .i .i64 4, .i .i64 5, .i .i64 6, .ow 2, .ow 3, .ow 4, .i .i64 7, .ow 5, .ow 6, .i .i64 8, .i .i64 9, .i .i64 10, .s 11, .i .i64 12, .s 13, .s 14]], [.rw 9 true 15, .rw 9 true 16, .rw 90 true 17, .rw 156 true 18, .rw 158 true 19, .rw 9 true 20, .rw 9 true 21]⟩, sh := false, cuts := [] }
noncomputable def Lqdf : Option Nat → Lv → Option Lv := Lim Tryz.prog [dql.sig (Lql none)] dqdf Tryz.f85
theorem eqdf_i (a0 a1 : Int) (a2 a3 : Rw) (a4 a5 a6 a7 : Int) (a8 a9 a10 : Rw) (a11 : Int) (a12 a13 : Rw) (a14 a15 a16 a17 : Int) : Lqdf none [.i a0, .i a1, .l a2, .l a3, .i a4, .i a5, .i a6, .i a7, .l a8, .l a9, .l a10, .i a11, .l a12, .l a13, .i a14, .i a15, .i a16, .i a17] =
 (Lql none [.i a0, .i a1, .l a2, .l a3, .i a4, .i a5, .i a6, .i a7, .l a8, .l a9, .l a10, .i a11, .l a12, .l a13, .i a14, .i a15, .i a16, .i 6, .s (⟨#[]⟩ : ByteArray), .s (⟨#[]⟩ : ByteArray), .i a17, .s (⟨#[]⟩ : ByteArray), .l ([])]).bind fun y1 =>
 some [.i ((g y1 0).int), .i ((g y1 1).int), .i ((g y1 2).int), .i ((g y1 3).int), .i ((g y1 4).int), .i ((g y1 5).int), .i ((g y1 6).int), .i ((g y1 7).int), .i ((g y1 8).int), .i ((g y1 9).int), .i ((g y1 10).int), .s ((g y1 11).str), .i ((g y1 12).int), .s ((g y1 13).str), .s ((g y1 14).str), .l ((g y1 15).list), .l ((g y1 16).list), .l ((g y1 17).list), .l ((g y1 18).list), .l ((g y1 19).list), .l ((g y1 20).list), .l ((g y1 21).list)] := (zd _ _).trans (by kernel_rfl)
theorem kqdf : SigOk Tryz.prog (dqdf.sig (Lqdf none)) ∧ (dqdf.sig (Lqdf none)).ok = true := zf (zb kql (by kernel_rfl) ze) (by kernel_rfl) (by kernel_rfl) (by kernel_rfl)
def dqba : FD := { fn := 95, nb := 0, pre := ⟨[.ag [.i .i64 0, .i .i64 1, .i .i64 2, .i .i64 3, .fz 90 false 4, .fz 156 false 5, .fz 158 false 6]], []⟩, post := ⟨[.sc (.ow 0)], [.rw 9 true 0]⟩, sh := false, cuts := [⟨3, [1, 3, 4], ⟨[.sc (.pt 0 0), .sc (.ow 1), .sc (.i .i64 0)], [.bx [.i .i64 1, .i .i64 2, .i .i64 3, .i .i64 4, .fz 90 false 5, .fz 156 false 6, .fz 158 false 7], .rw 9 true 8]⟩⟩, ⟨8, [1, 3, 5], ⟨[.sc (.pt 0 0), .sc (.ow 1), .sc (.i .i64 0)], [.bx [.i .i64 1, .i .i64 2, .i .i64 3, .i .i64 4, .fz 90 false 5, .fz 156 false 6, .fz 158 false 7], .rw 9 true 8]⟩⟩] }
noncomputable def Lqba : Option Nat → Lv → Option Lv := Lim Tryz.prog [dqp.sig (Lqp none)] dqba Tryz.f95
theorem eqba_i (a0 a1 a2 a3 : Int) (a4 a5 a6 : Rw) : Lqba none [.i a0, .i a1, .i a2, .i a3, .l a4, .l a5, .l a6] =
 Lqba (some 3) [.i 0, .i a0, .i a1, .i a2, .i a3, .l a4, .l a5, .l a6, .l ([] : Rw)] := (zd _ _).trans (by kernel_rfl)
theorem eqba_3 (a0 a1 a2 a3 a4 : Int) (a5 a6 a7 a8 : Rw) : Lqba (some 3) [.i a0, .i a1, .i a2, .i a3, .i a4, .l a5, .l a6, .l a7, .l a8] =
 cond (decide (a0 < (a6.length : Int))) (
 cond (inb a0 a6.length) (
 (Lqp none [.l a8, .s ((rd a6 a0.toNat 1).str)]).bind fun y1 =>
 cond (!(g y1 0).bool) (
 cond (inb a0 a6.length) (
 cond (decide (a8.length + ([[.s ((rd a6 a0.toNat 1).str)]] : Rw).length ≤ most)) (
 Lqba (some 3) [.i (IntKind.i64.wrap (a0 + 1)), .i a1, .i a2, .i a3, .i a4, .l a5, .l a6, .l a7, .l (a8 ++ ([[.s ((rd a6 a0.toNat 1).str)]] : Rw))]) (
 none)) (
 none)) (
 Lqba (some 3) [.i (IntKind.i64.wrap (a0 + 1)), .i a1, .i a2, .i a3, .i a4, .l a5, .l a6, .l a7, .l a8])) (
 none)) (
 Lqba (some 8) [.i 0, .i a1, .i a2, .i a3, .i a4, .l a5, .l a6, .l a7, .l a8]) := (zd _ _).trans (by kernel_rfl)
theorem eqba_8 (a0 a1 a2 a3 a4 : Int) (a5 a6 a7 a8 : Rw) : Lqba (some 8) [.i a0, .i a1, .i a2, .i a3, .i a4, .l a5, .l a6, .l a7, .l a8] =
 cond (decide (a0 < (a7.length : Int))) (
 cond (inb a0 a7.length) (
 (Lqp none [.l a8, .s ((rd a7 a0.toNat 1).str)]).bind fun y1 =>
 cond (!(g y1 0).bool) (
 cond (inb a0 a7.length) (
 cond (decide (a8.length + ([[.s ((rd a7 a0.toNat 1).str)]] : Rw).length ≤ most)) (
 Lqba (some 8) [.i (IntKind.i64.wrap (a0 + 1)), .i a1, .i a2, .i a3, .i a4, .l a5, .l a6, .l a7, .l (a8 ++ ([[.s ((rd a7 a0.toNat 1).str)]] : Rw))]) (
 none)) (
 none)) (
 Lqba (some 8) [.i (IntKind.i64.wrap (a0 + 1)), .i a1, .i a2, .i a3, .i a4, .l a5, .l a6, .l a7, .l a8])) (
 none)) (
 some [.l a8]) := (zd _ _).trans (by kernel_rfl)
theorem kqba : SigOk Tryz.prog (dqba.sig (Lqba none)) ∧ (dqba.sig (Lqba none)).ok = true := zf (zb kqp (by kernel_rfl) ze) (by kernel_rfl) (by kernel_rfl) (by kernel_rfl)
def dqbo : FD := { fn := 208, nb := 0, pre := ⟨[.ag [.i .i64 0, .i .i64 1, .i .i64 2, .i .i64 3, .fz 90 false 4, .fz 156 false 5, .fz 158 false 6], .sc (.i .i64 7)], []⟩, post := ⟨[.sc (.i .i64 0)], []⟩, sh := false, cuts := [⟨3, [1, 2, 5, 6], ⟨[.sc (.i .i64 0), .sc (.pt 0 0), .sc (.i .i64 1), .sc (.i .i64 2)], [.bx [.i .i64 3, .i .i64 4, .i .i64 5, .i .i64 6, .fz 90 false 7, .fz 156 false 8, .fz 158 false 9]]⟩⟩] }
noncomputable def Lqbo : Option Nat → Lv → Option Lv := Lim Tryz.prog [] dqbo Tryz.f208
theorem eqbo_i (a0 a1 a2 a3 : Int) (a4 a5 a6 : Rw) (a7 : Int) : Lqbo none [.i a0, .i a1, .i a2, .i a3, .l a4, .l a5, .l a6, .i a7] =
 Lqbo (some 3) [.i a7, .i (-1), .i 0, .i a0, .i a1, .i a2, .i a3, .l a4, .l a5, .l a6] := (zd _ _).trans (by kernel_rfl)
theorem eqbo_3 (a0 a1 a2 a3 a4 a5 a6 : Int) (a7 a8 a9 : Rw) : Lqbo (some 3) [.i a0, .i a1, .i a2, .i a3, .i a4, .i a5, .i a6, .l a7, .l a8, .l a9] =
 cond (decide (a2 < (a7.length : Int))) (
 cond (inb a2 a7.length) (
 cond (decide ((rd a7 a2.toNat 1).int < a0)) (
 cond (decide (a1 < 0)) (
 Lqbo (some 3) [.i a0, .i a2, .i (IntKind.i64.wrap (a2 + 1)), .i a3, .i a4, .i a5, .i a6, .l a7, .l a8, .l a9]) (
 cond (inb a2 a7.length) (
 cond (inb a1 a7.length) (
 cond (decide ((rd a7 a1.toNat 1).int < (rd a7 a2.toNat 1).int)) (
 Lqbo (some 3) [.i a0, .i a2, .i (IntKind.i64.wrap (a2 + 1)), .i a3, .i a4, .i a5, .i a6, .l a7, .l a8, .l a9]) (
 Lqbo (some 3) [.i a0, .i a1, .i (IntKind.i64.wrap (a2 + 1)), .i a3, .i a4, .i a5, .i a6, .l a7, .l a8, .l a9])) (
 none)) (
 none))) (
 Lqbo (some 3) [.i a0, .i a1, .i (IntKind.i64.wrap (a2 + 1)), .i a3, .i a4, .i a5, .i a6, .l a7, .l a8, .l a9])) (
 none)) (
 some [.i a1]) := (zd _ _).trans (by kernel_rfl)
theorem kqbo : SigOk Tryz.prog (dqbo.sig (Lqbo none)) ∧ (dqbo.sig (Lqbo none)).ok = true := zf ze (by kernel_rfl) (by kernel_rfl) (by kernel_rfl)
def dq8 : FD := { fn := 183, nb := 0, pre := ⟨[.ag [.i .i64 0, .i .i64 1, .i .i64 2, .i .i64 3, .fz 90 false 4, .fz 156 false 5, .fz 158 false 6], .sc (.s 7)], []⟩, post := ⟨[.ag [.i .i64 0, .i .i64 1, .i .i64 2, .i .i64 3, .i .i64 4, .ow 0, .fz 156 false 5, .fz 158 false 6, .s 7, .i .i64 8, .s 9, .s 10]], [.rw 90 false 11]⟩, sh := true, cuts := [⟨7, [1, 2, 4, 5, 6], ⟨[.sc (.s 0), .sc (.pt 0 0), .sc (.pt 1 0), .sc (.ow 2), .sc (.i .i64 1)], [.bx [.i .i64 2, .i .i64 3, .i .i64 4, .i .i64 5, .fz 90 false 6, .fz 156 false 7, .fz 158 false 8], .bx [.i .i64 9, .i .i64 10, .i .i64 11, .i .i64 12, .i .i64 13, .ow 3, .ow 4, .ow 5, .s 14, .i .i64 15, .s 16, .s 17], .rw 90 false 18, .rw 90 true 19, .rw 156 true 20, .rw 158 true 21]⟩⟩] }
noncomputable def Lq8 : Option Nat → Lv → Option Lv := Lim Tryz.prog [dqg.sig (Lqg none), dqp.sig (Lqp none), dqw.sig (Lqw none)] dq8 Tryz.f183
theorem eq8_i (a0 a1 a2 a3 : Int) (a4 a5 a6 : Rw) (a7 : ByteArray) : Lq8 none [.i a0, .i a1, .i a2, .i a3, .l a4, .l a5, .l a6, .s a7] =
 (Lqg none [.i a0, .i a1, .i a2, .i a3, .l a4, .l a5, .l a6, .s a7]).bind fun y1 =>
 cond (decide ((g y1 0).int < 0)) (
 some [.i 2, .i 0, .i 0, .i 0, .i 0, .l ([]), .l ([]), .s (⟨#[]⟩ : ByteArray), .i 0, .s (⟨#[]⟩ : ByteArray), .s (⟨#[]⟩ : ByteArray), .l []]) (
 (Lqw none [.i a0, .i a1, .i a2, .i a3, .l a4, .l a5, .l a6, .s a7]).bind fun y2 =>
 cond ((g y2 0).bool) (
 some [.i 6, .i 0, .i 0, .i 0, .i 0, .l ([]), .l ([]), .s (⟨#[]⟩ : ByteArray), .i 0, .s (⟨#[]⟩ : ByteArray), .s (⟨#[]⟩ : ByteArray), .l []]) (
 Lq8 (some 7) [.s a7, .i 0, .i a0, .i a1, .i a2, .i a3, .l a4, .l a5, .l a6, .i 0, .i 0, .i 0, .i 0, .i 0, .s (⟨#[]⟩ : ByteArray), .i 0, .s (⟨#[]⟩ : ByteArray), .s (⟨#[]⟩ : ByteArray), .l ([] : Rw), .l [], .l [], .l []])) := (zd _ _).trans (by kernel_rfl)
theorem eq8_7 (a0 : ByteArray) (a1 a2 a3 a4 a5 : Int) (a6 a7 a8 : Rw) (a9 a10 a11 a12 a13 : Int) (a14 : ByteArray) (a15 : Int) (a16 a17 : ByteArray) (a18 a19 a20 a21 : Rw) : Lq8 (some 7) [.s a0, .i a1, .i a2, .i a3, .i a4, .i a5, .l a6, .l a7, .l a8, .i a9, .i a10, .i a11, .i a12, .i a13, .s a14, .i a15, .s a16, .s a17, .l a18, .l a19, .l a20, .l a21] =
 cond (decide (a1 < (a6.length : Int))) (
 cond (inb a1 a6.length) (
 (Lqp none [.l ((rd a6 a1.toNat 3).list), .s a0]).bind fun y1 =>
 cond ((g y1 0).bool) (
 some [.i 6, .i 0, .i 0, .i 0, .i 0, .l ([]), .l ([]), .s (⟨#[]⟩ : ByteArray), .i 0, .s (⟨#[]⟩ : ByteArray), .s (⟨#[]⟩ : ByteArray), .l []]) (
 cond (inb a1 a6.length) (
 cond (!Eng.seq ((rd a6 a1.toNat 0).str) a0) (
 cond (inb a1 a6.length) (
 cond (decide (a18.length + ([[.s ((rd a6 a1.toNat 0).str), .i ((rd a6 a1.toNat 1).int), .s ((rd a6 a1.toNat 2).str), .l ((rd a6 a1.toNat 3).list)]] : Rw).length ≤ most)) (
 Lq8 (some 7) [.s a0, .i (IntKind.i64.wrap (a1 + 1)), .i a2, .i a3, .i a4, .i a5, .l a6, .l a7, .l a8, .i a9, .i a10, .i a11, .i a12, .i a13, .s a14, .i a15, .s a16, .s a17, .l (a18 ++ ([[.s ((rd a6 a1.toNat 0).str), .i ((rd a6 a1.toNat 1).int), .s ((rd a6 a1.toNat 2).str), .l ((rd a6 a1.toNat 3).list)]] : Rw)), .l a19, .l a20, .l a21]) (
 none)) (
 none)) (
 Lq8 (some 7) [.s a0, .i (IntKind.i64.wrap (a1 + 1)), .i a2, .i a3, .i a4, .i a5, .l a6, .l a7, .l a8, .i a9, .i a10, .i a11, .i a12, .i a13, .s a14, .i a15, .s a16, .s a17, .l a18, .l a19, .l a20, .l a21])) (
 none))) (
 none)) (
 some [.i 0, .i a2, .i a3, .i a4, .i a5, .l a7, .l a8, .s (⟨#[]⟩ : ByteArray), .i 0, .s (⟨#[]⟩ : ByteArray), .s (⟨#[]⟩ : ByteArray), .l a18]) := (zd _ _).trans (by kernel_rfl)
theorem kq8 : SigOk Tryz.prog (dq8.sig (Lq8 none)) ∧ (dq8.sig (Lq8 none)).ok = true := zf (zb kqg (by kernel_rfl) (zb kqp (by kernel_rfl) (zb kqw (by kernel_rfl) ze))) (by kernel_rfl) (by kernel_rfl) (by kernel_rfl)
end KV
end
