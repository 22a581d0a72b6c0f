/- Walks of Go functions, printed by a program of ours. -/
import Derived.Test.YtbgmclgeikflaaaGreatProg
import Derived.Test.YtbgmclgeikflaaaGreatM1
import Derived.Test.YtbgmclgeikflaaaGreatM2
set_option linter.unusedSimpArgs false
set_option linter.unusedVariables false
set_option linter.unusedSectionVars false
section
set_option maxRecDepth 100000
namespace KV
open Go Go.Eng Go.Proofs
def dqp : FD := { fn := 86, nb := 0, pre := ⟨[.sc (.i .i64 0)], []⟩, post := ⟨[.sc (.b 0)], []⟩, sh := false, cuts := [] }
noncomputable def Lqp : Option Nat → Lv → Option Lv := Lim Tryz.prog [] dqp Tryz.f86
theorem eqp_i (a0 : Int) : Lqp none [.i a0] =
 cond (decide (1 ≤ a0)) (
 some [.b (decide (a0 ≤ 8))]) (
 some [.b false]) := (Lim_eq _ _).trans (by kernel_rfl)
theorem kqp : SigOk Tryz.prog (dqp.sig (Lqp none)) ∧ (dqp.sig (Lqp none)).ok = true := sound_lim known_nil (by kernel_rfl) (by kernel_rfl) (by kernel_rfl)
def dqba : FD := { fn := 127, nb := 0, pre := ⟨[.sc (.s 0)], []⟩, post := ⟨[.sc (.b 0)], []⟩, sh := false, cuts := [⟨2, [0, 3], ⟨[.sc (.s 0), .sc (.i .i64 1)], []⟩⟩] }
noncomputable def Lqba : Option Nat → Lv → Option Lv := Lim Tryz.prog [] dqba Tryz.f127
theorem eqba_i (a0 : ByteArray) : Lqba none [.s a0] =
 Lqba (some 2) [.s a0, .i 0] := (Lim_eq _ _).trans (by kernel_rfl)
theorem eqba_2 (a0 : ByteArray) (a1 : Int) : Lqba (some 2) [.s a0, .i a1] =
 cond (decide (a1 < (a0.size : Int))) (
 cond (inb a1 a0.size) (
 cond (decide ((byteAt a0 a1.toNat) < 33)) (
 some [.b false]) (
 cond (inb a1 a0.size) (
 cond (decide (126 < (byteAt a0 a1.toNat))) (
 some [.b false]) (
 Lqba (some 2) [.s a0, .i (IntKind.i64.wrap (a1 + 1))])) (
 none))) (
 none)) (
 cond (decide (1 ≤ (a0.size : Int))) (
 some [.b (decide ((a0.size : Int) ≤ 40))]) (
 some [.b false])) := (Lim_eq _ _).trans (by kernel_rfl)
theorem kqba : SigOk Tryz.prog (dqba.sig (Lqba none)) ∧ (dqba.sig (Lqba none)).ok = true := sound_lim known_nil (by kernel_rfl) (by kernel_rfl) (by kernel_rfl)
def dqe : FD := { fn := 128, nb := 0, pre := ⟨[.ag [.i .i64 0, .i .i64 1, .i .i64 2, .i .i64 3, .fz 90 false 4, .fz 156 false 5, .fz 158 false 6], .sc (.s 7)], []⟩, post := ⟨[.sc (.i .i64 0)], []⟩, sh := false, cuts := [⟨2, [1, 2, 5], ⟨[.sc (.s 0), .sc (.pt 0 0), .sc (.i .i64 1)], [.bx [.i .i64 2, .i .i64 3, .i .i64 4, .i .i64 5, .fz 90 false 6, .fz 156 false 7, .fz 158 false 8]]⟩⟩] }
noncomputable def Lqe : Option Nat → Lv → Option Lv := Lim Tryz.prog [] dqe Tryz.f128
theorem eqe_i (a0 : Int) (a1 : Int) (a2 : Int) (a3 : Int) (a4 : Rw) (a5 : Rw) (a6 : Rw) (a7 : ByteArray) : Lqe none [.i a0, .i a1, .i a2, .i a3, .l a4, .l a5, .l a6, .s a7] =
 Lqe (some 2) [.s a7, .i 0, .i a0, .i a1, .i a2, .i a3, .l a4, .l a5, .l a6] := (Lim_eq _ _).trans (by kernel_rfl)
theorem eqe_2 (a0 : ByteArray) (a1 : Int) (a2 : Int) (a3 : Int) (a4 : Int) (a5 : Int) (a6 : Rw) (a7 : Rw) (a8 : Rw) : Lqe (some 2) [.s a0, .i a1, .i a2, .i a3, .i a4, .i a5, .l a6, .l a7, .l a8] =
 cond (decide (a1 < (a6.length : Int))) (
 cond (inb a1 a6.length) (
 cond (Eng.seq ((rd a6 a1.toNat 0).str) a0) (
 some [.i a1]) (
 Lqe (some 2) [.s a0, .i (IntKind.i64.wrap (a1 + 1)), .i a2, .i a3, .i a4, .i a5, .l a6, .l a7, .l a8])) (
 none)) (
 some [.i (-1)]) := (Lim_eq _ _).trans (by kernel_rfl)
theorem kqe : SigOk Tryz.prog (dqe.sig (Lqe none)) ∧ (dqe.sig (Lqe none)).ok = true := sound_lim known_nil (by kernel_rfl) (by kernel_rfl) (by kernel_rfl)
def dqv : FD := { fn := 87, nb := 0, pre := ⟨[.sc (.i .i64 0), .sc (.i .i64 1), .sc (.i .i64 2)], []⟩, post := ⟨[.sc (.b 0)], []⟩, sh := false, cuts := [] }
noncomputable def Lqv : Option Nat → Lv → Option Lv := Lim Tryz.prog [] dqv Tryz.f87
theorem eqv_i (a0 : Int) (a1 : Int) (a2 : Int) : Lqv none [.i a0, .i a1, .i a2] =
 cond (decide (a1 ≤ a0)) (
 some [.b (decide (a0 ≤ a2))]) (
 some [.b false]) := (Lim_eq _ _).trans (by kernel_rfl)
theorem kqv : SigOk Tryz.prog (dqv.sig (Lqv none)) ∧ (dqv.sig (Lqv none)).ok = true := sound_lim known_nil (by kernel_rfl) (by kernel_rfl) (by kernel_rfl)
def dq1 : FD := { fn := 92, nb := 0, pre := ⟨[.ag [.s 0, .fz 9 false 1], .sc (.i .i64 2)], []⟩, post := ⟨[.sc (.b 0)], []⟩, sh := false, cuts := [⟨4, [1, 2, 5], ⟨[.sc (.i .i64 0), .sc (.pt 0 0), .sc (.i .i64 1)], [.bx [.s 2, .fz 9 false 3]]⟩⟩] }
noncomputable def Lq1 : Option Nat → Lv → Option Lv := Lim Tryz.prog [dqp.sig (Lqp none)] dq1 Tryz.f92
theorem eq1_i (a0 : ByteArray) (a1 : Rw) (a2 : Int) : Lq1 none [.s a0, .l a1, .i a2] =
 (Lqp none [.i a2]).bind fun y1 =>
 cond (!(g y1 0).bool) (
 some [.b false]) (
 cond (decide (2000 < (a0.size : Int))) (
 some [.b false]) (
 cond (decide (30 < (a1.length : Int))) (
 some [.b false]) (
 Lq1 (some 4) [.i a2, .i 0, .s a0, .l a1]))) := (Lim_eq _ _).trans (by kernel_rfl)
theorem eq1_4 (a0 : Int) (a1 : Int) (a2 : ByteArray) (a3 : Rw) : Lq1 (some 4) [.i a0, .i a1, .s a2, .l a3] =
 cond (decide (a1 < (a3.length : Int))) (
 cond (inb a1 a3.length) (
 cond ((((rd a3 a1.toNat 0).str).size : Int) != a0) (
 some [.b false]) (
 cond (decide (0 < a1)) (
 cond (inb (IntKind.i64.wrap (a1 - 1)) a3.length) (
 cond (inb a1 a3.length) (
 cond (!slt ((rd a3 ((IntKind.i64.wrap (a1 - 1)).toNat) 0).str) ((rd a3 a1.toNat 0).str)) (
 some [.b false]) (
 Lq1 (some 4) [.i a0, .i (IntKind.i64.wrap (a1 + 1)), .s a2, .l a3])) (
 none)) (
 none)) (
 Lq1 (some 4) [.i a0, .i (IntKind.i64.wrap (a1 + 1)), .s a2, .l a3]))) (
 none)) (
 some [.b true]) := (Lim_eq _ _).trans (by kernel_rfl)
theorem kq1 : SigOk Tryz.prog (dq1.sig (Lq1 none)) ∧ (dq1.sig (Lq1 none)).ok = true := sound_lim (known_cons kqp (by kernel_rfl) known_nil) (by kernel_rfl) (by kernel_rfl) (by kernel_rfl)
def dqr : FD := { fn := 22, nb := 0, pre := ⟨[.ag [.s 0, .fz 9 false 1], .sc (.i .i64 2)], []⟩, post := ⟨[.sc (.s 0)], []⟩, sh := false, cuts := [⟨5, [2, 5, 6], ⟨[.sc (.pt 0 0), .sc (.ow 1), .sc (.i .i64 0)], [.bx [.s 1, .fz 9 false 2], .rw 5 true 3]⟩⟩] }
noncomputable def Lqr : Option Nat → Lv → Option Lv := Lim Tryz.prog [dq1.sig (Lq1 none)] dqr Tryz.f22
theorem eqr_i (a0 : ByteArray) (a1 : Rw) (a2 : Int) : Lqr none [.s a0, .l a1, .i a2] =
 (Lq1 none [.s a0, .l a1, .i a2]).bind fun y1 =>
 cond (!(g y1 0).bool) (
 some [.s (⟨#[]⟩ : ByteArray)]) (
 Lqr (some 5) [.i 0, .s a0, .l a1, .l ([[.i (IntKind.u8.wrap (a1.length : Int))]] : Rw)]) := (Lim_eq _ _).trans (by kernel_rfl)
theorem eqr_5 (a0 : Int) (a1 : ByteArray) (a2 : Rw) (a3 : Rw) : Lqr (some 5) [.i a0, .s a1, .l a2, .l a3] =
 cond (decide (a0 < (a2.length : Int))) (
 cond (inb a0 a2.length) (
 cond (decide (a3.length + (rowsOf ((rd a2 a0.toNat 0).str)).length ≤ most)) (
 Lqr (some 5) [.i (IntKind.i64.wrap (a0 + 1)), .s a1, .l a2, .l (a3 ++ (rowsOf ((rd a2 a0.toNat 0).str)))]) (
 none)) (
 none)) (
 cond (decide (a3.length + (rowsOf a1).length ≤ most)) (
 some [.s (bytesOf (a3 ++ (rowsOf a1)))]) (
 none)) := (Lim_eq _ _).trans (by kernel_rfl)
theorem kqr : SigOk Tryz.prog (dqr.sig (Lqr none)) ∧ (dqr.sig (Lqr none)).ok = true := sound_lim (known_cons kq1 (by kernel_rfl) known_nil) (by kernel_rfl) (by kernel_rfl) (by kernel_rfl)
def dqk : FD := { fn := 21, nb := 0, pre := ⟨[.sc (.s 0), .sc (.i .i64 1)], []⟩, post := ⟨[.sc (.s 0)], []⟩, sh := false, cuts := [⟨5, [0, 1, 5, 6], ⟨[.sc (.s 0), .sc (.i .i64 1), .sc (.i .u64 2), .sc (.i .i64 3)], []⟩⟩, ⟨10, [1, 5, 7, 8], ⟨[.sc (.i .i64 0), .sc (.i .u64 1), .sc (.ow 0), .sc (.i .i64 2)], [.rw 5 true 3]⟩⟩] }
noncomputable def Lqk : Option Nat → Lv → Option Lv := Lim Tryz.prog [dqp.sig (Lqp none)] dqk Tryz.f21
theorem eqk_i (a0 : ByteArray) (a1 : Int) : Lqk none [.s a0, .i a1] =
 (Lqp none [.i a1]).bind fun y1 =>
 cond (!(g y1 0).bool) (
 some [.s (⟨#[]⟩ : ByteArray)]) (
 Lqk (some 5) [.s a0, .i a1, .i 14695981039346656037, .i 0]) := (Lim_eq _ _).trans (by kernel_rfl)
theorem eqk_5 (a0 : ByteArray) (a1 : Int) (a2 : Int) (a3 : Int) : Lqk (some 5) [.s a0, .i a1, .i a2, .i a3] =
 cond (decide (a3 < (a0.size : Int))) (
 cond (inb a3 a0.size) (
 Lqk (some 5) [.s a0, .i a1, .i (IntKind.u64.wrap ((IntKind.u64.wrap (BitVec.ofInt (IntKind.u64).bits a2 ^^^ BitVec.ofInt (IntKind.u64).bits (IntKind.u64.wrap (byteAt a0 a3.toNat))).toNat) * 1099511628211)), .i (IntKind.i64.wrap (a3 + 1))]) (
 none)) (
 Lqk (some 10) [.i a1, .i a2, .i 0, .l ([] : Rw)]) := (Lim_eq _ _).trans (by kernel_rfl)
theorem eqk_10 (a0 : Int) (a1 : Int) (a2 : Int) (a3 : Rw) : Lqk (some 10) [.i a0, .i a1, .i a2, .l a3] =
 cond (decide (a2 < a0)) (
 cond (decide (([[.i (IntKind.u8.wrap (a1.tmod 256))]] : Rw).length + a3.length ≤ most)) (
 Lqk (some 10) [.i a0, .i (IntKind.u64.wrap (a1.tdiv 256)), .i (IntKind.i64.wrap (a2 + 1)), .l (([[.i (IntKind.u8.wrap (a1.tmod 256))]] : Rw) ++ a3)]) (
 none)) (
 some [.s (bytesOf a3)]) := (Lim_eq _ _).trans (by kernel_rfl)
theorem kqk : SigOk Tryz.prog (dqk.sig (Lqk none)) ∧ (dqk.sig (Lqk none)).ok = true := sound_lim (known_cons kqp (by kernel_rfl) known_nil) (by kernel_rfl) (by kernel_rfl) (by kernel_rfl)
def dqc : FD := { fn := 126, nb := 0, pre := ⟨[.ag [.i .i64 0, .i .i64 1, .i .i64 2, .i .i64 3, .fz 90 false 4, .fz 156 false 5, .fz 158 false 6]], []⟩, post := ⟨[.sc (.b 0)], []⟩, sh := false, cuts := [⟨4, [1, 3, 4, 5], ⟨[.sc (.pt 0 0), .sc (.ow 1), .sc (.ow 2), .sc (.i .i64 0)], [.bx [.i .i64 1, .i .i64 2, .i .i64 3, .i .i64 4, .fz 90 false 5, .fz 156 false 6, .fz 158 false 7], .rw 4 true 8, .rw 3 true 9]⟩⟩, ⟨14, [1, 3, 4, 5, 6, 7], ⟨[.sc (.pt 0 0), .sc (.ow 1), .sc (.ow 2), .sc (.i .i64 0), .sc (.pt 3 0), .sc (.i .i64 1)], [.bx [.i .i64 2, .i .i64 3, .i .i64 4, .i .i64 5, .fz 90 false 6, .fz 156 false 7, .fz 158 false 8], .rw 4 true 9, .rw 3 true 10, .bx [.s 11, .i .i64 12, .s 13, .fz 9 false 14]]⟩⟩, ⟨20, [1, 8], ⟨[.sc (.pt 0 0), .sc (.i .i64 0)], [.bx [.i .i64 1, .i .i64 2, .i .i64 3, .i .i64 4, .fz 90 false 5, .fz 156 false 6, .fz 158 false 7]]⟩⟩, ⟨23, [1, 8, 9], ⟨[.sc (.pt 0 0), .sc (.i .i64 0), .sc (.i .i64 1)], [.bx [.i .i64 2, .i .i64 3, .i .i64 4, .i .i64 5, .fz 90 false 6, .fz 156 false 7, .fz 158 false 8]]⟩⟩] }
noncomputable def Lqc : Option Nat → Lv → Option Lv := Lim Tryz.prog [dq1.sig (Lq1 none), dqr.sig (Lqr none), dqk.sig (Lqk none), dqe.sig (Lqe none), dqv.sig (Lqv none)] dqc Tryz.f126
theorem eqc_i (a0 : Int) (a1 : Int) (a2 : Int) (a3 : Int) (a4 : Rw) (a5 : Rw) (a6 : Rw) : Lqc none [.i a0, .i a1, .i a2, .i a3, .l a4, .l a5, .l a6] =
 Lqc (some 4) [.i 0, .i a0, .i a1, .i a2, .i a3, .l a4, .l a5, .l a6, .l (List.replicate 601 ([.b false] : List C)), .l ([] : Rw)] := (Lim_eq _ _).trans (by kernel_rfl)
theorem eqc_4 (a0 : Int) (a1 : Int) (a2 : Int) (a3 : Int) (a4 : Int) (a5 : Rw) (a6 : Rw) (a7 : Rw) (a8 : Rw) (a9 : Rw) : Lqc (some 4) [.i a0, .i a1, .i a2, .i a3, .i a4, .l a5, .l a6, .l a7, .l a8, .l a9] =
 cond (decide (a0 < (a5.length : Int))) (
 cond (inb a0 a5.length) (
 (Lq1 none [.s ((rd a5 a0.toNat 2).str), .l ((rd a5 a0.toNat 3).list), .i a1]).bind fun y1 =>
 cond (!(g y1 0).bool) (
 some [.b false]) (
 (Lqr none [.s ((rd a5 a0.toNat 2).str), .l ((rd a5 a0.toNat 3).list), .i a1]).bind fun y2 =>
 (Lqk none [.s ((g y2 0).str), .i a1]).bind fun y3 =>
 cond (!Eng.seq ((rd a5 a0.toNat 0).str) ((g y3 0).str)) (
 some [.b false]) (
 cond (decide (0 < a0)) (
 cond (inb (IntKind.i64.wrap (a0 - 1)) a5.length) (
 cond (!slt ((rd a5 ((IntKind.i64.wrap (a0 - 1)).toNat) 0).str) ((rd a5 a0.toNat 0).str)) (
 some [.b false]) (
 (Lqv none [.i ((rd a5 a0.toNat 1).int), .i 1, .i a4]).bind fun y4 =>
 cond (!(g y4 0).bool) (
 some [.b false]) (
 cond (decide ((rd a5 a0.toNat 1).int ≤ 600)) (
 cond (inb ((rd a5 a0.toNat 1).int) a8.length) (
 cond ((rd a8 (((rd a5 a0.toNat 1).int).toNat) 0).bool) (
 some [.b false]) (
 cond (inb ((rd a5 a0.toNat 1).int) a8.length) (
 Lqc (some 4) [.i (IntKind.i64.wrap (a0 + 1)), .i a1, .i a2, .i a3, .i a4, .l a5, .l a6, .l a7, .l (wrs a8 (((rd a5 a0.toNat 1).int).toNat) 0 ([.b true] : List C)), .l a9]) (
 none))) (
 none)) (
 Lqc (some 14) [.i a0, .i 0, .i a1, .i a2, .i a3, .i a4, .l a5, .l a6, .l a7, .l a8, .l a9, .s ((rd a5 a0.toNat 0).str), .i ((rd a5 a0.toNat 1).int), .s ((rd a5 a0.toNat 2).str), .l ((rd a5 a0.toNat 3).list)])))) (
 none)) (
 (Lqv none [.i ((rd a5 a0.toNat 1).int), .i 1, .i a4]).bind fun y5 =>
 cond (!(g y5 0).bool) (
 some [.b false]) (
 cond (decide ((rd a5 a0.toNat 1).int ≤ 600)) (
 cond (inb ((rd a5 a0.toNat 1).int) a8.length) (
 cond ((rd a8 (((rd a5 a0.toNat 1).int).toNat) 0).bool) (
 some [.b false]) (
 cond (inb ((rd a5 a0.toNat 1).int) a8.length) (
 Lqc (some 4) [.i (IntKind.i64.wrap (a0 + 1)), .i a1, .i a2, .i a3, .i a4, .l a5, .l a6, .l a7, .l (wrs a8 (((rd a5 a0.toNat 1).int).toNat) 0 ([.b true] : List C)), .l a9]) (
 none))) (
 none)) (
 Lqc (some 14) [.i a0, .i 0, .i a1, .i a2, .i a3, .i a4, .l a5, .l a6, .l a7, .l a8, .l a9, .s ((rd a5 a0.toNat 0).str), .i ((rd a5 a0.toNat 1).int), .s ((rd a5 a0.toNat 2).str), .l ((rd a5 a0.toNat 3).list)])))))) (
 none)) (
 Lqc (some 20) [.i 0, .i a1, .i a2, .i a3, .i a4, .l a5, .l a6, .l a7]) := (Lim_eq _ _).trans (by kernel_rfl)
theorem eqc_14 (a0 : Int) (a1 : Int) (a2 : Int) (a3 : Int) (a4 : Int) (a5 : Int) (a6 : Rw) (a7 : Rw) (a8 : Rw) (a9 : Rw) (a10 : Rw) (a11 : ByteArray) (a12 : Int) (a13 : ByteArray) (a14 : Rw) : Lqc (some 14) [.i a0, .i a1, .i a2, .i a3, .i a4, .i a5, .l a6, .l a7, .l a8, .l a9, .l a10, .s a11, .i a12, .s a13, .l a14] =
 cond (decide (a1 < (a10.length : Int))) (
 cond (inb a1 a10.length) (
 cond ((rd a10 a1.toNat 0).int == a12) (
 some [.b false]) (
 Lqc (some 14) [.i a0, .i (IntKind.i64.wrap (a1 + 1)), .i a2, .i a3, .i a4, .i a5, .l a6, .l a7, .l a8, .l a9, .l a10, .s a11, .i a12, .s a13, .l a14])) (
 none)) (
 cond (decide (a10.length + ([[.i a12]] : Rw).length ≤ most)) (
 Lqc (some 4) [.i (IntKind.i64.wrap (a0 + 1)), .i a2, .i a3, .i a4, .i a5, .l a6, .l a7, .l a8, .l a9, .l (a10 ++ ([[.i a12]] : Rw))]) (
 none)) := (Lim_eq _ _).trans (by kernel_rfl)
theorem eqc_20 (a0 : Int) (a1 : Int) (a2 : Int) (a3 : Int) (a4 : Int) (a5 : Rw) (a6 : Rw) (a7 : Rw) : Lqc (some 20) [.i a0, .i a1, .i a2, .i a3, .i a4, .l a5, .l a6, .l a7] =
 cond (decide (a0 < (a5.length : Int))) (
 Lqc (some 23) [.i a0, .i 0, .i a1, .i a2, .i a3, .i a4, .l a5, .l a6, .l a7]) (
 some [.b true]) := (Lim_eq _ _).trans (by kernel_rfl)
theorem eqc_23 (a0 : Int) (a1 : Int) (a2 : Int) (a3 : Int) (a4 : Int) (a5 : Int) (a6 : Rw) (a7 : Rw) (a8 : Rw) : Lqc (some 23) [.i a0, .i a1, .i a2, .i a3, .i a4, .i a5, .l a6, .l a7, .l a8] =
 cond (inb a0 a6.length) (
 cond (decide (a1 < (((rd a6 a0.toNat 3).list).length : Int))) (
 cond (inb a0 a6.length) (
 cond (inb a1 (((rd a6 a0.toNat 3).list).length)) (
 (Lqe none [.i a2, .i a3, .i a4, .i a5, .l a6, .l a7, .l a8, .s ((rd ((rd a6 a0.toNat 3).list) a1.toNat 0).str)]).bind fun y1 =>
 cond (decide ((g y1 0).int < 0)) (
 some [.b false]) (
 cond (inb ((g y1 0).int) a6.length) (
 cond (inb a0 a6.length) (
 cond (decide ((rd a6 a0.toNat 1).int ≤ (rd a6 (((g y1 0).int).toNat) 1).int)) (
 some [.b false]) (
 Lqc (some 23) [.i a0, .i (IntKind.i64.wrap (a1 + 1)), .i a2, .i a3, .i a4, .i a5, .l a6, .l a7, .l a8])) (
 none)) (
 none))) (
 none)) (
 none)) (
 Lqc (some 20) [.i (IntKind.i64.wrap (a0 + 1)), .i a2, .i a3, .i a4, .i a5, .l a6, .l a7, .l a8])) (
 none) := (Lim_eq _ _).trans (by kernel_rfl)
theorem kqc : SigOk Tryz.prog (dqc.sig (Lqc none)) ∧ (dqc.sig (Lqc none)).ok = true := sound_lim (known_cons kq1 (by kernel_rfl) (known_cons kqr (by kernel_rfl) (known_cons kqk (by kernel_rfl) (known_cons kqe (by kernel_rfl) (known_cons kqv (by kernel_rfl) known_nil))))) (by kernel_rfl) (by kernel_rfl) (by kernel_rfl)
def dql : FD := { fn := 42, nb := 0, pre := ⟨[.ag [.i .i64 0, .i .i64 1, .i .i64 2, .i .i64 3, .fz 90 false 4, .fz 156 false 5, .fz 158 false 6]], []⟩, post := ⟨[.sc (.b 0)], []⟩, sh := false, cuts := [⟨6, [1, 3], ⟨[.sc (.pt 0 0), .sc (.i .i64 0)], [.bx [.i .i64 1, .i .i64 2, .i .i64 3, .i .i64 4, .fz 90 false 5, .fz 156 false 6, .fz 158 false 7]]⟩⟩, ⟨11, [1, 4], ⟨[.sc (.pt 0 0), .sc (.i .i64 0)], [.bx [.i .i64 1, .i .i64 2, .i .i64 3, .i .i64 4, .fz 90 false 5, .fz 156 false 6, .fz 158 false 7]]⟩⟩] }
noncomputable def Lql : Option Nat → Lv → Option Lv := Lim Tryz.prog [dqp.sig (Lqp none), dqba.sig (Lqba none), dqe.sig (Lqe none), dqv.sig (Lqv none), dqc.sig (Lqc none)] dql Tryz.f42
theorem eql_i (a0 : Int) (a1 : Int) (a2 : Int) (a3 : Int) (a4 : Rw) (a5 : Rw) (a6 : Rw) : Lql none [.i a0, .i a1, .i a2, .i a3, .l a4, .l a5, .l a6] =
 (Lqp none [.i a0]).bind fun y1 =>
 cond (!(g y1 0).bool) (
 some [.b false]) (
 (Lqv none [.i a1, .i 0, .i 1000000000]).bind fun y2 =>
 cond (!(g y2 0).bool) (
 some [.b false]) (
 (Lqv none [.i a2, .i 0, .i 1000000000]).bind fun y3 =>
 cond (!(g y3 0).bool) (
 some [.b false]) (
 (Lqv none [.i a3, .i 0, .i 1000000000]).bind fun y4 =>
 cond (!(g y4 0).bool) (
 some [.b false]) (
 cond (decide (600 < (a4.length : Int))) (
 some [.b false]) (
 cond (decide (100 < (a5.length : Int))) (
 some [.b false]) (
 cond (decide (200 < (a6.length : Int))) (
 some [.b false]) (
 (Lqc none [.i a0, .i a1, .i a2, .i a3, .l a4, .l a5, .l a6]).bind fun y5 =>
 cond (!(g y5 0).bool) (
 some [.b false]) (
 Lql (some 6) [.i 0, .i a0, .i a1, .i a2, .i a3, .l a4, .l a5, .l a6])))))))) := (Lim_eq _ _).trans (by kernel_rfl)
theorem eql_6 (a0 : Int) (a1 : Int) (a2 : Int) (a3 : Int) (a4 : Int) (a5 : Rw) (a6 : Rw) (a7 : Rw) : Lql (some 6) [.i a0, .i a1, .i a2, .i a3, .i a4, .l a5, .l a6, .l a7] =
 cond (decide (a0 < (a6.length : Int))) (
 cond (inb a0 a6.length) (
 (Lqba none [.s ((rd a6 a0.toNat 0).str)]).bind fun y1 =>
 cond (!(g y1 0).bool) (
 some [.b false]) (
 cond (decide (0 < a0)) (
 cond (inb (IntKind.i64.wrap (a0 - 1)) a6.length) (
 cond (inb a0 a6.length) (
 cond (!slt ((rd a6 ((IntKind.i64.wrap (a0 - 1)).toNat) 0).str) ((rd a6 a0.toNat 0).str)) (
 some [.b false]) (
 cond (inb a0 a6.length) (
 (Lqe none [.i a1, .i a2, .i a3, .i a4, .l a5, .l a6, .l a7, .s ((rd a6 a0.toNat 1).str)]).bind fun y2 =>
 cond (decide ((g y2 0).int < 0)) (
 some [.b false]) (
 Lql (some 6) [.i (IntKind.i64.wrap (a0 + 1)), .i a1, .i a2, .i a3, .i a4, .l a5, .l a6, .l a7])) (
 none))) (
 none)) (
 none)) (
 cond (inb a0 a6.length) (
 (Lqe none [.i a1, .i a2, .i a3, .i a4, .l a5, .l a6, .l a7, .s ((rd a6 a0.toNat 1).str)]).bind fun y3 =>
 cond (decide ((g y3 0).int < 0)) (
 some [.b false]) (
 Lql (some 6) [.i (IntKind.i64.wrap (a0 + 1)), .i a1, .i a2, .i a3, .i a4, .l a5, .l a6, .l a7])) (
 none)))) (
 none)) (
 Lql (some 11) [.i 0, .i a1, .i a2, .i a3, .i a4, .l a5, .l a6, .l a7]) := (Lim_eq _ _).trans (by kernel_rfl)
theorem eql_11 (a0 : Int) (a1 : Int) (a2 : Int) (a3 : Int) (a4 : Int) (a5 : Rw) (a6 : Rw) (a7 : Rw) : Lql (some 11) [.i a0, .i a1, .i a2, .i a3, .i a4, .l a5, .l a6, .l a7] =
 cond (decide (a0 < (a7.length : Int))) (
 cond (inb a0 a7.length) (
 (Lqv none [.i ((rd a7 a0.toNat 0).int), .i 1, .i a3]).bind fun y1 =>
 cond (!(g y1 0).bool) (
 some [.b false]) (
 cond (decide (0 < a0)) (
 cond (inb (IntKind.i64.wrap (a0 - 1)) a7.length) (
 cond (decide ((rd a7 a0.toNat 0).int ≤ (rd a7 ((IntKind.i64.wrap (a0 - 1)).toNat) 0).int)) (
 some [.b false]) (
 (Lqe none [.i a1, .i a2, .i a3, .i a4, .l a5, .l a6, .l a7, .s ((rd a7 a0.toNat 1).str)]).bind fun y2 =>
 cond (decide ((g y2 0).int < 0)) (
 some [.b false]) (
 cond (decide ((rd a7 a0.toNat 2).int ≤ a2)) (
 some [.b false]) (
 cond (decide ((IntKind.i64.wrap (a2 + 100000)) < (rd a7 a0.toNat 2).int)) (
 some [.b false]) (
 Lql (some 11) [.i (IntKind.i64.wrap (a0 + 1)), .i a1, .i a2, .i a3, .i a4, .l a5, .l a6, .l a7]))))) (
 none)) (
 (Lqe none [.i a1, .i a2, .i a3, .i a4, .l a5, .l a6, .l a7, .s ((rd a7 a0.toNat 1).str)]).bind fun y3 =>
 cond (decide ((g y3 0).int < 0)) (
 some [.b false]) (
 cond (decide ((rd a7 a0.toNat 2).int ≤ a2)) (
 some [.b false]) (
 cond (decide ((IntKind.i64.wrap (a2 + 100000)) < (rd a7 a0.toNat 2).int)) (
 some [.b false]) (
 Lql (some 11) [.i (IntKind.i64.wrap (a0 + 1)), .i a1, .i a2, .i a3, .i a4, .l a5, .l a6, .l a7])))))) (
 none)) (
 some [.b true]) := (Lim_eq _ _).trans (by kernel_rfl)
theorem kql : SigOk Tryz.prog (dql.sig (Lql none)) ∧ (dql.sig (Lql none)).ok = true := sound_lim (known_cons kqp (by kernel_rfl) (known_cons kqba (by kernel_rfl) (known_cons kqe (by kernel_rfl) (known_cons kqv (by kernel_rfl) (known_cons kqc (by kernel_rfl) known_nil))))) (by kernel_rfl) (by kernel_rfl) (by kernel_rfl)
def dqi : FD := { fn := 76, nb := 0, pre := ⟨[.sc (.fz 9 false 0)], []⟩, post := ⟨[.sc (.ow 0)], [.rw 9 true 0]⟩, sh := false, cuts := [⟨3, [0, 3, 4], ⟨[.sc (.fz 9 false 0), .sc (.ow 0), .sc (.i .i64 1)], [.rw 9 true 2]⟩⟩, ⟨6, [0, 3, 4, 5], ⟨[.sc (.fz 9 false 0), .sc (.ow 0), .sc (.i .i64 1), .sc (.i .i64 2)], [.rw 9 true 3]⟩⟩, ⟨9, [0, 3, 4, 5], ⟨[.sc (.fz 9 false 0), .sc (.ow 0), .sc (.i .i64 1), .sc (.i .i64 2)], [.rw 9 true 3]⟩⟩] }
noncomputable def Lqi : Option Nat → Lv → Option Lv := Lim Tryz.prog [] dqi Tryz.f76
theorem eqi_i (a0 : Rw) : Lqi none [.l a0] =
 Lqi (some 3) [.l a0, .i 0, .l ([] : Rw)] := (Lim_eq _ _).trans (by kernel_rfl)
theorem eqi_3 (a0 : Rw) (a1 : Int) (a2 : Rw) : Lqi (some 3) [.l a0, .i a1, .l a2] =
 cond (decide (a1 < (a0.length : Int))) (
 Lqi (some 6) [.l a0, .i a1, .i 0, .l a2]) (
 some [.l a2]) := (Lim_eq _ _).trans (by kernel_rfl)
theorem eqi_6 (a0 : Rw) (a1 : Int) (a2 : Int) (a3 : Rw) : Lqi (some 6) [.l a0, .i a1, .i a2, .l a3] =
 cond (decide (a2 < (a3.length : Int))) (
 cond (inb a2 a3.length) (
 cond (inb a1 a0.length) (
 cond (slt ((rd a3 a2.toNat 0).str) ((rd a0 a1.toNat 0).str)) (
 Lqi (some 6) [.l a0, .i a1, .i (IntKind.i64.wrap (a2 + 1)), .l a3]) (
 cond (decide (a2 < (a3.length : Int))) (
 cond (inb a2 a3.length) (
 cond (inb a1 a0.length) (
 cond (Eng.seq ((rd a3 a2.toNat 0).str) ((rd a0 a1.toNat 0).str)) (
 Lqi (some 3) [.l a0, .i (IntKind.i64.wrap (a1 + 1)), .l a3]) (
 Lqi (some 9) [.l a0, .i a1, .i a2, .l a3])) (
 none)) (
 none)) (
 Lqi (some 9) [.l a0, .i a1, .i a2, .l a3]))) (
 none)) (
 none)) (
 cond (decide (a2 < (a3.length : Int))) (
 cond (inb a2 a3.length) (
 cond (inb a1 a0.length) (
 cond (Eng.seq ((rd a3 a2.toNat 0).str) ((rd a0 a1.toNat 0).str)) (
 Lqi (some 3) [.l a0, .i (IntKind.i64.wrap (a1 + 1)), .l a3]) (
 Lqi (some 9) [.l a0, .i a1, .i a2, .l a3])) (
 none)) (
 none)) (
 Lqi (some 9) [.l a0, .i a1, .i a2, .l a3])) := (Lim_eq _ _).trans (by kernel_rfl)
theorem eqi_9 (a0 : Rw) (a1 : Int) (a2 : Int) (a3 : Rw) : Lqi (some 9) [.l a0, .i a1, .i a2, .l a3] =
 cond (decide (0 ≤ a2)) (
 cond (decide (a2 ≤ (a3.length : Int))) (
 cond (decide (([] : Rw).length + (Eng.sub a3 0 a2.toNat).length ≤ most)) (
 cond (inb a1 a0.length) (
 cond (decide ((([] : Rw) ++ (Eng.sub a3 0 a2.toNat)).length + ([[.s ((rd a0 a1.toNat 0).str)]] : Rw).length ≤ most)) (
 cond (decide (0 ≤ a2)) (
 cond (decide (a2 ≤ (a3.length : Int))) (
 cond (decide (((([] : Rw) ++ (Eng.sub a3 0 a2.toNat)) ++ ([[.s ((rd a0 a1.toNat 0).str)]] : Rw)).length + (Eng.sub a3 a2.toNat a3.length).length ≤ most)) (
 Lqi (some 3) [.l a0, .i (IntKind.i64.wrap (a1 + 1)), .l (((([] : Rw) ++ (Eng.sub a3 0 a2.toNat)) ++ ([[.s ((rd a0 a1.toNat 0).str)]] : Rw)) ++ (Eng.sub a3 a2.toNat a3.length))]) (
 none)) (
 none)) (
 none)) (
 none)) (
 none)) (
 none)) (
 none)) (
 none) := (Lim_eq _ _).trans (by kernel_rfl)
theorem kqi : SigOk Tryz.prog (dqi.sig (Lqi none)) ∧ (dqi.sig (Lqi none)).ok = true := sound_lim known_nil (by kernel_rfl) (by kernel_rfl) (by kernel_rfl)
def dqg : FD := { fn := 130, nb := 0, pre := ⟨[.sc (.fz 9 false 0), .sc (.s 1)], []⟩, post := ⟨[.sc (.b 0)], []⟩, sh := false, cuts := [⟨2, [0, 1, 5], ⟨[.sc (.fz 9 false 0), .sc (.s 1), .sc (.i .i64 2)], []⟩⟩] }
noncomputable def Lqg : Option Nat → Lv → Option Lv := Lim Tryz.prog [] dqg Tryz.f130
theorem eqg_i (a0 : Rw) (a1 : ByteArray) : Lqg none [.l a0, .s a1] =
 Lqg (some 2) [.l a0, .s a1, .i 0] := (Lim_eq _ _).trans (by kernel_rfl)
theorem eqg_2 (a0 : Rw) (a1 : ByteArray) (a2 : Int) : Lqg (some 2) [.l a0, .s a1, .i a2] =
 cond (decide (a2 < (a0.length : Int))) (
 cond (inb a2 a0.length) (
 cond (Eng.seq ((rd a0 a2.toNat 0).str) a1) (
 some [.b true]) (
 Lqg (some 2) [.l a0, .s a1, .i (IntKind.i64.wrap (a2 + 1))])) (
 none)) (
 some [.b false]) := (Lim_eq _ _).trans (by kernel_rfl)
theorem kqg : SigOk Tryz.prog (dqg.sig (Lqg none)) ∧ (dqg.sig (Lqg none)).ok = true := sound_lim known_nil (by kernel_rfl) (by kernel_rfl) (by kernel_rfl)
def dqw : FD := { fn := 95, nb := 0, pre := ⟨[.ag [.i .i64 0, .i .i64 1, .i .i64 2, .i .i64 3, .fz 90 false 4, .fz 156 false 5, .fz 158 false 6]], []⟩, post := ⟨[.sc (.ow 0)], [.rw 9 true 0]⟩, sh := false, cuts := [⟨3, [1, 3, 4], ⟨[.sc (.pt 0 0), .sc (.ow 1), .sc (.i .i64 0)], [.bx [.i .i64 1, .i .i64 2, .i .i64 3, .i .i64 4, .fz 90 false 5, .fz 156 false 6, .fz 158 false 7], .rw 9 true 8]⟩⟩, ⟨8, [1, 3, 5], ⟨[.sc (.pt 0 0), .sc (.ow 1), .sc (.i .i64 0)], [.bx [.i .i64 1, .i .i64 2, .i .i64 3, .i .i64 4, .fz 90 false 5, .fz 156 false 6, .fz 158 false 7], .rw 9 true 8]⟩⟩] }
noncomputable def Lqw : Option Nat → Lv → Option Lv := Lim Tryz.prog [dqg.sig (Lqg none)] dqw Tryz.f95
theorem eqw_i (a0 : Int) (a1 : Int) (a2 : Int) (a3 : Int) (a4 : Rw) (a5 : Rw) (a6 : Rw) : Lqw none [.i a0, .i a1, .i a2, .i a3, .l a4, .l a5, .l a6] =
 Lqw (some 3) [.i 0, .i a0, .i a1, .i a2, .i a3, .l a4, .l a5, .l a6, .l ([] : Rw)] := (Lim_eq _ _).trans (by kernel_rfl)
theorem eqw_3 (a0 : Int) (a1 : Int) (a2 : Int) (a3 : Int) (a4 : Int) (a5 : Rw) (a6 : Rw) (a7 : Rw) (a8 : Rw) : Lqw (some 3) [.i a0, .i a1, .i a2, .i a3, .i a4, .l a5, .l a6, .l a7, .l a8] =
 cond (decide (a0 < (a6.length : Int))) (
 cond (inb a0 a6.length) (
 (Lqg none [.l a8, .s ((rd a6 a0.toNat 1).str)]).bind fun y1 =>
 cond (!(g y1 0).bool) (
 cond (inb a0 a6.length) (
 cond (decide (a8.length + ([[.s ((rd a6 a0.toNat 1).str)]] : Rw).length ≤ most)) (
 Lqw (some 3) [.i (IntKind.i64.wrap (a0 + 1)), .i a1, .i a2, .i a3, .i a4, .l a5, .l a6, .l a7, .l (a8 ++ ([[.s ((rd a6 a0.toNat 1).str)]] : Rw))]) (
 none)) (
 none)) (
 Lqw (some 3) [.i (IntKind.i64.wrap (a0 + 1)), .i a1, .i a2, .i a3, .i a4, .l a5, .l a6, .l a7, .l a8])) (
 none)) (
 Lqw (some 8) [.i 0, .i a1, .i a2, .i a3, .i a4, .l a5, .l a6, .l a7, .l a8]) := (Lim_eq _ _).trans (by kernel_rfl)
theorem eqw_8 (a0 : Int) (a1 : Int) (a2 : Int) (a3 : Int) (a4 : Int) (a5 : Rw) (a6 : Rw) (a7 : Rw) (a8 : Rw) : Lqw (some 8) [.i a0, .i a1, .i a2, .i a3, .i a4, .l a5, .l a6, .l a7, .l a8] =
 cond (decide (a0 < (a7.length : Int))) (
 cond (inb a0 a7.length) (
 (Lqg none [.l a8, .s ((rd a7 a0.toNat 1).str)]).bind fun y1 =>
 cond (!(g y1 0).bool) (
 cond (inb a0 a7.length) (
 cond (decide (a8.length + ([[.s ((rd a7 a0.toNat 1).str)]] : Rw).length ≤ most)) (
 Lqw (some 8) [.i (IntKind.i64.wrap (a0 + 1)), .i a1, .i a2, .i a3, .i a4, .l a5, .l a6, .l a7, .l (a8 ++ ([[.s ((rd a7 a0.toNat 1).str)]] : Rw))]) (
 none)) (
 none)) (
 Lqw (some 8) [.i (IntKind.i64.wrap (a0 + 1)), .i a1, .i a2, .i a3, .i a4, .l a5, .l a6, .l a7, .l a8])) (
 none)) (
 some [.l a8]) := (Lim_eq _ _).trans (by kernel_rfl)
theorem kqw : SigOk Tryz.prog (dqw.sig (Lqw none)) ∧ (dqw.sig (Lqw none)).ok = true := sound_lim (known_cons kqg (by kernel_rfl) known_nil) (by kernel_rfl) (by kernel_rfl) (by kernel_rfl)
def dqj : FD := { fn := 94, nb := 0, pre := ⟨[.ag [.i .i64 0, .i .i64 1, .i .i64 2, .i .i64 3, .fz 90 false 4, .fz 156 false 5, .fz 158 false 6], .sc (.fz 9 false 7)], []⟩, post := ⟨[.sc (.ow 0)], [.rw 9 true 0]⟩, sh := false, cuts := [⟨3, [1, 2, 5, 6], ⟨[.sc (.fz 9 false 0), .sc (.pt 0 0), .sc (.ow 1), .sc (.i .i64 1)], [.bx [.i .i64 2, .i .i64 3, .i .i64 4, .i .i64 5, .fz 90 false 6, .fz 156 false 7, .fz 158 false 8], .rw 9 true 9]⟩⟩, ⟨8, [2, 5, 7], ⟨[.sc (.pt 0 0), .sc (.ow 1), .sc (.i .i64 0)], [.bx [.i .i64 1, .i .i64 2, .i .i64 3, .i .i64 4, .fz 90 false 5, .fz 156 false 6, .fz 158 false 7], .rw 9 true 8]⟩⟩, ⟨14, [2, 5, 7, 9, 10], ⟨[.sc (.pt 0 0), .sc (.ow 1), .sc (.i .i64 0), .sc (.fz 9 false 1), .sc (.i .i64 2)], [.bx [.i .i64 3, .i .i64 4, .i .i64 5, .i .i64 6, .fz 90 false 7, .fz 156 false 8, .fz 158 false 9], .rw 9 true 10]⟩⟩] }
noncomputable def Lqj : Option Nat → Lv → Option Lv := Lim Tryz.prog [dqe.sig (Lqe none), dqg.sig (Lqg none)] dqj Tryz.f94
theorem eqj_i (a0 : Int) (a1 : Int) (a2 : Int) (a3 : Int) (a4 : Rw) (a5 : Rw) (a6 : Rw) (a7 : Rw) : Lqj none [.i a0, .i a1, .i a2, .i a3, .l a4, .l a5, .l a6, .l a7] =
 Lqj (some 3) [.l a7, .i 0, .i a0, .i a1, .i a2, .i a3, .l a4, .l a5, .l a6, .l ([] : Rw)] := (Lim_eq _ _).trans (by kernel_rfl)
theorem eqj_3 (a0 : Rw) (a1 : Int) (a2 : Int) (a3 : Int) (a4 : Int) (a5 : Int) (a6 : Rw) (a7 : Rw) (a8 : Rw) (a9 : Rw) : Lqj (some 3) [.l a0, .i a1, .i a2, .i a3, .i a4, .i a5, .l a6, .l a7, .l a8, .l a9] =
 cond (decide (a1 < (a0.length : Int))) (
 cond (inb a1 a0.length) (
 (Lqg none [.l a9, .s ((rd a0 a1.toNat 0).str)]).bind fun y1 =>
 cond (!(g y1 0).bool) (
 cond (inb a1 a0.length) (
 cond (decide (a9.length + ([[.s ((rd a0 a1.toNat 0).str)]] : Rw).length ≤ most)) (
 Lqj (some 3) [.l a0, .i (IntKind.i64.wrap (a1 + 1)), .i a2, .i a3, .i a4, .i a5, .l a6, .l a7, .l a8, .l (a9 ++ ([[.s ((rd a0 a1.toNat 0).str)]] : Rw))]) (
 none)) (
 none)) (
 Lqj (some 3) [.l a0, .i (IntKind.i64.wrap (a1 + 1)), .i a2, .i a3, .i a4, .i a5, .l a6, .l a7, .l a8, .l a9])) (
 none)) (
 Lqj (some 8) [.i 0, .i a2, .i a3, .i a4, .i a5, .l a6, .l a7, .l a8, .l a9]) := (Lim_eq _ _).trans (by kernel_rfl)
theorem eqj_8 (a0 : Int) (a1 : Int) (a2 : Int) (a3 : Int) (a4 : Int) (a5 : Rw) (a6 : Rw) (a7 : Rw) (a8 : Rw) : Lqj (some 8) [.i a0, .i a1, .i a2, .i a3, .i a4, .l a5, .l a6, .l a7, .l a8] =
 cond (decide (a0 < (a8.length : Int))) (
 cond (inb a0 a8.length) (
 (Lqe none [.i a1, .i a2, .i a3, .i a4, .l a5, .l a6, .l a7, .s ((rd a8 a0.toNat 0).str)]).bind fun y1 =>
 cond (decide ((g y1 0).int < 0)) (
 Lqj (some 8) [.i (IntKind.i64.wrap (a0 + 1)), .i a1, .i a2, .i a3, .i a4, .l a5, .l a6, .l a7, .l a8]) (
 cond (inb ((g y1 0).int) a5.length) (
 Lqj (some 14) [.i a0, .l ((rd a5 (((g y1 0).int).toNat) 3).list), .i 0, .i a1, .i a2, .i a3, .i a4, .l a5, .l a6, .l a7, .l a8]) (
 none))) (
 none)) (
 some [.l a8]) := (Lim_eq _ _).trans (by kernel_rfl)
theorem eqj_14 (a0 : Int) (a1 : Rw) (a2 : Int) (a3 : Int) (a4 : Int) (a5 : Int) (a6 : Int) (a7 : Rw) (a8 : Rw) (a9 : Rw) (a10 : Rw) : Lqj (some 14) [.i a0, .l a1, .i a2, .i a3, .i a4, .i a5, .i a6, .l a7, .l a8, .l a9, .l a10] =
 cond (decide (a2 < (a1.length : Int))) (
 cond (inb a2 a1.length) (
 (Lqg none [.l a10, .s ((rd a1 a2.toNat 0).str)]).bind fun y1 =>
 cond (!(g y1 0).bool) (
 cond (inb a2 a1.length) (
 cond (decide (a10.length + ([[.s ((rd a1 a2.toNat 0).str)]] : Rw).length ≤ most)) (
 Lqj (some 14) [.i a0, .l a1, .i (IntKind.i64.wrap (a2 + 1)), .i a3, .i a4, .i a5, .i a6, .l a7, .l a8, .l a9, .l (a10 ++ ([[.s ((rd a1 a2.toNat 0).str)]] : Rw))]) (
 none)) (
 none)) (
 Lqj (some 14) [.i a0, .l a1, .i (IntKind.i64.wrap (a2 + 1)), .i a3, .i a4, .i a5, .i a6, .l a7, .l a8, .l a9, .l a10])) (
 none)) (
 Lqj (some 8) [.i (IntKind.i64.wrap (a0 + 1)), .i a3, .i a4, .i a5, .i a6, .l a7, .l a8, .l a9, .l a10]) := (Lim_eq _ _).trans (by kernel_rfl)
theorem kqj : SigOk Tryz.prog (dqj.sig (Lqj none)) ∧ (dqj.sig (Lqj none)).ok = true := sound_lim (known_cons kqe (by kernel_rfl) (known_cons kqg (by kernel_rfl) known_nil)) (by kernel_rfl) (by kernel_rfl) (by kernel_rfl)
def dqcf : FD := { fn := 25, nb := 0, pre := ⟨[.ag [.i .i64 0, .i .i64 1, .i .i64 2, .i .i64 3, .fz 90 false 4, .fz 156 false 5, .fz 158 false 6]], []⟩, post := ⟨[.sc (.ow 0)], [.rw 9 true 0]⟩, sh := false, cuts := [] }
noncomputable def Lqcf : Option Nat → Lv → Option Lv := Lim Tryz.prog [dqi.sig (Lqi none), dqw.sig (Lqw none), dql.sig (Lql none), dqj.sig (Lqj none)] dqcf Tryz.f25
theorem eqcf_i (a0 : Int) (a1 : Int) (a2 : Int) (a3 : Int) (a4 : Rw) (a5 : Rw) (a6 : Rw) : Lqcf none [.i a0, .i a1, .i a2, .i a3, .l a4, .l a5, .l a6] =
 (Lql none [.i a0, .i a1, .i a2, .i a3, .l a4, .l a5, .l a6]).bind fun y1 =>
 cond (!(g y1 0).bool) (
 some [.l ([] : Rw)]) (
 (Lqw none [.i a0, .i a1, .i a2, .i a3, .l a4, .l a5, .l a6]).bind fun y2 =>
 (Lqj none [.i a0, .i a1, .i a2, .i a3, .l a4, .l a5, .l a6, .l ((g y2 0).list)]).bind fun y3 =>
 (Lqi none [.l ((g y3 0).list)]).bind fun y4 =>
 some [.l ((g y4 0).list)]) := (Lim_eq _ _).trans (by kernel_rfl)
theorem kqcf : SigOk Tryz.prog (dqcf.sig (Lqcf none)) ∧ (dqcf.sig (Lqcf none)).ok = true := sound_lim (known_cons kqi (by kernel_rfl) (known_cons kqw (by kernel_rfl) (known_cons kql (by kernel_rfl) (known_cons kqj (by kernel_rfl) known_nil)))) (by kernel_rfl) (by kernel_rfl) (by kernel_rfl)
end KV
end
section
set_option maxRecDepth 100000
namespace KV
open Go Go.Eng Go.Proofs
def dqbn : FD := { fn := 40, nb := 0, pre := ⟨[.sc (.fz 9 false 0), .sc (.s 1)], []⟩, post := ⟨[.sc (.b 0)], []⟩, sh := false, cuts := [⟨2, [0, 1, 5], ⟨[.sc (.fz 9 false 0), .sc (.s 1), .sc (.i .i64 2)], []⟩⟩] }
noncomputable def Lqbn : Option Nat → Lv → Option Lv := Lim Tryz.prog [] dqbn Tryz.f40
theorem eqbn_i (a0 : Rw) (a1 : ByteArray) : Lqbn none [.l a0, .s a1] =
 Lqbn (some 2) [.l a0, .s a1, .i 0] := (Lim_eq _ _).trans (by kernel_rfl)
theorem eqbn_2 (a0 : Rw) (a1 : ByteArray) (a2 : Int) : Lqbn (some 2) [.l a0, .s a1, .i a2] =
 cond (decide (a2 < (a0.length : Int))) (
 cond (inb a2 a0.length) (
 cond (Eng.seq ((rd a0 a2.toNat 0).str) a1) (
 some [.b true]) (
 Lqbn (some 2) [.l a0, .s a1, .i (IntKind.i64.wrap (a2 + 1))])) (
 none)) (
 some [.b false]) := (Lim_eq _ _).trans (by kernel_rfl)
theorem kqbn : SigOk Tryz.prog (dqbn.sig (Lqbn none)) ∧ (dqbn.sig (Lqbn none)).ok = true := sound_lim known_nil (by kernel_rfl) (by kernel_rfl) (by kernel_rfl)
def dqc1 : FD := { fn := 73, nb := 0, pre := ⟨[.sc (.fz 5 false 0)], []⟩, post := ⟨[.sc (.pt 0 0)], [.bx [.fz 5 false 0, .i .i64 1]]⟩, sh := true, cuts := [] }
noncomputable def Lqc1 : Option Nat → Lv → Option Lv := Lim Tryz.prog [] dqc1 Tryz.f73
theorem eqc1_i (a0 : Rw) : Lqc1 none [.l a0] =
 cond (decide (2000 < (a0.length : Int))) (
 cond (decide (2000 ≤ (a0.length : Int))) (
 some [.l (Eng.sub a0 0 2000), .i 0]) (
 none)) (
 some [.l a0, .i 0]) := (Lim_eq _ _).trans (by kernel_rfl)
theorem kqc1 : SigOk Tryz.prog (dqc1.sig (Lqc1 none)) ∧ (dqc1.sig (Lqc1 none)).ok = true := sound_lim known_nil (by kernel_rfl) (by kernel_rfl) (by kernel_rfl)
def dqd : FD := { fn := 74, nb := 1, pre := ⟨[.sc (.pt 0 0), .sc (.i .i64 0)], [.bx [.fz 5 false 1, .i .i64 2]]⟩, post := ⟨[.sc (.i .i64 0)], [.bx [.fz 5 false 1, .i .i64 2]]⟩, sh := true, cuts := [] }
noncomputable def Lqd : Option Nat → Lv → Option Lv := Lim Tryz.prog [] dqd Tryz.f74
theorem eqd_i (a0 : Int) (a1 : Rw) (a2 : Int) : Lqd none [.i a0, .l a1, .i a2] =
 cond (decide (a0 < 1)) (
 some [.i 0, .l a1, .i (IntKind.i64.wrap (a2 + 1))]) (
 cond ((a1.length : Int) == 0) (
 some [.i 0, .l a1, .i (IntKind.i64.wrap (a2 + 1))]) (
 cond (decide ((IntKind.i64.wrap ((IntKind.i64.wrap (a2 + 1)) - 1)) < (a1.length : Int))) (
 cond (inb (IntKind.i64.wrap ((IntKind.i64.wrap (a2 + 1)) - 1)) a1.length) (
 cond (a0 != 0) (
 some [.i ((IntKind.i64.wrap ((rd a1 ((IntKind.i64.wrap ((IntKind.i64.wrap (a2 + 1)) - 1)).toNat) 0).int)).tmod a0), .l a1, .i (IntKind.i64.wrap (a2 + 1))]) (
 none)) (
 none)) (
 cond ((a1.length : Int) != 0) (
 cond (inb ((IntKind.i64.wrap ((IntKind.i64.wrap (a2 + 1)) - 1)).tmod (a1.length : Int)) a1.length) (
 cond ((a1.length : Int) != 0) (
 cond (inb ((IntKind.i64.wrap ((IntKind.i64.wrap ((IntKind.i64.wrap ((IntKind.i64.wrap (a2 + 1)) - 1)) * 7)) + 3)).tmod (a1.length : Int)) a1.length) (
 cond ((a1.length : Int) != 0) (
 cond (a0 != 0) (
 some [.i ((IntKind.i64.wrap (BitVec.ofInt (IntKind.i64).bits (IntKind.i64.wrap ((IntKind.i64.wrap ((IntKind.i64.wrap ((IntKind.i64.wrap ((IntKind.i64.wrap ((rd a1 (((IntKind.i64.wrap ((IntKind.i64.wrap (a2 + 1)) - 1)).tmod (a1.length : Int)).toNat) 0).int)) * 131)) + (IntKind.i64.wrap ((IntKind.i64.wrap ((rd a1 (((IntKind.i64.wrap ((IntKind.i64.wrap ((IntKind.i64.wrap ((IntKind.i64.wrap (a2 + 1)) - 1)) * 7)) + 3)).tmod (a1.length : Int)).toNat) 0).int)) * 1117)))) + (IntKind.i64.wrap ((IntKind.i64.wrap ((IntKind.i64.wrap (a2 + 1)) - 1)) * 29)))) + (IntKind.i64.wrap ((IntKind.i64.wrap ((IntKind.i64.wrap ((IntKind.i64.wrap (a2 + 1)) - 1)).tdiv (a1.length : Int))) * 53)))) ^^^ BitVec.ofInt (IntKind.i64).bits (IntKind.i64.wrap ((IntKind.i64.wrap ((IntKind.i64.wrap ((IntKind.i64.wrap ((IntKind.i64.wrap ((IntKind.i64.wrap ((rd a1 (((IntKind.i64.wrap ((IntKind.i64.wrap (a2 + 1)) - 1)).tmod (a1.length : Int)).toNat) 0).int)) * 131)) + (IntKind.i64.wrap ((IntKind.i64.wrap ((rd a1 (((IntKind.i64.wrap ((IntKind.i64.wrap ((IntKind.i64.wrap ((IntKind.i64.wrap (a2 + 1)) - 1)) * 7)) + 3)).tmod (a1.length : Int)).toNat) 0).int)) * 1117)))) + (IntKind.i64.wrap ((IntKind.i64.wrap ((IntKind.i64.wrap (a2 + 1)) - 1)) * 29)))) + (IntKind.i64.wrap ((IntKind.i64.wrap ((IntKind.i64.wrap ((IntKind.i64.wrap (a2 + 1)) - 1)).tdiv (a1.length : Int))) * 53)))).tdiv 64))).toNat).tmod a0), .l a1, .i (IntKind.i64.wrap (a2 + 1))]) (
 none)) (
 none)) (
 none)) (
 none)) (
 none)) (
 none)))) := (Lim_eq _ _).trans (by kernel_rfl)
theorem kqd : SigOk Tryz.prog (dqd.sig (Lqd none)) ∧ (dqd.sig (Lqd none)).ok = true := sound_lim known_nil (by kernel_rfl) (by kernel_rfl) (by kernel_rfl)
def dqcl : FD := { fn := 174, nb := 1, pre := ⟨[.sc (.pt 0 0)], [.bx [.fz 5 false 0, .i .i64 1]]⟩, post := ⟨[.sc (.i .i64 0)], [.bx [.fz 5 false 1, .i .i64 2]]⟩, sh := true, cuts := [] }
noncomputable def Lqcl : Option Nat → Lv → Option Lv := Lim Tryz.prog [dqd.sig (Lqd none)] dqcl Tryz.f174
theorem eqcl_i (a0 : Rw) (a1 : Int) : Lqcl none [.l a0, .i a1] =
 (Lqd none [.i 8, .l a0, .i a1]).bind fun y1 =>
 cond (decide ((g y1 0).int < 2)) (
 some [.i 1, .l ((g y1 1).list), .i ((g y1 2).int)]) (
 cond ((g y1 0).int == 2) (
 some [.i 2, .l ((g y1 1).list), .i ((g y1 2).int)]) (
 some [.i 8, .l ((g y1 1).list), .i ((g y1 2).int)])) := (Lim_eq _ _).trans (by kernel_rfl)
theorem kqcl : SigOk Tryz.prog (dqcl.sig (Lqcl none)) ∧ (dqcl.sig (Lqcl none)).ok = true := sound_lim (known_cons kqd (by kernel_rfl) known_nil) (by kernel_rfl) (by kernel_rfl) (by kernel_rfl)
def dqca : FD := { fn := 154, nb := 1, pre := ⟨[.sc (.pt 0 0)], [.bx [.fz 5 false 0, .i .i64 1]]⟩, post := ⟨[.sc (.s 0)], [.bx [.fz 5 false 1, .i .i64 2]]⟩, sh := true, cuts := [⟨13, [0, 3, 4, 5], ⟨[.sc (.pt 0 0), .sc (.i .i64 0), .sc (.ow 1), .sc (.i .i64 1)], [.bx [.fz 5 false 2, .i .i64 3], .rw 5 true 4]⟩⟩] }
noncomputable def Lqca : Option Nat → Lv → Option Lv := Lim Tryz.prog [dqd.sig (Lqd none)] dqca Tryz.f154
theorem eqca_i (a0 : Rw) (a1 : Int) : Lqca none [.l a0, .i a1] =
 (Lqd none [.i 9, .l a0, .i a1]).bind fun y1 =>
 cond ((g y1 0).int == 0) (
 some [.s (⟨#[]⟩ : ByteArray), .l ((g y1 1).list), .i ((g y1 2).int)]) (
 cond ((g y1 0).int == 1) (
 some [.s (⟨#[97, 32, 98]⟩ : ByteArray), .l ((g y1 1).list), .i ((g y1 2).int)]) (
 cond ((g y1 0).int == 2) (
 some [.s (⟨#[37, 45, 10]⟩ : ByteArray), .l ((g y1 1).list), .i ((g y1 2).int)]) (
 cond ((g y1 0).int == 3) (
 some [.s (⟨#[255, 0]⟩ : ByteArray), .l ((g y1 1).list), .i ((g y1 2).int)]) (
 (Lqd none [.i 4, .l ((g y1 1).list), .i ((g y1 2).int)]).bind fun y2 =>
 Lqca (some 13) [.i ((g y2 0).int), .i 0, .l ((g y2 1).list), .i ((g y2 2).int), .l ([] : Rw)])))) := (Lim_eq _ _).trans (by kernel_rfl)
theorem eqca_13 (a0 : Int) (a1 : Int) (a2 : Rw) (a3 : Int) (a4 : Rw) : Lqca (some 13) [.i a0, .i a1, .l a2, .i a3, .l a4] =
 cond (decide (a1 ≤ a0)) (
 (Lqd none [.i 6, .l a2, .i a3]).bind fun y1 =>
 cond (decide (a4.length + ([[.i (IntKind.u8.wrap (IntKind.i64.wrap (97 + (g y1 0).int)))]] : Rw).length ≤ most)) (
 Lqca (some 13) [.i a0, .i (IntKind.i64.wrap (a1 + 1)), .l ((g y1 1).list), .i ((g y1 2).int), .l (a4 ++ ([[.i (IntKind.u8.wrap (IntKind.i64.wrap (97 + (g y1 0).int)))]] : Rw))]) (
 none)) (
 some [.s (bytesOf a4), .l a2, .i a3]) := (Lim_eq _ _).trans (by kernel_rfl)
theorem kqca : SigOk Tryz.prog (dqca.sig (Lqca none)) ∧ (dqca.sig (Lqca none)).ok = true := sound_lim (known_cons kqd (by kernel_rfl) known_nil) (by kernel_rfl) (by kernel_rfl) (by kernel_rfl)
def dqc2 : FD := { fn := 75, nb := 1, pre := ⟨[.sc (.pt 0 0)], [.bx [.fz 5 false 0, .i .i64 1]]⟩, post := ⟨[.ag [.i .i64 0, .s 1, .i .i64 2, .s 3, .i .i64 4, .i .i64 5]], [.bx [.fz 5 false 6, .i .i64 7]]⟩, sh := true, cuts := [] }
noncomputable def Lqc2 : Option Nat → Lv → Option Lv := Lim Tryz.prog [dqd.sig (Lqd none), dqca.sig (Lqca none)] dqc2 Tryz.f75
theorem eqc2_i (a0 : Rw) (a1 : Int) : Lqc2 none [.l a0, .i a1] =
 (Lqca none [.l a0, .i a1]).bind fun y1 =>
 (Lqd none [.i 8, .l ((g y1 1).list), .i ((g y1 2).int)]).bind fun y2 =>
 (Lqd none [.i 3, .l ((g y2 1).list), .i ((g y2 2).int)]).bind fun y3 =>
 cond (inb ((g y3 0).int) (([[.s (⟨#[112]⟩ : ByteArray)], [.s (⟨#[113]⟩ : ByteArray)], [.s (⟨#[114]⟩ : ByteArray)]] : Rw).length)) (
 (Lqd none [.i 40, .l ((g y3 1).list), .i ((g y3 2).int)]).bind fun y4 =>
 (Lqd none [.i 5, .l ((g y4 1).list), .i ((g y4 2).int)]).bind fun y5 =>
 cond (inb ((g y5 0).int) (([[.i 1], [.i 3], [.i 10], [.i 40], [.i 200]] : Rw).length)) (
 (Lqd none [.i 20, .l ((g y5 1).list), .i ((g y5 2).int)]).bind fun y6 =>
 cond (decide ((g y6 0).int < 7)) (
 some [.i 1, .s ((g y1 0).str), .i ((g y2 0).int), .s ((rd ([[.s (⟨#[112]⟩ : ByteArray)], [.s (⟨#[113]⟩ : ByteArray)], [.s (⟨#[114]⟩ : ByteArray)]] : Rw) (((g y3 0).int).toNat) 0).str), .i ((g y4 0).int), .i ((rd ([[.i 1], [.i 3], [.i 10], [.i 40], [.i 200]] : Rw) (((g y5 0).int).toNat) 0).int), .l ((g y6 1).list), .i ((g y6 2).int)]) (
 cond (decide ((g y6 0).int < 10)) (
 some [.i 2, .s ((g y1 0).str), .i ((g y2 0).int), .s ((rd ([[.s (⟨#[112]⟩ : ByteArray)], [.s (⟨#[113]⟩ : ByteArray)], [.s (⟨#[114]⟩ : ByteArray)]] : Rw) (((g y3 0).int).toNat) 0).str), .i ((g y4 0).int), .i ((rd ([[.i 1], [.i 3], [.i 10], [.i 40], [.i 200]] : Rw) (((g y5 0).int).toNat) 0).int), .l ((g y6 1).list), .i ((g y6 2).int)]) (
 cond ((g y6 0).int == 10) (
 some [.i 3, .s ((g y1 0).str), .i ((g y2 0).int), .s ((rd ([[.s (⟨#[112]⟩ : ByteArray)], [.s (⟨#[113]⟩ : ByteArray)], [.s (⟨#[114]⟩ : ByteArray)]] : Rw) (((g y3 0).int).toNat) 0).str), .i ((g y4 0).int), .i ((rd ([[.i 1], [.i 3], [.i 10], [.i 40], [.i 200]] : Rw) (((g y5 0).int).toNat) 0).int), .l ((g y6 1).list), .i ((g y6 2).int)]) (
 cond ((g y6 0).int == 11) (
 some [.i 4, .s ((g y1 0).str), .i ((g y2 0).int), .s ((rd ([[.s (⟨#[112]⟩ : ByteArray)], [.s (⟨#[113]⟩ : ByteArray)], [.s (⟨#[114]⟩ : ByteArray)]] : Rw) (((g y3 0).int).toNat) 0).str), .i ((g y4 0).int), .i ((rd ([[.i 1], [.i 3], [.i 10], [.i 40], [.i 200]] : Rw) (((g y5 0).int).toNat) 0).int), .l ((g y6 1).list), .i ((g y6 2).int)]) (
 cond ((g y6 0).int == 12) (
 some [.i 5, .s ((g y1 0).str), .i ((g y2 0).int), .s ((rd ([[.s (⟨#[112]⟩ : ByteArray)], [.s (⟨#[113]⟩ : ByteArray)], [.s (⟨#[114]⟩ : ByteArray)]] : Rw) (((g y3 0).int).toNat) 0).str), .i ((g y4 0).int), .i ((rd ([[.i 1], [.i 3], [.i 10], [.i 40], [.i 200]] : Rw) (((g y5 0).int).toNat) 0).int), .l ((g y6 1).list), .i ((g y6 2).int)]) (
 cond (decide ((g y6 0).int < 15)) (
 some [.i 6, .s ((g y1 0).str), .i ((g y2 0).int), .s ((rd ([[.s (⟨#[112]⟩ : ByteArray)], [.s (⟨#[113]⟩ : ByteArray)], [.s (⟨#[114]⟩ : ByteArray)]] : Rw) (((g y3 0).int).toNat) 0).str), .i ((g y4 0).int), .i ((rd ([[.i 1], [.i 3], [.i 10], [.i 40], [.i 200]] : Rw) (((g y5 0).int).toNat) 0).int), .l ((g y6 1).list), .i ((g y6 2).int)]) (
 cond ((g y6 0).int == 15) (
 some [.i 8, .s ((g y1 0).str), .i ((g y2 0).int), .s ((rd ([[.s (⟨#[112]⟩ : ByteArray)], [.s (⟨#[113]⟩ : ByteArray)], [.s (⟨#[114]⟩ : ByteArray)]] : Rw) (((g y3 0).int).toNat) 0).str), .i ((g y4 0).int), .i ((rd ([[.i 1], [.i 3], [.i 10], [.i 40], [.i 200]] : Rw) (((g y5 0).int).toNat) 0).int), .l ((g y6 1).list), .i ((g y6 2).int)]) (
 cond ((g y6 0).int == 16) (
 some [.i 9, .s ((g y1 0).str), .i ((g y2 0).int), .s ((rd ([[.s (⟨#[112]⟩ : ByteArray)], [.s (⟨#[113]⟩ : ByteArray)], [.s (⟨#[114]⟩ : ByteArray)]] : Rw) (((g y3 0).int).toNat) 0).str), .i ((g y4 0).int), .i ((rd ([[.i 1], [.i 3], [.i 10], [.i 40], [.i 200]] : Rw) (((g y5 0).int).toNat) 0).int), .l ((g y6 1).list), .i ((g y6 2).int)]) (
 some [.i 10, .s ((g y1 0).str), .i ((g y2 0).int), .s ((rd ([[.s (⟨#[112]⟩ : ByteArray)], [.s (⟨#[113]⟩ : ByteArray)], [.s (⟨#[114]⟩ : ByteArray)]] : Rw) (((g y3 0).int).toNat) 0).str), .i ((g y4 0).int), .i ((rd ([[.i 1], [.i 3], [.i 10], [.i 40], [.i 200]] : Rw) (((g y5 0).int).toNat) 0).int), .l ((g y6 1).list), .i ((g y6 2).int)]))))))))) (
 none)) (
 none) := (Lim_eq _ _).trans (by kernel_rfl)
theorem kqc2 : SigOk Tryz.prog (dqc2.sig (Lqc2 none)) ∧ (dqc2.sig (Lqc2 none)).ok = true := sound_lim (known_cons kqd (by kernel_rfl) (known_cons kqca (by kernel_rfl) known_nil)) (by kernel_rfl) (by kernel_rfl) (by kernel_rfl)
def dqc3 : FD := { fn := 150, nb := 0, pre := ⟨[.sc (.i .i64 0)], []⟩, post := ⟨[.tu [(false, [.b 0]), (false, [.b 1]), (false, [.i .i64 2]), (false, [.b 3])]], []⟩, sh := false, cuts := [] }
noncomputable def Lqc3 : Option Nat → Lv → Option Lv := Lim Tryz.prog [] dqc3 Tryz.f150
theorem eqc3_i (a0 : Int) : Lqc3 none [.i a0] =
 cond (a0 == 1) (
 some [.b false, .b false, .i 1, .b true]) (
 cond (a0 == 2) (
 some [.b true, .b true, .i 0, .b false]) (
 cond (a0 == 3) (
 some [.b false, .b true, .i 0, .b false]) (
 cond (a0 == 4) (
 some [.b true, .b false, .i 1, .b false]) (
 cond (a0 == 5) (
 some [.b false, .b false, .i 2, .b false]) (
 cond (a0 == 6) (
 some [.b false, .b false, .i 1, .b false]) (
 cond (a0 == 7) (
 some [.b true, .b false, .i 0, .b false]) (
 some [.b false, .b false, .i 0, .b false]))))))) := (Lim_eq _ _).trans (by kernel_rfl)
theorem kqc3 : SigOk Tryz.prog (dqc3.sig (Lqc3 none)) ∧ (dqc3.sig (Lqc3 none)).ok = true := sound_lim known_nil (by kernel_rfl) (by kernel_rfl) (by kernel_rfl)
def dqch : FD := { fn := 204, nb := 0, pre := ⟨[.sc (.i .i64 0), .sc (.i .i64 1)], []⟩, post := ⟨[.sc (.b 0)], []⟩, sh := false, cuts := [] }
noncomputable def Lqch : Option Nat → Lv → Option Lv := Lim Tryz.prog [] dqch Tryz.f204
theorem eqch_i (a0 : Int) (a1 : Int) : Lqch none [.i a0, .i a1] =
 cond (a1 == 1) (
 cond (decide (1 ≤ a0)) (
 some [.b (decide (a0 ≤ 100000))]) (
 some [.b false])) (
 cond (a1 == 2) (
 cond (decide (1 ≤ a0)) (
 some [.b (decide (a0 ≤ 1000000000))]) (
 some [.b false])) (
 some [.b (a0 == 0)])) := (Lim_eq _ _).trans (by kernel_rfl)
theorem kqch : SigOk Tryz.prog (dqch.sig (Lqch none)) ∧ (dqch.sig (Lqch none)).ok = true := sound_lim known_nil (by kernel_rfl) (by kernel_rfl) (by kernel_rfl)
def dqs : FD := { fn := 152, nb := 0, pre := ⟨[.ag [.i .i64 0, .s 1, .s 2, .i .i64 3, .s 4, .fz 9 false 5], .sc (.i .i64 6)], []⟩, post := ⟨[.sc (.b 0)], []⟩, sh := false, cuts := [⟨6, [1, 2, 6, 8], ⟨[.sc (.i .i64 0), .sc (.pt 0 0), .sc (.b 1), .sc (.b 2)], [.bx [.i .i64 3, .s 4, .s 5, .i .i64 6, .s 7, .fz 9 false 8]]⟩⟩, ⟨8, [1, 2, 8], ⟨[.sc (.i .i64 0), .sc (.pt 0 0), .sc (.b 1)], [.bx [.i .i64 2, .s 3, .s 4, .i .i64 5, .s 6, .fz 9 false 7]]⟩⟩] }
noncomputable def Lqs : Option Nat → Lv → Option Lv := Lim Tryz.prog [dqp.sig (Lqp none), dq1.sig (Lq1 none), dqba.sig (Lqba none), dqc3.sig (Lqc3 none), dqch.sig (Lqch none)] dqs Tryz.f152
theorem eqs_i (a0 : Int) (a1 : ByteArray) (a2 : ByteArray) (a3 : Int) (a4 : ByteArray) (a5 : Rw) (a6 : Int) : Lqs none [.i a0, .s a1, .s a2, .i a3, .s a4, .l a5, .i a6] =
 (Lqp none [.i a6]).bind fun y1 =>
 cond (!(g y1 0).bool) (
 some [.b false]) (
 cond (decide (a0 < 1)) (
 some [.b false]) (
 cond (decide (7 < a0)) (
 some [.b false]) (
 (Lqc3 none [.i a0]).bind fun y2 =>
 cond ((g y2 0).bool) (
 cond ((a1.size : Int) != a6) (
 some [.b false]) (
 cond (!(g y2 0).bool) (
 cond (!Eng.seq a1 (⟨#[]⟩ : ByteArray)) (
 some [.b false]) (
 (Lqch none [.i a3, .i ((g y2 2).int)]).bind fun y3 =>
 cond (!(g y3 0).bool) (
 some [.b false]) (
 Lqs (some 6) [.i a6, .b ((g y2 1).bool), .b ((g y2 3).bool), .i a0, .s a1, .s a2, .i a3, .s a4, .l a5]))) (
 (Lqch none [.i a3, .i ((g y2 2).int)]).bind fun y4 =>
 cond (!(g y4 0).bool) (
 some [.b false]) (
 Lqs (some 6) [.i a6, .b ((g y2 1).bool), .b ((g y2 3).bool), .i a0, .s a1, .s a2, .i a3, .s a4, .l a5])))) (
 cond (!(g y2 0).bool) (
 cond (!Eng.seq a1 (⟨#[]⟩ : ByteArray)) (
 some [.b false]) (
 (Lqch none [.i a3, .i ((g y2 2).int)]).bind fun y5 =>
 cond (!(g y5 0).bool) (
 some [.b false]) (
 Lqs (some 6) [.i a6, .b ((g y2 1).bool), .b ((g y2 3).bool), .i a0, .s a1, .s a2, .i a3, .s a4, .l a5]))) (
 (Lqch none [.i a3, .i ((g y2 2).int)]).bind fun y6 =>
 cond (!(g y6 0).bool) (
 some [.b false]) (
 Lqs (some 6) [.i a6, .b ((g y2 1).bool), .b ((g y2 3).bool), .i a0, .s a1, .s a2, .i a3, .s a4, .l a5])))))) := (Lim_eq _ _).trans (by kernel_rfl)
theorem eqs_6 (a0 : Int) (a1 : Bool) (a2 : Bool) (a3 : Int) (a4 : ByteArray) (a5 : ByteArray) (a6 : Int) (a7 : ByteArray) (a8 : Rw) : Lqs (some 6) [.i a0, .b a1, .b a2, .i a3, .s a4, .s a5, .i a6, .s a7, .l a8] =
 cond a1 (
 (Lqba none [.s a5]).bind fun y1 =>
 cond (!(g y1 0).bool) (
 some [.b false]) (
 cond (!a1) (
 cond (!Eng.seq a5 (⟨#[]⟩ : ByteArray)) (
 some [.b false]) (
 Lqs (some 8) [.i a0, .b a2, .i a3, .s a4, .s a5, .i a6, .s a7, .l a8])) (
 Lqs (some 8) [.i a0, .b a2, .i a3, .s a4, .s a5, .i a6, .s a7, .l a8]))) (
 cond (!a1) (
 cond (!Eng.seq a5 (⟨#[]⟩ : ByteArray)) (
 some [.b false]) (
 Lqs (some 8) [.i a0, .b a2, .i a3, .s a4, .s a5, .i a6, .s a7, .l a8])) (
 Lqs (some 8) [.i a0, .b a2, .i a3, .s a4, .s a5, .i a6, .s a7, .l a8])) := (Lim_eq _ _).trans (by kernel_rfl)
theorem eqs_8 (a0 : Int) (a1 : Bool) (a2 : Int) (a3 : ByteArray) (a4 : ByteArray) (a5 : Int) (a6 : ByteArray) (a7 : Rw) : Lqs (some 8) [.i a0, .b a1, .i a2, .s a3, .s a4, .i a5, .s a6, .l a7] =
 cond a1 (
 (Lq1 none [.s a6, .l a7, .i a0]).bind fun y1 =>
 some [.b ((g y1 0).bool)]) (
 cond (Eng.seq a6 (⟨#[]⟩ : ByteArray)) (
 some [.b ((a7.length : Int) == 0)]) (
 some [.b false])) := (Lim_eq _ _).trans (by kernel_rfl)
theorem kqs : SigOk Tryz.prog (dqs.sig (Lqs none)) ∧ (dqs.sig (Lqs none)).ok = true := sound_lim (known_cons kqp (by kernel_rfl) (known_cons kq1 (by kernel_rfl) (known_cons kqba (by kernel_rfl) (known_cons kqc3 (by kernel_rfl) (known_cons kqch (by kernel_rfl) known_nil))))) (by kernel_rfl) (by kernel_rfl) (by kernel_rfl)
def dqbe : FD := { fn := 158, nb := 0, pre := ⟨[.ag [.i .i64 0, .s 1, .s 2, .i .i64 3, .s 4, .fz 9 false 5], .sc (.i .i64 6)], []⟩, post := ⟨[.sc (.s 0)], []⟩, sh := false, cuts := [] }
noncomputable def Lqbe : Option Nat → Lv → Option Lv := Lim Tryz.prog [dqr.sig (Lqr none), dqs.sig (Lqs none)] dqbe Tryz.f158
theorem eqbe_i (a0 : Int) (a1 : ByteArray) (a2 : ByteArray) (a3 : Int) (a4 : ByteArray) (a5 : Rw) (a6 : Int) : Lqbe none [.i a0, .s a1, .s a2, .i a3, .s a4, .l a5, .i a6] =
 (Lqs none [.i a0, .s a1, .s a2, .i a3, .s a4, .l a5, .i a6]).bind fun y1 =>
 cond (!(g y1 0).bool) (
 some [.s (⟨#[]⟩ : ByteArray)]) (
 cond (decide (([[.i (IntKind.u8.wrap a0)], [.i (IntKind.u8.wrap (IntKind.i64.wrap (a3.tdiv 16777216)))], [.i (IntKind.u8.wrap ((IntKind.i64.wrap (a3.tdiv 65536)).tmod 256))], [.i (IntKind.u8.wrap ((IntKind.i64.wrap (a3.tdiv 256)).tmod 256))], [.i (IntKind.u8.wrap (a3.tmod 256))], [.i (IntKind.u8.wrap (a2.size : Int))]] : Rw).length + (rowsOf a2).length ≤ most)) (
 cond (decide ((([[.i (IntKind.u8.wrap a0)], [.i (IntKind.u8.wrap (IntKind.i64.wrap (a3.tdiv 16777216)))], [.i (IntKind.u8.wrap ((IntKind.i64.wrap (a3.tdiv 65536)).tmod 256))], [.i (IntKind.u8.wrap ((IntKind.i64.wrap (a3.tdiv 256)).tmod 256))], [.i (IntKind.u8.wrap (a3.tmod 256))], [.i (IntKind.u8.wrap (a2.size : Int))]] : Rw) ++ (rowsOf a2)).length + (rowsOf a1).length ≤ most)) (
 cond (a0 == 1) (
 (Lqr none [.s a4, .l a5, .i a6]).bind fun y2 =>
 cond (decide (((([[.i (IntKind.u8.wrap a0)], [.i (IntKind.u8.wrap (IntKind.i64.wrap (a3.tdiv 16777216)))], [.i (IntKind.u8.wrap ((IntKind.i64.wrap (a3.tdiv 65536)).tmod 256))], [.i (IntKind.u8.wrap ((IntKind.i64.wrap (a3.tdiv 256)).tmod 256))], [.i (IntKind.u8.wrap (a3.tmod 256))], [.i (IntKind.u8.wrap (a2.size : Int))]] : Rw) ++ (rowsOf a2)) ++ (rowsOf a1)).length + (rowsOf ((g y2 0).str)).length ≤ most)) (
 some [.s (bytesOf (((([[.i (IntKind.u8.wrap a0)], [.i (IntKind.u8.wrap (IntKind.i64.wrap (a3.tdiv 16777216)))], [.i (IntKind.u8.wrap ((IntKind.i64.wrap (a3.tdiv 65536)).tmod 256))], [.i (IntKind.u8.wrap ((IntKind.i64.wrap (a3.tdiv 256)).tmod 256))], [.i (IntKind.u8.wrap (a3.tmod 256))], [.i (IntKind.u8.wrap (a2.size : Int))]] : Rw) ++ (rowsOf a2)) ++ (rowsOf a1)) ++ (rowsOf ((g y2 0).str))))]) (
 none)) (
 some [.s (bytesOf ((([[.i (IntKind.u8.wrap a0)], [.i (IntKind.u8.wrap (IntKind.i64.wrap (a3.tdiv 16777216)))], [.i (IntKind.u8.wrap ((IntKind.i64.wrap (a3.tdiv 65536)).tmod 256))], [.i (IntKind.u8.wrap ((IntKind.i64.wrap (a3.tdiv 256)).tmod 256))], [.i (IntKind.u8.wrap (a3.tmod 256))], [.i (IntKind.u8.wrap (a2.size : Int))]] : Rw) ++ (rowsOf a2)) ++ (rowsOf a1)))])) (
 none)) (
 none)) := (Lim_eq _ _).trans (by kernel_rfl)
theorem kqbe : SigOk Tryz.prog (dqbe.sig (Lqbe none)) ∧ (dqbe.sig (Lqbe none)).ok = true := sound_lim (known_cons kqr (by kernel_rfl) (known_cons kqs (by kernel_rfl) known_nil)) (by kernel_rfl) (by kernel_rfl) (by kernel_rfl)
def dqbt : FD := { fn := 176, nb := 0, pre := ⟨[.sc (.s 0), .sc (.i .i64 1)], []⟩, post := ⟨[.tu [(true, [.s 0, .ow 0]), (false, [.b 1])]], [.rw 9 true 2]⟩, sh := false, cuts := [⟨6, [0, 1, 4, 6, 7, 8], ⟨[.sc (.s 0), .sc (.i .i64 1), .sc (.pt 0 0), .sc (.i .i64 2), .sc (.pt 1 0), .sc (.i .i64 3)], [.bx [.s 4, .ow 2], .bx [.s 5, .ow 3], .rw 9 true 6, .rw 9 true 7]⟩⟩] }
noncomputable def Lqbt : Option Nat → Lv → Option Lv := Lim Tryz.prog [dqp.sig (Lqp none), dq1.sig (Lq1 none)] dqbt Tryz.f176
theorem eqbt_i (a0 : ByteArray) (a1 : Int) : Lqbt none [.s a0, .i a1] =
 (Lqp none [.i a1]).bind fun y1 =>
 cond (!(g y1 0).bool) (
 some [.s (⟨#[]⟩ : ByteArray), .b false, .l []]) (
 cond ((a0.size : Int) == 0) (
 some [.s (⟨#[]⟩ : ByteArray), .b false, .l []]) (
 cond (inb 0 a0.size) (
 cond (decide ((a0.size : Int) < (IntKind.i64.wrap (1 + (IntKind.i64.wrap ((IntKind.i64.wrap (byteAt a0 0)) * a1)))))) (
 some [.s (⟨#[]⟩ : ByteArray), .b false, .l []]) (
 cond (inb 0 a0.size) (
 cond (decide (0 ≤ (IntKind.i64.wrap (1 + (IntKind.i64.wrap ((IntKind.i64.wrap (byteAt a0 0)) * a1)))))) (
 cond (decide ((IntKind.i64.wrap (1 + (IntKind.i64.wrap ((IntKind.i64.wrap (byteAt a0 0)) * a1)))) ≤ (a0.size : Int))) (
 Lqbt (some 6) [.s a0, .i a1, .i (IntKind.i64.wrap (byteAt a0 0)), .i 0, .s (⟨#[]⟩ : ByteArray), .s (a0.extract ((IntKind.i64.wrap (1 + (IntKind.i64.wrap ((IntKind.i64.wrap (byteAt a0 0)) * a1)))).toNat) a0.size), .l [], .l []]) (
 none)) (
 none)) (
 none))) (
 none))) := (Lim_eq _ _).trans (by kernel_rfl)
theorem eqbt_6 (a0 : ByteArray) (a1 : Int) (a2 : Int) (a3 : Int) (a4 : ByteArray) (a5 : ByteArray) (a6 : Rw) (a7 : Rw) : Lqbt (some 6) [.s a0, .i a1, .i a2, .i a3, .s a4, .s a5, .l a6, .l a7] =
 cond (decide (a3 < a2)) (
 cond (decide (0 ≤ (IntKind.i64.wrap ((IntKind.i64.wrap (1 + (IntKind.i64.wrap (a3 * a1)))) + a1)))) (
 cond (decide ((IntKind.i64.wrap ((IntKind.i64.wrap (1 + (IntKind.i64.wrap (a3 * a1)))) + a1)) ≤ (a0.size : Int))) (
 cond (decide (0 ≤ (IntKind.i64.wrap (1 + (IntKind.i64.wrap (a3 * a1)))))) (
 cond (decide ((IntKind.i64.wrap (1 + (IntKind.i64.wrap (a3 * a1)))) ≤ ((IntKind.i64.wrap ((IntKind.i64.wrap (1 + (IntKind.i64.wrap (a3 * a1)))) + a1)).toNat : Int))) (
 cond (decide (a7.length + ([[.s (a0.extract ((IntKind.i64.wrap (1 + (IntKind.i64.wrap (a3 * a1)))).toNat) ((IntKind.i64.wrap ((IntKind.i64.wrap (1 + (IntKind.i64.wrap (a3 * a1)))) + a1)).toNat))]] : Rw).length ≤ most)) (
 Lqbt (some 6) [.s a0, .i a1, .i a2, .i (IntKind.i64.wrap (a3 + 1)), .s a4, .s a5, .l a6, .l (a7 ++ ([[.s (a0.extract ((IntKind.i64.wrap (1 + (IntKind.i64.wrap (a3 * a1)))).toNat) ((IntKind.i64.wrap ((IntKind.i64.wrap (1 + (IntKind.i64.wrap (a3 * a1)))) + a1)).toNat))]] : Rw))]) (
 none)) (
 none)) (
 none)) (
 none)) (
 none)) (
 (Lq1 none [.s a5, .l a7, .i a1]).bind fun y1 =>
 cond (!(g y1 0).bool) (
 some [.s (⟨#[]⟩ : ByteArray), .b false, .l []]) (
 some [.s a5, .b true, .l a7])) := (Lim_eq _ _).trans (by kernel_rfl)
theorem kqbt : SigOk Tryz.prog (dqbt.sig (Lqbt none)) ∧ (dqbt.sig (Lqbt none)).ok = true := sound_lim (known_cons kqp (by kernel_rfl) (known_cons kq1 (by kernel_rfl) known_nil)) (by kernel_rfl) (by kernel_rfl) (by kernel_rfl)
def dqb7 : FD := { fn := 113, nb := 0, pre := ⟨[.sc (.s 0), .sc (.i .i64 1)], []⟩, post := ⟨[.tu [(true, [.i .i64 0, .s 1, .s 2, .i .i64 3, .s 4, .ow 0]), (false, [.b 5])]], [.rw 9 true 6]⟩, sh := false, cuts := [⟨9, [0, 1, 4, 6], ⟨[.sc (.s 0), .sc (.i .i64 1), .sc (.pt 0 0), .sc (.pt 1 0)], [.bx [.i .i64 2, .s 3, .s 4, .i .i64 5, .s 6, .ow 3], .bx [.i .i64 7, .s 8, .s 9, .i .i64 10, .s 11, .ow 2], .rw 9 true 12, .rw 9 true 13]⟩⟩] }
noncomputable def Lqb7 : Option Nat → Lv → Option Lv := Lim Tryz.prog [dqp.sig (Lqp none), dqs.sig (Lqs none), dqbe.sig (Lqbe none), dqbt.sig (Lqbt none)] dqb7 Tryz.f113
theorem eqb7_i (a0 : ByteArray) (a1 : Int) : Lqb7 none [.s a0, .i a1] =
 (Lqp none [.i a1]).bind fun y1 =>
 cond (!(g y1 0).bool) (
 some [.i 0, .s (⟨#[]⟩ : ByteArray), .s (⟨#[]⟩ : ByteArray), .i 0, .s (⟨#[]⟩ : ByteArray), .b false, .l []]) (
 cond (decide ((a0.size : Int) < 6)) (
 some [.i 0, .s (⟨#[]⟩ : ByteArray), .s (⟨#[]⟩ : ByteArray), .i 0, .s (⟨#[]⟩ : ByteArray), .b false, .l []]) (
 cond (inb 5 a0.size) (
 cond (decide ((a0.size : Int) < (IntKind.i64.wrap (6 + (IntKind.i64.wrap (byteAt a0 5)))))) (
 some [.i 0, .s (⟨#[]⟩ : ByteArray), .s (⟨#[]⟩ : ByteArray), .i 0, .s (⟨#[]⟩ : ByteArray), .b false, .l []]) (
 cond (inb 0 a0.size) (
 cond (inb 1 a0.size) (
 cond (inb 2 a0.size) (
 cond (inb 3 a0.size) (
 cond (inb 4 a0.size) (
 cond (inb 5 a0.size) (
 cond (decide (0 ≤ (IntKind.i64.wrap (6 + (IntKind.i64.wrap (byteAt a0 5)))))) (
 cond (decide ((IntKind.i64.wrap (6 + (IntKind.i64.wrap (byteAt a0 5)))) ≤ (a0.size : Int))) (
 cond (decide (6 ≤ ((IntKind.i64.wrap (6 + (IntKind.i64.wrap (byteAt a0 5)))).toNat : Int))) (
 cond (inb 5 a0.size) (
 cond (decide (0 ≤ (IntKind.i64.wrap (6 + (IntKind.i64.wrap (byteAt a0 5)))))) (
 cond (decide ((IntKind.i64.wrap (6 + (IntKind.i64.wrap (byteAt a0 5)))) ≤ (a0.size : Int))) (
 cond ((IntKind.i64.wrap (byteAt a0 0)) == 1) (
 (Lqbt none [.s (a0.extract ((IntKind.i64.wrap (6 + (IntKind.i64.wrap (byteAt a0 5)))).toNat) a0.size), .i a1]).bind fun y2 =>
 Lqb7 (some 9) [.s a0, .i a1, .i 0, .s (⟨#[]⟩ : ByteArray), .s (⟨#[]⟩ : ByteArray), .i 0, .s (⟨#[]⟩ : ByteArray), .i (IntKind.i64.wrap (byteAt a0 0)), .s (⟨#[]⟩ : ByteArray), .s (a0.extract 6 ((IntKind.i64.wrap (6 + (IntKind.i64.wrap (byteAt a0 5)))).toNat)), .i (IntKind.i64.wrap ((IntKind.i64.wrap ((IntKind.i64.wrap ((IntKind.i64.wrap ((IntKind.i64.wrap (byteAt a0 1)) * 16777216)) + (IntKind.i64.wrap ((IntKind.i64.wrap (byteAt a0 2)) * 65536)))) + (IntKind.i64.wrap ((IntKind.i64.wrap (byteAt a0 3)) * 256)))) + (IntKind.i64.wrap (byteAt a0 4)))), .s ((g y2 0).str), .l ((g y2 2).list), .l []]) (
 Lqb7 (some 9) [.s a0, .i a1, .i 0, .s (⟨#[]⟩ : ByteArray), .s (⟨#[]⟩ : ByteArray), .i 0, .s (⟨#[]⟩ : ByteArray), .i (IntKind.i64.wrap (byteAt a0 0)), .s (a0.extract ((IntKind.i64.wrap (6 + (IntKind.i64.wrap (byteAt a0 5)))).toNat) a0.size), .s (a0.extract 6 ((IntKind.i64.wrap (6 + (IntKind.i64.wrap (byteAt a0 5)))).toNat)), .i (IntKind.i64.wrap ((IntKind.i64.wrap ((IntKind.i64.wrap ((IntKind.i64.wrap ((IntKind.i64.wrap (byteAt a0 1)) * 16777216)) + (IntKind.i64.wrap ((IntKind.i64.wrap (byteAt a0 2)) * 65536)))) + (IntKind.i64.wrap ((IntKind.i64.wrap (byteAt a0 3)) * 256)))) + (IntKind.i64.wrap (byteAt a0 4)))), .s (⟨#[]⟩ : ByteArray), .l [], .l []])) (
 none)) (
 none)) (
 none)) (
 none)) (
 none)) (
 none)) (
 none)) (
 none)) (
 none)) (
 none)) (
 none)) (
 none))) (
 none))) := (Lim_eq _ _).trans (by kernel_rfl)
theorem eqb7_9 (a0 : ByteArray) (a1 : Int) (a2 : Int) (a3 : ByteArray) (a4 : ByteArray) (a5 : Int) (a6 : ByteArray) (a7 : Int) (a8 : ByteArray) (a9 : ByteArray) (a10 : Int) (a11 : ByteArray) (a12 : Rw) (a13 : Rw) : Lqb7 (some 9) [.s a0, .i a1, .i a2, .s a3, .s a4, .i a5, .s a6, .i a7, .s a8, .s a9, .i a10, .s a11, .l a12, .l a13] =
 (Lqs none [.i a7, .s a8, .s a9, .i a10, .s a11, .l a12, .i a1]).bind fun y1 =>
 cond (!(g y1 0).bool) (
 some [.i 0, .s (⟨#[]⟩ : ByteArray), .s (⟨#[]⟩ : ByteArray), .i 0, .s (⟨#[]⟩ : ByteArray), .b false, .l []]) (
 (Lqbe none [.i a7, .s a8, .s a9, .i a10, .s a11, .l a12, .i a1]).bind fun y2 =>
 cond (!Eng.seq ((g y2 0).str) a0) (
 some [.i 0, .s (⟨#[]⟩ : ByteArray), .s (⟨#[]⟩ : ByteArray), .i 0, .s (⟨#[]⟩ : ByteArray), .b false, .l []]) (
 some [.i a7, .s a8, .s a9, .i a10, .s a11, .b true, .l a12])) := (Lim_eq _ _).trans (by kernel_rfl)
theorem kqb7 : SigOk Tryz.prog (dqb7.sig (Lqb7 none)) ∧ (dqb7.sig (Lqb7 none)).ok = true := sound_lim (known_cons kqp (by kernel_rfl) (known_cons kqs (by kernel_rfl) (known_cons kqbe (by kernel_rfl) (known_cons kqbt (by kernel_rfl) known_nil)))) (by kernel_rfl) (by kernel_rfl) (by kernel_rfl)
def dqbi : FD := { fn := 148, nb := 0, pre := ⟨[.ag [.s 0, .fz 9 false 1]], []⟩, post := ⟨[.ag [.s 0, .ow 0]], [.rw 9 true 1]⟩, sh := false, cuts := [] }
noncomputable def Lqbi : Option Nat → Lv → Option Lv := Lim Tryz.prog [] dqbi Tryz.f148
theorem eqbi_i (a0 : ByteArray) (a1 : Rw) : Lqbi none [.s a0, .l a1] =
 cond (decide (([] : Rw).length + a1.length ≤ most)) (
 some [.s a0, .l (([] : Rw) ++ a1)]) (
 none) := (Lim_eq _ _).trans (by kernel_rfl)
theorem kqbi : SigOk Tryz.prog (dqbi.sig (Lqbi none)) ∧ (dqbi.sig (Lqbi none)).ok = true := sound_lim known_nil (by kernel_rfl) (by kernel_rfl) (by kernel_rfl)
def dqt : FD := { fn := 115, nb := 0, pre := ⟨[.ag [.i .i64 0, .i .i64 1, .i .i64 2, .i .i64 3, .fz 90 false 4, .fz 156 false 5, .fz 158 false 6]], []⟩, post := ⟨[.ag [.i .i64 0, .i .i64 1, .i .i64 2, .i .i64 3, .ow 0, .ow 1, .ow 2]], [.rw 90 true 4, .rw 156 true 5, .rw 158 true 6]⟩, sh := false, cuts := [⟨4, [1, 2, 3, 4], ⟨[.sc (.pt 0 0), .sc (.pt 1 0), .sc (.pt 2 0), .sc (.i .i64 0)], [.bx [.i .i64 1, .i .i64 2, .i .i64 3, .i .i64 4, .fz 90 false 5, .fz 156 false 6, .fz 158 false 7], .bx [.i .i64 8, .i .i64 9, .i .i64 10, .i .i64 11, .ow 3, .ow 4, .ow 5], .bx [.i .i64 12, .i .i64 13, .i .i64 14, .i .i64 15, .ow 6, .fz 156 false 16, .fz 158 false 17], .rw 90 true 18, .rw 156 true 19, .rw 158 true 20, .rw 90 true 21]⟩⟩] }
noncomputable def Lqt : Option Nat → Lv → Option Lv := Lim Tryz.prog [dqbi.sig (Lqbi none)] dqt Tryz.f115
theorem eqt_i (a0 : Int) (a1 : Int) (a2 : Int) (a3 : Int) (a4 : Rw) (a5 : Rw) (a6 : Rw) : Lqt none [.i a0, .i a1, .i a2, .i a3, .l a4, .l a5, .l a6] =
 Lqt (some 4) [.i 0, .i a0, .i a1, .i a2, .i a3, .l a4, .l a5, .l a6, .i 0, .i 0, .i 0, .i 0, .i a0, .i a1, .i a2, .i a3, .l a5, .l a6, .l [], .l [], .l [], .l ([] : Rw)] := (Lim_eq _ _).trans (by kernel_rfl)
theorem eqt_4 (a0 : Int) (a1 : Int) (a2 : Int) (a3 : Int) (a4 : Int) (a5 : Rw) (a6 : Rw) (a7 : Rw) (a8 : Int) (a9 : Int) (a10 : Int) (a11 : Int) (a12 : Int) (a13 : Int) (a14 : Int) (a15 : Int) (a16 : Rw) (a17 : Rw) (a18 : Rw) (a19 : Rw) (a20 : Rw) (a21 : Rw) : Lqt (some 4) [.i a0, .i a1, .i a2, .i a3, .i a4, .l a5, .l a6, .l a7, .i a8, .i a9, .i a10, .i a11, .i a12, .i a13, .i a14, .i a15, .l a16, .l a17, .l a18, .l a19, .l a20, .l a21] =
 cond (decide (a0 < (a5.length : Int))) (
 cond (inb a0 a5.length) (
 (Lqbi none [.s ((rd a5 a0.toNat 2).str), .l ((rd a5 a0.toNat 3).list)]).bind fun y1 =>
 cond (decide (a21.length + ([[.s ((rd a5 a0.toNat 0).str), .i ((rd a5 a0.toNat 1).int), .s ((g y1 0).str), .l ((g y1 1).list)]] : Rw).length ≤ most)) (
 Lqt (some 4) [.i (IntKind.i64.wrap (a0 + 1)), .i a1, .i a2, .i a3, .i a4, .l a5, .l a6, .l a7, .i a8, .i a9, .i a10, .i a11, .i a12, .i a13, .i a14, .i a15, .l a16, .l a17, .l a18, .l a19, .l a20, .l (a21 ++ ([[.s ((rd a5 a0.toNat 0).str), .i ((rd a5 a0.toNat 1).int), .s ((g y1 0).str), .l ((g y1 1).list)]] : Rw))]) (
 none)) (
 none)) (
 cond (decide (([] : Rw).length + a6.length ≤ most)) (
 cond (decide (([] : Rw).length + a7.length ≤ most)) (
 some [.i a12, .i a13, .i a14, .i a15, .l a21, .l (([] : Rw) ++ a6), .l (([] : Rw) ++ a7)]) (
 none)) (
 none)) := (Lim_eq _ _).trans (by kernel_rfl)
theorem kqt : SigOk Tryz.prog (dqt.sig (Lqt none)) ∧ (dqt.sig (Lqt none)).ok = true := sound_lim (known_cons kqbi (by kernel_rfl) known_nil) (by kernel_rfl) (by kernel_rfl) (by kernel_rfl)
end KV
end
section
set_option maxRecDepth 100000
namespace KV
open Go Go.Eng Go.Proofs
def dqcd : FD := { fn := 180, nb := 0, pre := ⟨[.ag [.i .i64 0, .i .i64 1, .i .i64 2, .i .i64 3, .fz 90 false 4, .fz 156 false 5, .ow 0], .sc (.s 6), .sc (.i .i64 7)], [.rw 158 false 8]⟩, post := ⟨[.ag [.i .i64 0, .i .i64 1, .i .i64 2, .i .i64 3, .i .i64 4, .fz 90 false 5, .fz 156 false 6, .ow 0, .s 7, .i .i64 8, .s 9, .s 10]], [.rw 158 false 11]⟩, sh := true, cuts := [] }
noncomputable def Lqcd : Option Nat → Lv → Option Lv := Lim Tryz.prog [] dqcd Tryz.f180
theorem eqcd_i (a0 : Int) (a1 : Int) (a2 : Int) (a3 : Int) (a4 : Rw) (a5 : Rw) (a6 : ByteArray) (a7 : Int) (a8 : Rw) : Lqcd none [.i a0, .i a1, .i a2, .i a3, .l a4, .l a5, .s a6, .i a7, .l a8] =
 cond (decide (200 ≤ (a8.length : Int))) (
 some [.i 4, .i 0, .i 0, .i 0, .i 0, .l ([]), .l ([]), .s (⟨#[]⟩ : ByteArray), .i 0, .s (⟨#[]⟩ : ByteArray), .s (⟨#[]⟩ : ByteArray), .l []]) (
 cond (decide (1000000000 ≤ a2)) (
 some [.i 4, .i 0, .i 0, .i 0, .i 0, .l ([]), .l ([]), .s (⟨#[]⟩ : ByteArray), .i 0, .s (⟨#[]⟩ : ByteArray), .s (⟨#[]⟩ : ByteArray), .l []]) (
 cond (decide (a8.length + ([[.i (IntKind.i64.wrap (a2 + 1)), .s a6, .i (IntKind.i64.wrap (a1 + a7))]] : Rw).length ≤ most)) (
 some [.i 0, .i a0, .i a1, .i (IntKind.i64.wrap (a2 + 1)), .i a3, .l a4, .l a5, .s (⟨#[]⟩ : ByteArray), .i (IntKind.i64.wrap (a2 + 1)), .s (⟨#[]⟩ : ByteArray), .s (⟨#[]⟩ : ByteArray), .l (a8 ++ ([[.i (IntKind.i64.wrap (a2 + 1)), .s a6, .i (IntKind.i64.wrap (a1 + a7))]] : Rw))]) (
 none))) := (Lim_eq _ _).trans (by kernel_rfl)
theorem kqcd : SigOk Tryz.prog (dqcd.sig (Lqcd none)) ∧ (dqcd.sig (Lqcd none)).ok = true := sound_lim known_nil (by kernel_rfl) (by kernel_rfl) (by kernel_rfl)
def dqq : FD := { fn := 177, nb := 0, pre := ⟨[.ag [.i .i64 0, .i .i64 1, .i .i64 2, .i .i64 3, .fz 90 false 4, .fz 156 false 5, .ow 0], .ag [.i .i64 6, .s 7, .s 8, .i .i64 9, .s 10, .fz 9 false 11]], [.rw 158 false 12]⟩, post := ⟨[.ag [.i .i64 0, .i .i64 1, .i .i64 2, .i .i64 3, .i .i64 4, .fz 90 false 5, .fz 156 false 6, .ow 0, .s 7, .i .i64 8, .s 9, .s 10]], [.rw 158 false 11]⟩, sh := true, cuts := [⟨4, [2, 3, 4, 5, 6, 7], ⟨[.sc (.pt 0 0), .sc (.pt 1 0), .sc (.pt 2 0), .sc (.s 0), .sc (.s 1), .sc (.i .i64 2)], [.bx [.i .i64 3, .i .i64 4, .i .i64 5, .i .i64 6, .fz 90 false 7, .fz 156 false 8, .ow 3], .bx [.i .i64 9, .s 10, .s 11, .i .i64 12, .s 13, .fz 9 false 14], .bx [.i .i64 15, .i .i64 16, .i .i64 17, .i .i64 18, .i .i64 19, .ow 4, .ow 5, .ow 6, .s 20, .i .i64 21, .s 22, .s 23], .rw 158 false 24, .rw 90 true 25, .rw 156 true 26, .rw 158 true 27]⟩⟩, ⟨20, [2, 3, 4, 6, 10, 11, 12, 13], ⟨[.sc (.pt 0 0), .sc (.pt 1 0), .sc (.pt 2 0), .sc (.s 0), .sc (.ow 3), .sc (.b 1), .sc (.pt 4 0), .sc (.i .i64 2)], [.bx [.i .i64 3, .i .i64 4, .i .i64 5, .i .i64 6, .fz 90 false 7, .fz 156 false 8, .ow 5], .bx [.i .i64 9, .s 10, .s 11, .i .i64 12, .s 13, .fz 9 false 14], .bx [.i .i64 15, .i .i64 16, .i .i64 17, .i .i64 18, .i .i64 19, .ow 6, .ow 7, .ow 8, .s 20, .i .i64 21, .s 22, .s 23], .rw 90 false 24, .bx [.s 25, .i .i64 26, .s 27, .fz 9 true 28], .rw 158 false 29, .rw 90 true 30, .rw 156 true 31, .rw 158 true 32]⟩⟩] }
noncomputable def Lqq : Option Nat → Lv → Option Lv := Lim Tryz.prog [dqr.sig (Lqr none), dqbi.sig (Lqbi none), dqk.sig (Lqk none), dqe.sig (Lqe none), dqcd.sig (Lqcd none)] dqq Tryz.f177
theorem eqq_i (a0 : Int) (a1 : Int) (a2 : Int) (a3 : Int) (a4 : Rw) (a5 : Rw) (a6 : Int) (a7 : ByteArray) (a8 : ByteArray) (a9 : Int) (a10 : ByteArray) (a11 : Rw) (a12 : Rw) : Lqq none [.i a0, .i a1, .i a2, .i a3, .l a4, .l a5, .i a6, .s a7, .s a8, .i a9, .s a10, .l a11, .l a12] =
 (Lqr none [.s a10, .l a11, .i a0]).bind fun y1 =>
 (Lqk none [.s ((g y1 0).str), .i a0]).bind fun y2 =>
 Lqq (some 4) [.s ((g y1 0).str), .s ((g y2 0).str), .i 0, .i a0, .i a1, .i a2, .i a3, .l a4, .l a5, .i a6, .s a7, .s a8, .i a9, .s a10, .l a11, .i 0, .i 0, .i 0, .i 0, .i 0, .s (⟨#[]⟩ : ByteArray), .i 0, .s (⟨#[]⟩ : ByteArray), .s (⟨#[]⟩ : ByteArray), .l a12, .l [], .l [], .l []] := (Lim_eq _ _).trans (by kernel_rfl)
theorem eqq_4 (a0 : ByteArray) (a1 : ByteArray) (a2 : Int) (a3 : Int) (a4 : Int) (a5 : Int) (a6 : Int) (a7 : Rw) (a8 : Rw) (a9 : Int) (a10 : ByteArray) (a11 : ByteArray) (a12 : Int) (a13 : ByteArray) (a14 : Rw) (a15 : Int) (a16 : Int) (a17 : Int) (a18 : Int) (a19 : Int) (a20 : ByteArray) (a21 : Int) (a22 : ByteArray) (a23 : ByteArray) (a24 : Rw) (a25 : Rw) (a26 : Rw) (a27 : Rw) : Lqq (some 4) [.s a0, .s a1, .i a2, .i a3, .i a4, .i a5, .i a6, .l a7, .l a8, .i a9, .s a10, .s a11, .i a12, .s a13, .l a14, .i a15, .i a16, .i a17, .i a18, .i a19, .s a20, .i a21, .s a22, .s a23, .l a24, .l a25, .l a26, .l a27] =
 cond (decide (a2 < (a14.length : Int))) (
 cond (inb a2 a14.length) (
 (Lqe none [.i a3, .i a4, .i a5, .i a6, .l a7, .l a8, .l a24, .s ((rd a14 a2.toNat 0).str)]).bind fun y1 =>
 cond (decide ((g y1 0).int < 0)) (
 some [.i 2, .i 0, .i 0, .i 0, .i 0, .l ([]), .l ([]), .s (⟨#[]⟩ : ByteArray), .i 0, .s (⟨#[]⟩ : ByteArray), .s (⟨#[]⟩ : ByteArray), .l []]) (
 Lqq (some 4) [.s a0, .s a1, .i (IntKind.i64.wrap (a2 + 1)), .i a3, .i a4, .i a5, .i a6, .l a7, .l a8, .i a9, .s a10, .s a11, .i a12, .s a13, .l a14, .i a15, .i a16, .i a17, .i a18, .i a19, .s a20, .i a21, .s a22, .s a23, .l a24, .l a25, .l a26, .l a27])) (
 none)) (
 (Lqe none [.i a3, .i a4, .i a5, .i a6, .l a7, .l a8, .l a24, .s a1]).bind fun y2 =>
 cond (decide (0 ≤ (g y2 0).int)) (
 cond (inb ((g y2 0).int) a7.length) (
 (Lqr none [.s ((rd a7 (((g y2 0).int).toNat) 2).str), .l ((rd a7 (((g y2 0).int).toNat) 3).list), .i a3]).bind fun y3 =>
 cond (!Eng.seq ((g y3 0).str) a0) (
 some [.i 3, .i 0, .i 0, .i 0, .i 0, .l ([]), .l ([]), .s (⟨#[]⟩ : ByteArray), .i 0, .s ((g y3 0).str), .s a0, .l []]) (
 (Lqcd none [.i a3, .i a4, .i a5, .i a6, .l a7, .l a8, .s a1, .i a12, .l a24]).bind fun y4 =>
 cond ((g y4 0).int == 0) (
 some [.i ((g y4 0).int), .i ((g y4 1).int), .i ((g y4 2).int), .i ((g y4 3).int), .i ((g y4 4).int), .l ((g y4 5).list), .l ((g y4 6).list), .s a1, .i ((g y4 8).int), .s ((g y4 9).str), .s ((g y4 10).str), .l ((g y4 11).list)]) (
 some [.i ((g y4 0).int), .i ((g y4 1).int), .i ((g y4 2).int), .i ((g y4 3).int), .i ((g y4 4).int), .l ((g y4 5).list), .l ((g y4 6).list), .s ((g y4 7).str), .i ((g y4 8).int), .s ((g y4 9).str), .s ((g y4 10).str), .l ((g y4 11).list)]))) (
 none)) (
 cond (decide (600 ≤ (a7.length : Int))) (
 some [.i 4, .i 0, .i 0, .i 0, .i 0, .l ([]), .l ([]), .s (⟨#[]⟩ : ByteArray), .i 0, .s (⟨#[]⟩ : ByteArray), .s (⟨#[]⟩ : ByteArray), .l []]) (
 cond (decide (1000000000 ≤ a6)) (
 some [.i 4, .i 0, .i 0, .i 0, .i 0, .l ([]), .l ([]), .s (⟨#[]⟩ : ByteArray), .i 0, .s (⟨#[]⟩ : ByteArray), .s (⟨#[]⟩ : ByteArray), .l []]) (
 (Lqbi none [.s a13, .l a14]).bind fun y5 =>
 Lqq (some 20) [.s a1, .b false, .i 0, .i a3, .i a4, .i a5, .i (IntKind.i64.wrap (a6 + 1)), .l a7, .l a8, .i a9, .s a10, .s a11, .i a12, .s a13, .l a14, .i a15, .i a16, .i a17, .i a18, .i a19, .s a20, .i a21, .s a22, .s a23, .l ([] : Rw), .s a1, .i (IntKind.i64.wrap (a6 + 1)), .s ((g y5 0).str), .l ((g y5 1).list), .l a24, .l a25, .l a26, .l a27])))) := (Lim_eq _ _).trans (by kernel_rfl)
theorem eqq_20 (a0 : ByteArray) (a1 : Bool) (a2 : Int) (a3 : Int) (a4 : Int) (a5 : Int) (a6 : Int) (a7 : Rw) (a8 : Rw) (a9 : Int) (a10 : ByteArray) (a11 : ByteArray) (a12 : Int) (a13 : ByteArray) (a14 : Rw) (a15 : Int) (a16 : Int) (a17 : Int) (a18 : Int) (a19 : Int) (a20 : ByteArray) (a21 : Int) (a22 : ByteArray) (a23 : ByteArray) (a24 : Rw) (a25 : ByteArray) (a26 : Int) (a27 : ByteArray) (a28 : Rw) (a29 : Rw) (a30 : Rw) (a31 : Rw) (a32 : Rw) : Lqq (some 20) [.s a0, .b a1, .i a2, .i a3, .i a4, .i a5, .i a6, .l a7, .l a8, .i a9, .s a10, .s a11, .i a12, .s a13, .l a14, .i a15, .i a16, .i a17, .i a18, .i a19, .s a20, .i a21, .s a22, .s a23, .l a24, .s a25, .i a26, .s a27, .l a28, .l a29, .l a30, .l a31, .l a32] =
 cond (decide (a2 < (a7.length : Int))) (
 cond (!a1) (
 cond (inb a2 a7.length) (
 cond (!(slt ((rd a7 a2.toNat 0).str) a0 || Eng.seq ((rd a7 a2.toNat 0).str) a0)) (
 cond (decide (a24.length + ([[.s a25, .i a26, .s a27, .l a28]] : Rw).length ≤ most)) (
 cond (inb a2 a7.length) (
 cond (decide ((a24 ++ ([[.s a25, .i a26, .s a27, .l a28]] : Rw)).length + ([[.s ((rd a7 a2.toNat 0).str), .i ((rd a7 a2.toNat 1).int), .s ((rd a7 a2.toNat 2).str), .l ((rd a7 a2.toNat 3).list)]] : Rw).length ≤ most)) (
 Lqq (some 20) [.s a0, .b true, .i (IntKind.i64.wrap (a2 + 1)), .i a3, .i a4, .i a5, .i a6, .l a7, .l a8, .i a9, .s a10, .s a11, .i a12, .s a13, .l a14, .i a15, .i a16, .i a17, .i a18, .i a19, .s a20, .i a21, .s a22, .s a23, .l ((a24 ++ ([[.s a25, .i a26, .s a27, .l a28]] : Rw)) ++ ([[.s ((rd a7 a2.toNat 0).str), .i ((rd a7 a2.toNat 1).int), .s ((rd a7 a2.toNat 2).str), .l ((rd a7 a2.toNat 3).list)]] : Rw)), .s a25, .i a26, .s a27, .l a28, .l a29, .l a30, .l a31, .l a32]) (
 none)) (
 none)) (
 none)) (
 cond (inb a2 a7.length) (
 cond (decide (a24.length + ([[.s ((rd a7 a2.toNat 0).str), .i ((rd a7 a2.toNat 1).int), .s ((rd a7 a2.toNat 2).str), .l ((rd a7 a2.toNat 3).list)]] : Rw).length ≤ most)) (
 Lqq (some 20) [.s a0, .b a1, .i (IntKind.i64.wrap (a2 + 1)), .i a3, .i a4, .i a5, .i a6, .l a7, .l a8, .i a9, .s a10, .s a11, .i a12, .s a13, .l a14, .i a15, .i a16, .i a17, .i a18, .i a19, .s a20, .i a21, .s a22, .s a23, .l (a24 ++ ([[.s ((rd a7 a2.toNat 0).str), .i ((rd a7 a2.toNat 1).int), .s ((rd a7 a2.toNat 2).str), .l ((rd a7 a2.toNat 3).list)]] : Rw)), .s a25, .i a26, .s a27, .l a28, .l a29, .l a30, .l a31, .l a32]) (
 none)) (
 none))) (
 none)) (
 cond (inb a2 a7.length) (
 cond (decide (a24.length + ([[.s ((rd a7 a2.toNat 0).str), .i ((rd a7 a2.toNat 1).int), .s ((rd a7 a2.toNat 2).str), .l ((rd a7 a2.toNat 3).list)]] : Rw).length ≤ most)) (
 Lqq (some 20) [.s a0, .b a1, .i (IntKind.i64.wrap (a2 + 1)), .i a3, .i a4, .i a5, .i a6, .l a7, .l a8, .i a9, .s a10, .s a11, .i a12, .s a13, .l a14, .i a15, .i a16, .i a17, .i a18, .i a19, .s a20, .i a21, .s a22, .s a23, .l (a24 ++ ([[.s ((rd a7 a2.toNat 0).str), .i ((rd a7 a2.toNat 1).int), .s ((rd a7 a2.toNat 2).str), .l ((rd a7 a2.toNat 3).list)]] : Rw)), .s a25, .i a26, .s a27, .l a28, .l a29, .l a30, .l a31, .l a32]) (
 none)) (
 none))) (
 cond (!a1) (
 cond (decide (a24.length + ([[.s a25, .i a26, .s a27, .l a28]] : Rw).length ≤ most)) (
 (Lqcd none [.i a3, .i a4, .i a5, .i a6, .l (a24 ++ ([[.s a25, .i a26, .s a27, .l a28]] : Rw)), .l a8, .s a0, .i a12, .l a29]).bind fun y1 =>
 cond ((g y1 0).int == 0) (
 some [.i ((g y1 0).int), .i ((g y1 1).int), .i ((g y1 2).int), .i ((g y1 3).int), .i ((g y1 4).int), .l ((g y1 5).list), .l ((g y1 6).list), .s a0, .i ((g y1 8).int), .s ((g y1 9).str), .s ((g y1 10).str), .l ((g y1 11).list)]) (
 some [.i ((g y1 0).int), .i ((g y1 1).int), .i ((g y1 2).int), .i ((g y1 3).int), .i ((g y1 4).int), .l ((g y1 5).list), .l ((g y1 6).list), .s ((g y1 7).str), .i ((g y1 8).int), .s ((g y1 9).str), .s ((g y1 10).str), .l ((g y1 11).list)])) (
 none)) (
 (Lqcd none [.i a3, .i a4, .i a5, .i a6, .l a24, .l a8, .s a0, .i a12, .l a29]).bind fun y2 =>
 cond ((g y2 0).int == 0) (
 some [.i ((g y2 0).int), .i ((g y2 1).int), .i ((g y2 2).int), .i ((g y2 3).int), .i ((g y2 4).int), .l ((g y2 5).list), .l ((g y2 6).list), .s a0, .i ((g y2 8).int), .s ((g y2 9).str), .s ((g y2 10).str), .l ((g y2 11).list)]) (
 some [.i ((g y2 0).int), .i ((g y2 1).int), .i ((g y2 2).int), .i ((g y2 3).int), .i ((g y2 4).int), .l ((g y2 5).list), .l ((g y2 6).list), .s ((g y2 7).str), .i ((g y2 8).int), .s ((g y2 9).str), .s ((g y2 10).str), .l ((g y2 11).list)]))) := (Lim_eq _ _).trans (by kernel_rfl)
theorem kqq : SigOk Tryz.prog (dqq.sig (Lqq none)) ∧ (dqq.sig (Lqq none)).ok = true := sound_lim (known_cons kqr (by kernel_rfl) (known_cons kqbi (by kernel_rfl) (known_cons kqk (by kernel_rfl) (known_cons kqe (by kernel_rfl) (known_cons kqcd (by kernel_rfl) known_nil))))) (by kernel_rfl) (by kernel_rfl) (by kernel_rfl)
def dqz : FD := { fn := 178, nb := 0, pre := ⟨[.ag [.i .i64 0, .i .i64 1, .i .i64 2, .i .i64 3, .fz 90 false 4, .fz 156 false 5, .ow 0], .ag [.i .i64 6, .s 7, .s 8, .i .i64 9, .s 10, .fz 9 false 11]], [.rw 158 false 12]⟩, post := ⟨[.ag [.i .i64 0, .i .i64 1, .i .i64 2, .i .i64 3, .i .i64 4, .fz 90 false 5, .ow 0, .ow 1, .s 6, .i .i64 7, .s 8, .s 9]], [.rw 156 true 10, .rw 158 false 11]⟩, sh := true, cuts := [⟨6, [2, 3, 4, 5, 6, 7], ⟨[.sc (.pt 0 0), .sc (.pt 1 0), .sc (.pt 2 0), .sc (.ow 3), .sc (.b 0), .sc (.i .i64 1)], [.bx [.i .i64 2, .i .i64 3, .i .i64 4, .i .i64 5, .fz 90 false 6, .fz 156 false 7, .ow 4], .bx [.i .i64 8, .s 9, .s 10, .i .i64 11, .s 12, .fz 9 false 13], .bx [.i .i64 14, .i .i64 15, .i .i64 16, .i .i64 17, .i .i64 18, .ow 5, .ow 6, .ow 7, .s 19, .i .i64 20, .s 21, .s 22], .rw 156 true 23, .rw 158 false 24, .rw 90 true 25, .rw 156 true 26, .rw 158 true 27]⟩⟩, ⟨11, [2, 3, 4, 5, 6, 7], ⟨[.sc (.pt 0 0), .sc (.pt 1 0), .sc (.pt 2 0), .sc (.ow 3), .sc (.b 0), .sc (.i .i64 1)], [.bx [.i .i64 2, .i .i64 3, .i .i64 4, .i .i64 5, .fz 90 false 6, .fz 156 false 7, .ow 4], .bx [.i .i64 8, .s 9, .s 10, .i .i64 11, .s 12, .fz 9 false 13], .bx [.i .i64 14, .i .i64 15, .i .i64 16, .i .i64 17, .i .i64 18, .ow 5, .ow 6, .ow 7, .s 19, .i .i64 20, .s 21, .s 22], .rw 156 true 23, .rw 158 false 24, .rw 90 true 25, .rw 156 true 26, .rw 158 true 27]⟩⟩] }
noncomputable def Lqz : Option Nat → Lv → Option Lv := Lim Tryz.prog [dqe.sig (Lqe none)] dqz Tryz.f178
theorem eqz_i (a0 : Int) (a1 : Int) (a2 : Int) (a3 : Int) (a4 : Rw) (a5 : Rw) (a6 : Int) (a7 : ByteArray) (a8 : ByteArray) (a9 : Int) (a10 : ByteArray) (a11 : Rw) (a12 : Rw) : Lqz none [.i a0, .i a1, .i a2, .i a3, .l a4, .l a5, .i a6, .s a7, .s a8, .i a9, .s a10, .l a11, .l a12] =
 (Lqe none [.i a0, .i a1, .i a2, .i a3, .l a4, .l a5, .l a12, .s a7]).bind fun y1 =>
 cond (decide ((g y1 0).int < 0)) (
 some [.i 2, .i 0, .i 0, .i 0, .i 0, .l ([]), .s (⟨#[]⟩ : ByteArray), .i 0, .s (⟨#[]⟩ : ByteArray), .s (⟨#[]⟩ : ByteArray), .l [], .l []]) (
 Lqz (some 6) [.b false, .i 0, .i a0, .i a1, .i a2, .i a3, .l a4, .l a5, .i a6, .s a7, .s a8, .i a9, .s a10, .l a11, .i 0, .i 0, .i 0, .i 0, .i 0, .s (⟨#[]⟩ : ByteArray), .i 0, .s (⟨#[]⟩ : ByteArray), .s (⟨#[]⟩ : ByteArray), .l ([] : Rw), .l a12, .l [], .l [], .l []]) := (Lim_eq _ _).trans (by kernel_rfl)
theorem eqz_6 (a0 : Bool) (a1 : Int) (a2 : Int) (a3 : Int) (a4 : Int) (a5 : Int) (a6 : Rw) (a7 : Rw) (a8 : Int) (a9 : ByteArray) (a10 : ByteArray) (a11 : Int) (a12 : ByteArray) (a13 : Rw) (a14 : Int) (a15 : Int) (a16 : Int) (a17 : Int) (a18 : Int) (a19 : ByteArray) (a20 : Int) (a21 : ByteArray) (a22 : ByteArray) (a23 : Rw) (a24 : Rw) (a25 : Rw) (a26 : Rw) (a27 : Rw) : Lqz (some 6) [.b a0, .i a1, .i a2, .i a3, .i a4, .i a5, .l a6, .l a7, .i a8, .s a9, .s a10, .i a11, .s a12, .l a13, .i a14, .i a15, .i a16, .i a17, .i a18, .s a19, .i a20, .s a21, .s a22, .l a23, .l a24, .l a25, .l a26, .l a27] =
 cond (decide (a1 < (a7.length : Int))) (
 cond (!a0) (
 cond (inb a1 a7.length) (
 cond (!slt ((rd a7 a1.toNat 0).str) a10) (
 cond (decide (a23.length + ([[.s a10, .s a9]] : Rw).length ≤ most)) (
 Lqz (some 11) [.b true, .i a1, .i a2, .i a3, .i a4, .i a5, .l a6, .l a7, .i a8, .s a9, .s a10, .i a11, .s a12, .l a13, .i a14, .i a15, .i a16, .i a17, .i a18, .s a19, .i a20, .s a21, .s a22, .l (a23 ++ ([[.s a10, .s a9]] : Rw)), .l a24, .l a25, .l a26, .l a27]) (
 none)) (
 Lqz (some 11) [.b a0, .i a1, .i a2, .i a3, .i a4, .i a5, .l a6, .l a7, .i a8, .s a9, .s a10, .i a11, .s a12, .l a13, .i a14, .i a15, .i a16, .i a17, .i a18, .s a19, .i a20, .s a21, .s a22, .l a23, .l a24, .l a25, .l a26, .l a27])) (
 none)) (
 Lqz (some 11) [.b a0, .i a1, .i a2, .i a3, .i a4, .i a5, .l a6, .l a7, .i a8, .s a9, .s a10, .i a11, .s a12, .l a13, .i a14, .i a15, .i a16, .i a17, .i a18, .s a19, .i a20, .s a21, .s a22, .l a23, .l a24, .l a25, .l a26, .l a27])) (
 cond (!a0) (
 cond (decide (a23.length + ([[.s a10, .s a9]] : Rw).length ≤ most)) (
 cond (decide (100 < ((a23 ++ ([[.s a10, .s a9]] : Rw)).length : Int))) (
 some [.i 4, .i 0, .i 0, .i 0, .i 0, .l ([]), .s (⟨#[]⟩ : ByteArray), .i 0, .s (⟨#[]⟩ : ByteArray), .s (⟨#[]⟩ : ByteArray), .l [], .l []]) (
 some [.i 0, .i a2, .i a3, .i a4, .i a5, .l a6, .s (⟨#[]⟩ : ByteArray), .i 0, .s (⟨#[]⟩ : ByteArray), .s (⟨#[]⟩ : ByteArray), .l (a23 ++ ([[.s a10, .s a9]] : Rw)), .l a24])) (
 none)) (
 cond (decide (100 < (a23.length : Int))) (
 some [.i 4, .i 0, .i 0, .i 0, .i 0, .l ([]), .s (⟨#[]⟩ : ByteArray), .i 0, .s (⟨#[]⟩ : ByteArray), .s (⟨#[]⟩ : ByteArray), .l [], .l []]) (
 some [.i 0, .i a2, .i a3, .i a4, .i a5, .l a6, .s (⟨#[]⟩ : ByteArray), .i 0, .s (⟨#[]⟩ : ByteArray), .s (⟨#[]⟩ : ByteArray), .l a23, .l a24]))) := (Lim_eq _ _).trans (by kernel_rfl)
theorem eqz_11 (a0 : Bool) (a1 : Int) (a2 : Int) (a3 : Int) (a4 : Int) (a5 : Int) (a6 : Rw) (a7 : Rw) (a8 : Int) (a9 : ByteArray) (a10 : ByteArray) (a11 : Int) (a12 : ByteArray) (a13 : Rw) (a14 : Int) (a15 : Int) (a16 : Int) (a17 : Int) (a18 : Int) (a19 : ByteArray) (a20 : Int) (a21 : ByteArray) (a22 : ByteArray) (a23 : Rw) (a24 : Rw) (a25 : Rw) (a26 : Rw) (a27 : Rw) : Lqz (some 11) [.b a0, .i a1, .i a2, .i a3, .i a4, .i a5, .l a6, .l a7, .i a8, .s a9, .s a10, .i a11, .s a12, .l a13, .i a14, .i a15, .i a16, .i a17, .i a18, .s a19, .i a20, .s a21, .s a22, .l a23, .l a24, .l a25, .l a26, .l a27] =
 cond (inb a1 a7.length) (
 cond (!Eng.seq ((rd a7 a1.toNat 0).str) a10) (
 cond (inb a1 a7.length) (
 cond (decide (a23.length + ([[.s ((rd a7 a1.toNat 0).str), .s ((rd a7 a1.toNat 1).str)]] : Rw).length ≤ most)) (
 Lqz (some 6) [.b a0, .i (IntKind.i64.wrap (a1 + 1)), .i a2, .i a3, .i a4, .i a5, .l a6, .l a7, .i a8, .s a9, .s a10, .i a11, .s a12, .l a13, .i a14, .i a15, .i a16, .i a17, .i a18, .s a19, .i a20, .s a21, .s a22, .l (a23 ++ ([[.s ((rd a7 a1.toNat 0).str), .s ((rd a7 a1.toNat 1).str)]] : Rw)), .l a24, .l a25, .l a26, .l a27]) (
 none)) (
 none)) (
 Lqz (some 6) [.b a0, .i (IntKind.i64.wrap (a1 + 1)), .i a2, .i a3, .i a4, .i a5, .l a6, .l a7, .i a8, .s a9, .s a10, .i a11, .s a12, .l a13, .i a14, .i a15, .i a16, .i a17, .i a18, .s a19, .i a20, .s a21, .s a22, .l a23, .l a24, .l a25, .l a26, .l a27])) (
 none) := (Lim_eq _ _).trans (by kernel_rfl)
theorem kqz : SigOk Tryz.prog (dqz.sig (Lqz none)) ∧ (dqz.sig (Lqz none)).ok = true := sound_lim (known_cons kqe (by kernel_rfl) known_nil) (by kernel_rfl) (by kernel_rfl) (by kernel_rfl)
def dqbo : FD := { fn := 179, nb := 0, pre := ⟨[.ag [.i .i64 0, .i .i64 1, .i .i64 2, .i .i64 3, .fz 90 false 4, .fz 156 false 5, .ow 0], .sc (.s 6)], [.rw 158 false 7]⟩, post := ⟨[.ag [.i .i64 0, .i .i64 1, .i .i64 2, .i .i64 3, .i .i64 4, .fz 90 false 5, .ow 0, .ow 1, .s 6, .i .i64 7, .s 8, .s 9]], [.rw 156 true 10, .rw 158 false 11]⟩, sh := true, cuts := [⟨3, [1, 2, 4, 5, 6], ⟨[.sc (.s 0), .sc (.pt 0 0), .sc (.pt 1 0), .sc (.ow 2), .sc (.i .i64 1)], [.bx [.i .i64 2, .i .i64 3, .i .i64 4, .i .i64 5, .fz 90 false 6, .fz 156 false 7, .ow 3], .bx [.i .i64 8, .i .i64 9, .i .i64 10, .i .i64 11, .i .i64 12, .ow 4, .ow 5, .ow 6, .s 13, .i .i64 14, .s 15, .s 16], .rw 156 true 17, .rw 158 false 18, .rw 90 true 19, .rw 156 true 20, .rw 158 true 21]⟩⟩] }
noncomputable def Lqbo : Option Nat → Lv → Option Lv := Lim Tryz.prog [] dqbo Tryz.f179
theorem eqbo_i (a0 : Int) (a1 : Int) (a2 : Int) (a3 : Int) (a4 : Rw) (a5 : Rw) (a6 : ByteArray) (a7 : Rw) : Lqbo none [.i a0, .i a1, .i a2, .i a3, .l a4, .l a5, .s a6, .l a7] =
 Lqbo (some 3) [.s a6, .i 0, .i a0, .i a1, .i a2, .i a3, .l a4, .l a5, .i 0, .i 0, .i 0, .i 0, .i 0, .s (⟨#[]⟩ : ByteArray), .i 0, .s (⟨#[]⟩ : ByteArray), .s (⟨#[]⟩ : ByteArray), .l ([] : Rw), .l a7, .l [], .l [], .l []] := (Lim_eq _ _).trans (by kernel_rfl)
theorem eqbo_3 (a0 : ByteArray) (a1 : Int) (a2 : Int) (a3 : Int) (a4 : Int) (a5 : Int) (a6 : Rw) (a7 : Rw) (a8 : Int) (a9 : Int) (a10 : Int) (a11 : Int) (a12 : Int) (a13 : ByteArray) (a14 : Int) (a15 : ByteArray) (a16 : ByteArray) (a17 : Rw) (a18 : Rw) (a19 : Rw) (a20 : Rw) (a21 : Rw) : Lqbo (some 3) [.s a0, .i a1, .i a2, .i a3, .i a4, .i a5, .l a6, .l a7, .i a8, .i a9, .i a10, .i a11, .i a12, .s a13, .i a14, .s a15, .s a16, .l a17, .l a18, .l a19, .l a20, .l a21] =
 cond (decide (a1 < (a7.length : Int))) (
 cond (inb a1 a7.length) (
 cond (!Eng.seq ((rd a7 a1.toNat 0).str) a0) (
 cond (inb a1 a7.length) (
 cond (decide (a17.length + ([[.s ((rd a7 a1.toNat 0).str), .s ((rd a7 a1.toNat 1).str)]] : Rw).length ≤ most)) (
 Lqbo (some 3) [.s a0, .i (IntKind.i64.wrap (a1 + 1)), .i a2, .i a3, .i a4, .i a5, .l a6, .l a7, .i a8, .i a9, .i a10, .i a11, .i a12, .s a13, .i a14, .s a15, .s a16, .l (a17 ++ ([[.s ((rd a7 a1.toNat 0).str), .s ((rd a7 a1.toNat 1).str)]] : Rw)), .l a18, .l a19, .l a20, .l a21]) (
 none)) (
 none)) (
 Lqbo (some 3) [.s a0, .i (IntKind.i64.wrap (a1 + 1)), .i a2, .i a3, .i a4, .i a5, .l a6, .l a7, .i a8, .i a9, .i a10, .i a11, .i a12, .s a13, .i a14, .s a15, .s a16, .l a17, .l a18, .l a19, .l a20, .l a21])) (
 none)) (
 cond ((a17.length : Int) == (a7.length : Int)) (
 some [.i 5, .i 0, .i 0, .i 0, .i 0, .l ([]), .s (⟨#[]⟩ : ByteArray), .i 0, .s (⟨#[]⟩ : ByteArray), .s (⟨#[]⟩ : ByteArray), .l [], .l []]) (
 some [.i 0, .i a2, .i a3, .i a4, .i a5, .l a6, .s (⟨#[]⟩ : ByteArray), .i 0, .s (⟨#[]⟩ : ByteArray), .s (⟨#[]⟩ : ByteArray), .l a17, .l a18])) := (Lim_eq _ _).trans (by kernel_rfl)
theorem kqbo : SigOk Tryz.prog (dqbo.sig (Lqbo none)) ∧ (dqbo.sig (Lqbo none)).ok = true := sound_lim known_nil (by kernel_rfl) (by kernel_rfl) (by kernel_rfl)
def dqbp : FD := { fn := 181, nb := 0, pre := ⟨[.ag [.i .i64 0, .i .i64 1, .i .i64 2, .i .i64 3, .fz 90 false 4, .fz 156 false 5, .ow 0], .sc (.i .i64 6)], [.rw 158 false 7]⟩, post := ⟨[.ag [.i .i64 0, .i .i64 1, .i .i64 2, .i .i64 3, .i .i64 4, .fz 90 false 5, .fz 156 false 6, .ow 0, .s 7, .i .i64 8, .s 9, .s 10]], [.rw 158 true 11]⟩, sh := true, cuts := [⟨3, [1, 2, 4, 5, 6], ⟨[.sc (.i .i64 0), .sc (.pt 0 0), .sc (.pt 1 0), .sc (.ow 2), .sc (.i .i64 1)], [.bx [.i .i64 2, .i .i64 3, .i .i64 4, .i .i64 5, .fz 90 false 6, .fz 156 false 7, .ow 3], .bx [.i .i64 8, .i .i64 9, .i .i64 10, .i .i64 11, .i .i64 12, .ow 4, .ow 5, .ow 6, .s 13, .i .i64 14, .s 15, .s 16], .rw 158 true 17, .rw 158 false 18, .rw 90 true 19, .rw 156 true 20, .rw 158 true 21]⟩⟩] }
noncomputable def Lqbp : Option Nat → Lv → Option Lv := Lim Tryz.prog [] dqbp Tryz.f181
theorem eqbp_i (a0 : Int) (a1 : Int) (a2 : Int) (a3 : Int) (a4 : Rw) (a5 : Rw) (a6 : Int) (a7 : Rw) : Lqbp none [.i a0, .i a1, .i a2, .i a3, .l a4, .l a5, .i a6, .l a7] =
 Lqbp (some 3) [.i a6, .i 0, .i a0, .i a1, .i a2, .i a3, .l a4, .l a5, .i 0, .i 0, .i 0, .i 0, .i 0, .s (⟨#[]⟩ : ByteArray), .i 0, .s (⟨#[]⟩ : ByteArray), .s (⟨#[]⟩ : ByteArray), .l ([] : Rw), .l a7, .l [], .l [], .l []] := (Lim_eq _ _).trans (by kernel_rfl)
theorem eqbp_3 (a0 : Int) (a1 : Int) (a2 : Int) (a3 : Int) (a4 : Int) (a5 : Int) (a6 : Rw) (a7 : Rw) (a8 : Int) (a9 : Int) (a10 : Int) (a11 : Int) (a12 : Int) (a13 : ByteArray) (a14 : Int) (a15 : ByteArray) (a16 : ByteArray) (a17 : Rw) (a18 : Rw) (a19 : Rw) (a20 : Rw) (a21 : Rw) : Lqbp (some 3) [.i a0, .i a1, .i a2, .i a3, .i a4, .i a5, .l a6, .l a7, .i a8, .i a9, .i a10, .i a11, .i a12, .s a13, .i a14, .s a15, .s a16, .l a17, .l a18, .l a19, .l a20, .l a21] =
 cond (decide (a1 < (a18.length : Int))) (
 cond (inb a1 a18.length) (
 cond ((rd a18 a1.toNat 0).int != a0) (
 cond (inb a1 a18.length) (
 cond (decide (a17.length + ([[.i ((rd a18 a1.toNat 0).int), .s ((rd a18 a1.toNat 1).str), .i ((rd a18 a1.toNat 2).int)]] : Rw).length ≤ most)) (
 Lqbp (some 3) [.i a0, .i (IntKind.i64.wrap (a1 + 1)), .i a2, .i a3, .i a4, .i a5, .l a6, .l a7, .i a8, .i a9, .i a10, .i a11, .i a12, .s a13, .i a14, .s a15, .s a16, .l (a17 ++ ([[.i ((rd a18 a1.toNat 0).int), .s ((rd a18 a1.toNat 1).str), .i ((rd a18 a1.toNat 2).int)]] : Rw)), .l a18, .l a19, .l a20, .l a21]) (
 none)) (
 none)) (
 Lqbp (some 3) [.i a0, .i (IntKind.i64.wrap (a1 + 1)), .i a2, .i a3, .i a4, .i a5, .l a6, .l a7, .i a8, .i a9, .i a10, .i a11, .i a12, .s a13, .i a14, .s a15, .s a16, .l a17, .l a18, .l a19, .l a20, .l a21])) (
 none)) (
 cond ((a17.length : Int) == (a18.length : Int)) (
 some [.i 5, .i 0, .i 0, .i 0, .i 0, .l ([]), .l ([]), .s (⟨#[]⟩ : ByteArray), .i 0, .s (⟨#[]⟩ : ByteArray), .s (⟨#[]⟩ : ByteArray), .l []]) (
 some [.i 0, .i a2, .i a3, .i a4, .i a5, .l a6, .l a7, .s (⟨#[]⟩ : ByteArray), .i 0, .s (⟨#[]⟩ : ByteArray), .s (⟨#[]⟩ : ByteArray), .l a17])) := (Lim_eq _ _).trans (by kernel_rfl)
theorem kqbp : SigOk Tryz.prog (dqbp.sig (Lqbp none)) ∧ (dqbp.sig (Lqbp none)).ok = true := sound_lim known_nil (by kernel_rfl) (by kernel_rfl) (by kernel_rfl)
def dqbq : FD := { fn := 182, nb := 0, pre := ⟨[.ag [.i .i64 0, .i .i64 1, .i .i64 2, .i .i64 3, .fz 90 false 4, .fz 156 false 5, .ow 0], .sc (.i .i64 6)], [.rw 158 false 7]⟩, post := ⟨[.ag [.i .i64 0, .i .i64 1, .i .i64 2, .i .i64 3, .i .i64 4, .fz 90 false 5, .fz 156 false 6, .ow 0, .s 7, .i .i64 8, .s 9, .s 10]], [.rw 158 true 11]⟩, sh := true, cuts := [⟨6, [2, 4, 5, 6], ⟨[.sc (.pt 0 0), .sc (.pt 1 0), .sc (.ow 2), .sc (.i .i64 0)], [.bx [.i .i64 1, .i .i64 2, .i .i64 3, .i .i64 4, .fz 90 false 5, .fz 156 false 6, .ow 3], .bx [.i .i64 7, .i .i64 8, .i .i64 9, .i .i64 10, .i .i64 11, .ow 4, .ow 5, .ow 6, .s 12, .i .i64 13, .s 14, .s 15], .rw 158 true 16, .rw 158 false 17, .rw 90 true 18, .rw 156 true 19, .rw 158 true 20]⟩⟩] }
noncomputable def Lqbq : Option Nat → Lv → Option Lv := Lim Tryz.prog [] dqbq Tryz.f182
theorem eqbq_i (a0 : Int) (a1 : Int) (a2 : Int) (a3 : Int) (a4 : Rw) (a5 : Rw) (a6 : Int) (a7 : Rw) : Lqbq none [.i a0, .i a1, .i a2, .i a3, .l a4, .l a5, .i a6, .l a7] =
 cond (decide (1000000000 < (IntKind.i64.wrap (a1 + a6)))) (
 some [.i 4, .i 0, .i 0, .i 0, .i 0, .l ([]), .l ([]), .s (⟨#[]⟩ : ByteArray), .i 0, .s (⟨#[]⟩ : ByteArray), .s (⟨#[]⟩ : ByteArray), .l []]) (
 Lqbq (some 6) [.i 0, .i a0, .i (IntKind.i64.wrap (a1 + a6)), .i a2, .i a3, .l a4, .l a5, .i 0, .i 0, .i 0, .i 0, .i 0, .s (⟨#[]⟩ : ByteArray), .i 0, .s (⟨#[]⟩ : ByteArray), .s (⟨#[]⟩ : ByteArray), .l ([] : Rw), .l a7, .l [], .l [], .l []]) := (Lim_eq _ _).trans (by kernel_rfl)
theorem eqbq_6 (a0 : Int) (a1 : Int) (a2 : Int) (a3 : Int) (a4 : Int) (a5 : Rw) (a6 : Rw) (a7 : Int) (a8 : Int) (a9 : Int) (a10 : Int) (a11 : Int) (a12 : ByteArray) (a13 : Int) (a14 : ByteArray) (a15 : ByteArray) (a16 : Rw) (a17 : Rw) (a18 : Rw) (a19 : Rw) (a20 : Rw) : Lqbq (some 6) [.i a0, .i a1, .i a2, .i a3, .i a4, .l a5, .l a6, .i a7, .i a8, .i a9, .i a10, .i a11, .s a12, .i a13, .s a14, .s a15, .l a16, .l a17, .l a18, .l a19, .l a20] =
 cond (decide (a0 < (a17.length : Int))) (
 cond (inb a0 a17.length) (
 cond (decide (a2 < (rd a17 a0.toNat 2).int)) (
 cond (inb a0 a17.length) (
 cond (decide (a16.length + ([[.i ((rd a17 a0.toNat 0).int), .s ((rd a17 a0.toNat 1).str), .i ((rd a17 a0.toNat 2).int)]] : Rw).length ≤ most)) (
 Lqbq (some 6) [.i (IntKind.i64.wrap (a0 + 1)), .i a1, .i a2, .i a3, .i a4, .l a5, .l a6, .i a7, .i a8, .i a9, .i a10, .i a11, .s a12, .i a13, .s a14, .s a15, .l (a16 ++ ([[.i ((rd a17 a0.toNat 0).int), .s ((rd a17 a0.toNat 1).str), .i ((rd a17 a0.toNat 2).int)]] : Rw)), .l a17, .l a18, .l a19, .l a20]) (
 none)) (
 none)) (
 Lqbq (some 6) [.i (IntKind.i64.wrap (a0 + 1)), .i a1, .i a2, .i a3, .i a4, .l a5, .l a6, .i a7, .i a8, .i a9, .i a10, .i a11, .s a12, .i a13, .s a14, .s a15, .l a16, .l a17, .l a18, .l a19, .l a20])) (
 none)) (
 some [.i 0, .i a1, .i a2, .i a3, .i a4, .l a5, .l a6, .s (⟨#[]⟩ : ByteArray), .i 0, .s (⟨#[]⟩ : ByteArray), .s (⟨#[]⟩ : ByteArray), .l a16]) := (Lim_eq _ _).trans (by kernel_rfl)
theorem kqbq : SigOk Tryz.prog (dqbq.sig (Lqbq none)) ∧ (dqbq.sig (Lqbq none)).ok = true := sound_lim known_nil (by kernel_rfl) (by kernel_rfl) (by kernel_rfl)
def dqu : FD := { fn := 220, nb := 0, pre := ⟨[.ag [.i .i64 0, .i .i64 1, .i .i64 2, .i .i64 3, .fz 90 false 4, .fz 156 false 5, .fz 158 false 6], .sc (.s 7)], []⟩, post := ⟨[.sc (.b 0)], []⟩, sh := false, cuts := [⟨2, [1, 2, 5], ⟨[.sc (.s 0), .sc (.pt 0 0), .sc (.i .i64 1)], [.bx [.i .i64 2, .i .i64 3, .i .i64 4, .i .i64 5, .fz 90 false 6, .fz 156 false 7, .fz 158 false 8]]⟩⟩, ⟨7, [1, 2, 6], ⟨[.sc (.s 0), .sc (.pt 0 0), .sc (.i .i64 1)], [.bx [.i .i64 2, .i .i64 3, .i .i64 4, .i .i64 5, .fz 90 false 6, .fz 156 false 7, .fz 158 false 8]]⟩⟩] }
noncomputable def Lqu : Option Nat → Lv → Option Lv := Lim Tryz.prog [] dqu Tryz.f220
theorem equ_i (a0 : Int) (a1 : Int) (a2 : Int) (a3 : Int) (a4 : Rw) (a5 : Rw) (a6 : Rw) (a7 : ByteArray) : Lqu none [.i a0, .i a1, .i a2, .i a3, .l a4, .l a5, .l a6, .s a7] =
 Lqu (some 2) [.s a7, .i 0, .i a0, .i a1, .i a2, .i a3, .l a4, .l a5, .l a6] := (Lim_eq _ _).trans (by kernel_rfl)
theorem equ_2 (a0 : ByteArray) (a1 : Int) (a2 : Int) (a3 : Int) (a4 : Int) (a5 : Int) (a6 : Rw) (a7 : Rw) (a8 : Rw) : Lqu (some 2) [.s a0, .i a1, .i a2, .i a3, .i a4, .i a5, .l a6, .l a7, .l a8] =
 cond (decide (a1 < (a7.length : Int))) (
 cond (inb a1 a7.length) (
 cond (Eng.seq ((rd a7 a1.toNat 1).str) a0) (
 some [.b true]) (
 Lqu (some 2) [.s a0, .i (IntKind.i64.wrap (a1 + 1)), .i a2, .i a3, .i a4, .i a5, .l a6, .l a7, .l a8])) (
 none)) (
 Lqu (some 7) [.s a0, .i 0, .i a2, .i a3, .i a4, .i a5, .l a6, .l a7, .l a8]) := (Lim_eq _ _).trans (by kernel_rfl)
theorem equ_7 (a0 : ByteArray) (a1 : Int) (a2 : Int) (a3 : Int) (a4 : Int) (a5 : Int) (a6 : Rw) (a7 : Rw) (a8 : Rw) : Lqu (some 7) [.s a0, .i a1, .i a2, .i a3, .i a4, .i a5, .l a6, .l a7, .l a8] =
 cond (decide (a1 < (a8.length : Int))) (
 cond (inb a1 a8.length) (
 cond (Eng.seq ((rd a8 a1.toNat 1).str) a0) (
 some [.b true]) (
 Lqu (some 7) [.s a0, .i (IntKind.i64.wrap (a1 + 1)), .i a2, .i a3, .i a4, .i a5, .l a6, .l a7, .l a8])) (
 none)) (
 some [.b false]) := (Lim_eq _ _).trans (by kernel_rfl)
theorem kqu : SigOk Tryz.prog (dqu.sig (Lqu none)) ∧ (dqu.sig (Lqu none)).ok = true := sound_lim known_nil (by kernel_rfl) (by kernel_rfl) (by kernel_rfl)
def dq2 : FD := { fn := 183, nb := 0, pre := ⟨[.ag [.i .i64 0, .i .i64 1, .i .i64 2, .i .i64 3, .fz 90 false 4, .fz 156 false 5, .ow 0], .sc (.s 6)], [.rw 158 false 7]⟩, post := ⟨[.ag [.i .i64 0, .i .i64 1, .i .i64 2, .i .i64 3, .i .i64 4, .ow 0, .fz 156 false 5, .ow 1, .s 6, .i .i64 7, .s 8, .s 9]], [.rw 90 false 10, .rw 158 false 11]⟩, sh := true, cuts := [⟨7, [1, 2, 4, 5, 6], ⟨[.sc (.s 0), .sc (.pt 0 0), .sc (.pt 1 0), .sc (.ow 2), .sc (.i .i64 1)], [.bx [.i .i64 2, .i .i64 3, .i .i64 4, .i .i64 5, .fz 90 false 6, .fz 156 false 7, .ow 3], .bx [.i .i64 8, .i .i64 9, .i .i64 10, .i .i64 11, .i .i64 12, .ow 4, .ow 5, .ow 6, .s 13, .i .i64 14, .s 15, .s 16], .rw 90 false 17, .rw 158 false 18, .rw 90 true 19, .rw 156 true 20, .rw 158 true 21]⟩⟩] }
noncomputable def Lq2 : Option Nat → Lv → Option Lv := Lim Tryz.prog [dqe.sig (Lqe none), dqg.sig (Lqg none), dqu.sig (Lqu none)] dq2 Tryz.f183
theorem eq2_i (a0 : Int) (a1 : Int) (a2 : Int) (a3 : Int) (a4 : Rw) (a5 : Rw) (a6 : ByteArray) (a7 : Rw) : Lq2 none [.i a0, .i a1, .i a2, .i a3, .l a4, .l a5, .s a6, .l a7] =
 (Lqe none [.i a0, .i a1, .i a2, .i a3, .l a4, .l a5, .l a7, .s a6]).bind fun y1 =>
 cond (decide ((g y1 0).int < 0)) (
 some [.i 2, .i 0, .i 0, .i 0, .i 0, .l ([]), .s (⟨#[]⟩ : ByteArray), .i 0, .s (⟨#[]⟩ : ByteArray), .s (⟨#[]⟩ : ByteArray), .l [], .l []]) (
 (Lqu none [.i a0, .i a1, .i a2, .i a3, .l a4, .l a5, .l a7, .s a6]).bind fun y2 =>
 cond ((g y2 0).bool) (
 some [.i 6, .i 0, .i 0, .i 0, .i 0, .l ([]), .s (⟨#[]⟩ : ByteArray), .i 0, .s (⟨#[]⟩ : ByteArray), .s (⟨#[]⟩ : ByteArray), .l [], .l []]) (
 Lq2 (some 7) [.s a6, .i 0, .i a0, .i a1, .i a2, .i a3, .l a4, .l a5, .i 0, .i 0, .i 0, .i 0, .i 0, .s (⟨#[]⟩ : ByteArray), .i 0, .s (⟨#[]⟩ : ByteArray), .s (⟨#[]⟩ : ByteArray), .l ([] : Rw), .l a7, .l [], .l [], .l []])) := (Lim_eq _ _).trans (by kernel_rfl)
theorem eq2_7 (a0 : ByteArray) (a1 : Int) (a2 : Int) (a3 : Int) (a4 : Int) (a5 : Int) (a6 : Rw) (a7 : Rw) (a8 : Int) (a9 : Int) (a10 : Int) (a11 : Int) (a12 : Int) (a13 : ByteArray) (a14 : Int) (a15 : ByteArray) (a16 : ByteArray) (a17 : Rw) (a18 : Rw) (a19 : Rw) (a20 : Rw) (a21 : Rw) : Lq2 (some 7) [.s a0, .i a1, .i a2, .i a3, .i a4, .i a5, .l a6, .l a7, .i a8, .i a9, .i a10, .i a11, .i a12, .s a13, .i a14, .s a15, .s a16, .l a17, .l a18, .l a19, .l a20, .l a21] =
 cond (decide (a1 < (a6.length : Int))) (
 cond (inb a1 a6.length) (
 (Lqg none [.l ((rd a6 a1.toNat 3).list), .s a0]).bind fun y1 =>
 cond ((g y1 0).bool) (
 some [.i 6, .i 0, .i 0, .i 0, .i 0, .l ([]), .s (⟨#[]⟩ : ByteArray), .i 0, .s (⟨#[]⟩ : ByteArray), .s (⟨#[]⟩ : ByteArray), .l [], .l []]) (
 cond (inb a1 a6.length) (
 cond (!Eng.seq ((rd a6 a1.toNat 0).str) a0) (
 cond (inb a1 a6.length) (
 cond (decide (a17.length + ([[.s ((rd a6 a1.toNat 0).str), .i ((rd a6 a1.toNat 1).int), .s ((rd a6 a1.toNat 2).str), .l ((rd a6 a1.toNat 3).list)]] : Rw).length ≤ most)) (
 Lq2 (some 7) [.s a0, .i (IntKind.i64.wrap (a1 + 1)), .i a2, .i a3, .i a4, .i a5, .l a6, .l a7, .i a8, .i a9, .i a10, .i a11, .i a12, .s a13, .i a14, .s a15, .s a16, .l (a17 ++ ([[.s ((rd a6 a1.toNat 0).str), .i ((rd a6 a1.toNat 1).int), .s ((rd a6 a1.toNat 2).str), .l ((rd a6 a1.toNat 3).list)]] : Rw)), .l a18, .l a19, .l a20, .l a21]) (
 none)) (
 none)) (
 Lq2 (some 7) [.s a0, .i (IntKind.i64.wrap (a1 + 1)), .i a2, .i a3, .i a4, .i a5, .l a6, .l a7, .i a8, .i a9, .i a10, .i a11, .i a12, .s a13, .i a14, .s a15, .s a16, .l a17, .l a18, .l a19, .l a20, .l a21])) (
 none))) (
 none)) (
 some [.i 0, .i a2, .i a3, .i a4, .i a5, .l a7, .s (⟨#[]⟩ : ByteArray), .i 0, .s (⟨#[]⟩ : ByteArray), .s (⟨#[]⟩ : ByteArray), .l a17, .l a18]) := (Lim_eq _ _).trans (by kernel_rfl)
theorem kq2 : SigOk Tryz.prog (dq2.sig (Lq2 none)) ∧ (dq2.sig (Lq2 none)).ok = true := sound_lim (known_cons kqe (by kernel_rfl) (known_cons kqg (by kernel_rfl) (known_cons kqu (by kernel_rfl) known_nil))) (by kernel_rfl) (by kernel_rfl) (by kernel_rfl)
def dqcg : FD := { fn := 114, nb := 0, pre := ⟨[.ag [.i .i64 0, .i .i64 1, .i .i64 2, .i .i64 3, .fz 90 false 4, .fz 156 false 5, .ow 0], .ag [.i .i64 6, .s 7, .s 8, .i .i64 9, .s 10, .fz 9 false 11]], [.rw 158 false 12]⟩, post := ⟨[.ag [.i .i64 0, .i .i64 1, .i .i64 2, .i .i64 3, .i .i64 4, .fz 90 false 5, .fz 156 false 6, .ow 0, .s 7, .i .i64 8, .s 9, .s 10]], [.rw 158 false 11]⟩, sh := true, cuts := [] }
noncomputable def Lqcg : Option Nat → Lv → Option Lv := Lim Tryz.prog [dqt.sig (Lqt none), dqe.sig (Lqe none), dqcd.sig (Lqcd none), dqq.sig (Lqq none), dqz.sig (Lqz none), dqbo.sig (Lqbo none), dqbp.sig (Lqbp none), dqbq.sig (Lqbq none), dq2.sig (Lq2 none)] dqcg Tryz.f114
theorem eqcg_i (a0 : Int) (a1 : Int) (a2 : Int) (a3 : Int) (a4 : Rw) (a5 : Rw) (a6 : Int) (a7 : ByteArray) (a8 : ByteArray) (a9 : Int) (a10 : ByteArray) (a11 : Rw) (a12 : Rw) : Lqcg none [.i a0, .i a1, .i a2, .i a3, .l a4, .l a5, .i a6, .s a7, .s a8, .i a9, .s a10, .l a11, .l a12] =
 cond (a6 == 1) (
 (Lqq none [.i a0, .i a1, .i a2, .i a3, .l a4, .l a5, .i a6, .s a7, .s a8, .i a9, .s a10, .l a11, .l a12]).bind fun y1 =>
 some [.i ((g y1 0).int), .i ((g y1 1).int), .i ((g y1 2).int), .i ((g y1 3).int), .i ((g y1 4).int), .l ((g y1 5).list), .l ((g y1 6).list), .s ((g y1 7).str), .i ((g y1 8).int), .s ((g y1 9).str), .s ((g y1 10).str), .l ((g y1 11).list)]) (
 cond (a6 == 2) (
 (Lqz none [.i a0, .i a1, .i a2, .i a3, .l a4, .l a5, .i a6, .s a7, .s a8, .i a9, .s a10, .l a11, .l a12]).bind fun y2 =>
 some [.i ((g y2 0).int), .i ((g y2 1).int), .i ((g y2 2).int), .i ((g y2 3).int), .i ((g y2 4).int), .l ((g y2 5).list), .l ((g y2 10).list), .s ((g y2 6).str), .i ((g y2 7).int), .s ((g y2 8).str), .s ((g y2 9).str), .l ((g y2 11).list)]) (
 cond (a6 == 3) (
 (Lqbo none [.i a0, .i a1, .i a2, .i a3, .l a4, .l a5, .s a8, .l a12]).bind fun y3 =>
 some [.i ((g y3 0).int), .i ((g y3 1).int), .i ((g y3 2).int), .i ((g y3 3).int), .i ((g y3 4).int), .l ((g y3 5).list), .l ((g y3 10).list), .s ((g y3 6).str), .i ((g y3 7).int), .s ((g y3 8).str), .s ((g y3 9).str), .l ((g y3 11).list)]) (
 cond (a6 == 4) (
 (Lqe none [.i a0, .i a1, .i a2, .i a3, .l a4, .l a5, .l a12, .s a7]).bind fun y4 =>
 cond (decide ((g y4 0).int < 0)) (
 some [.i 2, .i 0, .i 0, .i 0, .i 0, .l ([]), .l ([]), .s (⟨#[]⟩ : ByteArray), .i 0, .s (⟨#[]⟩ : ByteArray), .s (⟨#[]⟩ : ByteArray), .l []]) (
 (Lqt none [.i a0, .i a1, .i a2, .i a3, .l a4, .l a5, .l a12]).bind fun y5 =>
 (Lqcd none [.i ((g y5 0).int), .i ((g y5 1).int), .i ((g y5 2).int), .i ((g y5 3).int), .l ((g y5 4).list), .l ((g y5 5).list), .s a7, .i a9, .l ((g y5 6).list)]).bind fun y6 =>
 some [.i ((g y6 0).int), .i ((g y6 1).int), .i ((g y6 2).int), .i ((g y6 3).int), .i ((g y6 4).int), .l ((g y6 5).list), .l ((g y6 6).list), .s ((g y6 7).str), .i ((g y6 8).int), .s ((g y6 9).str), .s ((g y6 10).str), .l ((g y6 11).list)])) (
 cond (a6 == 5) (
 (Lqbp none [.i a0, .i a1, .i a2, .i a3, .l a4, .l a5, .i a9, .l a12]).bind fun y7 =>
 some [.i ((g y7 0).int), .i ((g y7 1).int), .i ((g y7 2).int), .i ((g y7 3).int), .i ((g y7 4).int), .l ((g y7 5).list), .l ((g y7 6).list), .s ((g y7 7).str), .i ((g y7 8).int), .s ((g y7 9).str), .s ((g y7 10).str), .l ((g y7 11).list)]) (
 cond (a6 == 6) (
 (Lqbq none [.i a0, .i a1, .i a2, .i a3, .l a4, .l a5, .i a9, .l a12]).bind fun y8 =>
 some [.i ((g y8 0).int), .i ((g y8 1).int), .i ((g y8 2).int), .i ((g y8 3).int), .i ((g y8 4).int), .l ((g y8 5).list), .l ((g y8 6).list), .s ((g y8 7).str), .i ((g y8 8).int), .s ((g y8 9).str), .s ((g y8 10).str), .l ((g y8 11).list)]) (
 (Lq2 none [.i a0, .i a1, .i a2, .i a3, .l a4, .l a5, .s a7, .l a12]).bind fun y9 =>
 some [.i ((g y9 0).int), .i ((g y9 1).int), .i ((g y9 2).int), .i ((g y9 3).int), .i ((g y9 4).int), .l ((g y9 10).list), .l ((g y9 5).list), .s ((g y9 6).str), .i ((g y9 7).int), .s ((g y9 8).str), .s ((g y9 9).str), .l ((g y9 11).list)])))))) := (Lim_eq _ _).trans (by kernel_rfl)
theorem kqcg : SigOk Tryz.prog (dqcg.sig (Lqcg none)) ∧ (dqcg.sig (Lqcg none)).ok = true := sound_lim (known_cons kqt (by kernel_rfl) (known_cons kqe (by kernel_rfl) (known_cons kqcd (by kernel_rfl) (known_cons kqq (by kernel_rfl) (known_cons kqz (by kernel_rfl) (known_cons kqbo (by kernel_rfl) (known_cons kqbp (by kernel_rfl) (known_cons kqbq (by kernel_rfl) (known_cons kq2 (by kernel_rfl) known_nil))))))))) (by kernel_rfl) (by kernel_rfl) (by kernel_rfl)
def dqbr : FD := { fn := 34, nb := 0, pre := ⟨[.sc (.i .i64 0), .sc (.fz 9 false 1)], []⟩, post := ⟨[.ag [.i .i64 0, .i .i64 1, .i .i64 2, .i .i64 3, .i .i64 4, .ow 0, .ow 1, .ow 2, .s 5, .i .i64 6, .s 7, .s 8]], [.rw 90 true 9, .rw 156 true 10, .rw 158 true 11]⟩, sh := false, cuts := [⟨5, [0, 1, 4, 5, 6], ⟨[.sc (.i .i64 0), .sc (.fz 9 false 1), .sc (.pt 0 0), .sc (.pt 1 0), .sc (.i .i64 2)], [.bx [.i .i64 3, .i .i64 4, .i .i64 5, .i .i64 6, .i .i64 7, .ow 2, .ow 3, .ow 4, .s 8, .i .i64 9, .s 10, .s 11], .bx [.i .i64 12, .i .i64 13, .i .i64 14, .i .i64 15, .fz 90 true 16, .fz 156 true 17, .ow 5], .rw 90 true 18, .rw 156 true 19, .rw 158 true 20, .rw 158 true 21]⟩⟩] }
noncomputable def Lqbr : Option Nat → Lv → Option Lv := Lim Tryz.prog [dqp.sig (Lqp none), dqb7.sig (Lqb7 none), dqt.sig (Lqt none), dqcg.sig (Lqcg none)] dqbr Tryz.f34
theorem eqbr_i (a0 : Int) (a1 : Rw) : Lqbr none [.i a0, .l a1] =
 (Lqp none [.i a0]).bind fun y1 =>
 cond (!(g y1 0).bool) (
 some [.i 1, .i 0, .i 0, .i 0, .i 0, .s (⟨#[]⟩ : ByteArray), .i 0, .s (⟨#[]⟩ : ByteArray), .s (⟨#[]⟩ : ByteArray), .l [], .l [], .l []]) (
 cond (decide (4000 < (a1.length : Int))) (
 some [.i 1, .i 0, .i 0, .i 0, .i 0, .s (⟨#[]⟩ : ByteArray), .i 0, .s (⟨#[]⟩ : ByteArray), .s (⟨#[]⟩ : ByteArray), .l [], .l [], .l []]) (
 Lqbr (some 5) [.i a0, .l a1, .i 0, .i 0, .i 0, .i 0, .i 0, .i 0, .s (⟨#[]⟩ : ByteArray), .i 0, .s (⟨#[]⟩ : ByteArray), .s (⟨#[]⟩ : ByteArray), .i a0, .i 0, .i 0, .i 0, .l ([]), .l ([]), .l [], .l [], .l [], .l []])) := (Lim_eq _ _).trans (by kernel_rfl)
theorem eqbr_5 (a0 : Int) (a1 : Rw) (a2 : Int) (a3 : Int) (a4 : Int) (a5 : Int) (a6 : Int) (a7 : Int) (a8 : ByteArray) (a9 : Int) (a10 : ByteArray) (a11 : ByteArray) (a12 : Int) (a13 : Int) (a14 : Int) (a15 : Int) (a16 : Rw) (a17 : Rw) (a18 : Rw) (a19 : Rw) (a20 : Rw) (a21 : Rw) : Lqbr (some 5) [.i a0, .l a1, .i a2, .i a3, .i a4, .i a5, .i a6, .i a7, .s a8, .i a9, .s a10, .s a11, .i a12, .i a13, .i a14, .i a15, .l a16, .l a17, .l a18, .l a19, .l a20, .l a21] =
 cond (decide (a2 < (a1.length : Int))) (
 cond (inb a2 a1.length) (
 (Lqb7 none [.s ((rd a1 a2.toNat 0).str), .i a0]).bind fun y1 =>
 cond (!(g y1 5).bool) (
 some [.i 7, .i 0, .i 0, .i 0, .i 0, .s (⟨#[]⟩ : ByteArray), .i (IntKind.i64.wrap (a2 + 1)), .s (⟨#[]⟩ : ByteArray), .s (⟨#[]⟩ : ByteArray), .l [], .l [], .l []]) (
 (Lqcg none [.i a12, .i a13, .i a14, .i a15, .l a16, .l a17, .i ((g y1 0).int), .s ((g y1 1).str), .s ((g y1 2).str), .i ((g y1 3).int), .s ((g y1 4).str), .l ((g y1 6).list), .l a21]).bind fun y2 =>
 cond ((g y2 0).int != 0) (
 some [.i 7, .i 0, .i 0, .i 0, .i 0, .s (⟨#[]⟩ : ByteArray), .i (IntKind.i64.wrap (a2 + 1)), .s (⟨#[]⟩ : ByteArray), .s (⟨#[]⟩ : ByteArray), .l [], .l [], .l []]) (
 Lqbr (some 5) [.i a0, .l a1, .i (IntKind.i64.wrap (a2 + 1)), .i a3, .i a4, .i a5, .i a6, .i a7, .s a8, .i a9, .s a10, .s a11, .i ((g y2 1).int), .i ((g y2 2).int), .i ((g y2 3).int), .i ((g y2 4).int), .l ((g y2 5).list), .l ((g y2 6).list), .l a18, .l a19, .l a20, .l ((g y2 11).list)]))) (
 none)) (
 (Lqt none [.i a12, .i a13, .i a14, .i a15, .l a16, .l a17, .l a21]).bind fun y3 =>
 some [.i 0, .i ((g y3 0).int), .i ((g y3 1).int), .i ((g y3 2).int), .i ((g y3 3).int), .s (⟨#[]⟩ : ByteArray), .i 0, .s (⟨#[]⟩ : ByteArray), .s (⟨#[]⟩ : ByteArray), .l ((g y3 4).list), .l ((g y3 5).list), .l ((g y3 6).list)]) := (Lim_eq _ _).trans (by kernel_rfl)
theorem kqbr : SigOk Tryz.prog (dqbr.sig (Lqbr none)) ∧ (dqbr.sig (Lqbr none)).ok = true := sound_lim (known_cons kqp (by kernel_rfl) (known_cons kqb7 (by kernel_rfl) (known_cons kqt (by kernel_rfl) (known_cons kqcg (by kernel_rfl) known_nil)))) (by kernel_rfl) (by kernel_rfl) (by kernel_rfl)
def dqo : FD := { fn := 88, nb := 0, pre := ⟨[.ag [.fz 9 false 0, .fz 9 false 1]], []⟩, post := ⟨[.sc (.b 0)], []⟩, sh := false, cuts := [⟨2, [1, 3], ⟨[.sc (.pt 0 0), .sc (.i .i64 0)], [.bx [.fz 9 false 1, .fz 9 false 2]]⟩⟩, ⟨7, [1, 4], ⟨[.sc (.pt 0 0), .sc (.i .i64 0)], [.bx [.fz 9 false 1, .fz 9 false 2]]⟩⟩] }
noncomputable def Lqo : Option Nat → Lv → Option Lv := Lim Tryz.prog [] dqo Tryz.f88
theorem eqo_i (a0 : Rw) (a1 : Rw) : Lqo none [.l a0, .l a1] =
 Lqo (some 2) [.i 0, .l a0, .l a1] := (Lim_eq _ _).trans (by kernel_rfl)
theorem eqo_2 (a0 : Int) (a1 : Rw) (a2 : Rw) : Lqo (some 2) [.i a0, .l a1, .l a2] =
 cond (decide (a0 < (a1.length : Int))) (
 cond (inb a0 a1.length) (
 cond (decide (5000 < (((rd a1 a0.toNat 0).str).size : Int))) (
 some [.b false]) (
 Lqo (some 2) [.i (IntKind.i64.wrap (a0 + 1)), .l a1, .l a2])) (
 none)) (
 Lqo (some 7) [.i 0, .l a1, .l a2]) := (Lim_eq _ _).trans (by kernel_rfl)
theorem eqo_7 (a0 : Int) (a1 : Rw) (a2 : Rw) : Lqo (some 7) [.i a0, .l a1, .l a2] =
 cond (decide (a0 < (a2.length : Int))) (
 cond (inb a0 a2.length) (
 cond (decide (5000 < (((rd a2 a0.toNat 0).str).size : Int))) (
 some [.b false]) (
 Lqo (some 7) [.i (IntKind.i64.wrap (a0 + 1)), .l a1, .l a2])) (
 none)) (
 some [.b (decide ((IntKind.i64.wrap ((a1.length : Int) + (a2.length : Int))) ≤ 4000))]) := (Lim_eq _ _).trans (by kernel_rfl)
theorem kqo : SigOk Tryz.prog (dqo.sig (Lqo none)) ∧ (dqo.sig (Lqo none)).ok = true := sound_lim known_nil (by kernel_rfl) (by kernel_rfl) (by kernel_rfl)
def dqci : FD := { fn := 89, nb := 0, pre := ⟨[.ag [.fz 9 false 0, .fz 9 false 1]], []⟩, post := ⟨[.sc (.ow 0)], [.rw 9 true 0]⟩, sh := false, cuts := [] }
noncomputable def Lqci : Option Nat → Lv → Option Lv := Lim Tryz.prog [] dqci Tryz.f89
theorem eqci_i (a0 : Rw) (a1 : Rw) : Lqci none [.l a0, .l a1] =
 cond (decide (([] : Rw).length + a0.length ≤ most)) (
 cond (decide ((([] : Rw) ++ a0).length + a1.length ≤ most)) (
 some [.l ((([] : Rw) ++ a0) ++ a1)]) (
 none)) (
 none) := (Lim_eq _ _).trans (by kernel_rfl)
theorem kqci : SigOk Tryz.prog (dqci.sig (Lqci none)) ∧ (dqci.sig (Lqci none)).ok = true := sound_lim known_nil (by kernel_rfl) (by kernel_rfl) (by kernel_rfl)
def dqcj : FD := { fn := 206, nb := 0, pre := ⟨[.ag [.fz 9 false 0, .fz 9 false 1]], []⟩, post := ⟨[.ag [.ow 0, .ow 1]], [.rw 9 true 0, .rw 9 true 1]⟩, sh := false, cuts := [] }
noncomputable def Lqcj : Option Nat → Lv → Option Lv := Lim Tryz.prog [] dqcj Tryz.f206
theorem eqcj_i (a0 : Rw) (a1 : Rw) : Lqcj none [.l a0, .l a1] =
 cond (decide (([] : Rw).length + a0.length ≤ most)) (
 cond (decide (([] : Rw).length + a1.length ≤ most)) (
 some [.l (([] : Rw) ++ a0), .l (([] : Rw) ++ a1)]) (
 none)) (
 none) := (Lim_eq _ _).trans (by kernel_rfl)
theorem kqcj : SigOk Tryz.prog (dqcj.sig (Lqcj none)) ∧ (dqcj.sig (Lqcj none)).ok = true := sound_lim known_nil (by kernel_rfl) (by kernel_rfl) (by kernel_rfl)
def dqcb : FD := { fn := 173, nb := 0, pre := ⟨[.sc (.i .i64 0), .sc (.i .i64 1), .ag [.fz 9 false 2, .fz 9 false 3]], []⟩, post := ⟨[.tu [(true, [.i .i64 0, .i .i64 1, .ow 0, .ow 1, .i .i64 2, .i .i64 3, .i .i64 4, .i .i64 5, .ow 2, .ow 3, .ow 4, .i .i64 6, .fz 9 true 7, .fz 9 true 8, .i .i64 9, .i .i64 10, .i .i64 11]), (false, [.i .i64 12])]], [.rw 9 true 13, .rw 9 true 14, .rw 90 true 15, .rw 156 true 16, .rw 158 true 17]⟩, sh := false, cuts := [] }
noncomputable def Lqcb : Option Nat → Lv → Option Lv := Lim Tryz.prog [dqp.sig (Lqp none), dqbr.sig (Lqbr none), dqv.sig (Lqv none), dqo.sig (Lqo none), dqci.sig (Lqci none), dqcj.sig (Lqcj none)] dqcb Tryz.f173
theorem eqcb_i (a0 : Int) (a1 : Int) (a2 : Rw) (a3 : Rw) : Lqcb none [.i a0, .i a1, .l a2, .l a3] =
 (Lqp none [.i a0]).bind fun y1 =>
 cond (!(g y1 0).bool) (
 some [.i 0, .i 0, .i 0, .i 0, .i 0, .i 0, .i 0, .l ([]), .l ([]), .i 0, .i 0, .i 0, .i 1, .l [], .l [], .l [], .l [], .l []]) (
 (Lqv none [.i a1, .i 0, .i 1000000]).bind fun y2 =>
 cond (!(g y2 0).bool) (
 some [.i 0, .i 0, .i 0, .i 0, .i 0, .i 0, .i 0, .l ([]), .l ([]), .i 0, .i 0, .i 0, .i 1, .l [], .l [], .l [], .l [], .l []]) (
 (Lqo none [.l a2, .l a3]).bind fun y3 =>
 cond (!(g y3 0).bool) (
 some [.i 0, .i 0, .i 0, .i 0, .i 0, .i 0, .i 0, .l ([]), .l ([]), .i 0, .i 0, .i 0, .i 1, .l [], .l [], .l [], .l [], .l []]) (
 (Lqci none [.l a2, .l a3]).bind fun y4 =>
 (Lqbr none [.i a0, .l ((g y4 0).list)]).bind fun y5 =>
 cond ((g y5 0).int != 0) (
 some [.i 0, .i 0, .i 0, .i 0, .i 0, .i 0, .i 0, .l ([]), .l ([]), .i 0, .i 0, .i 0, .i 2, .l [], .l [], .l [], .l [], .l []]) (
 (Lqcj none [.l a2, .l a3]).bind fun y6 =>
 some [.i a0, .i a1, .i ((g y5 1).int), .i ((g y5 2).int), .i ((g y5 3).int), .i ((g y5 4).int), .i 0, .l ([]), .l ([]), .i 0, .i 0, .i 0, .i 0, .l ((g y6 0).list), .l ((g y6 1).list), .l ((g y5 9).list), .l ((g y5 10).list), .l ((g y5 11).list)])))) := (Lim_eq _ _).trans (by kernel_rfl)
theorem kqcb : SigOk Tryz.prog (dqcb.sig (Lqcb none)) ∧ (dqcb.sig (Lqcb none)).ok = true := sound_lim (known_cons kqp (by kernel_rfl) (known_cons kqbr (by kernel_rfl) (known_cons kqv (by kernel_rfl) (known_cons kqo (by kernel_rfl) (known_cons kqci (by kernel_rfl) (known_cons kqcj (by kernel_rfl) known_nil)))))) (by kernel_rfl) (by kernel_rfl) (by kernel_rfl)
end KV
end
section
set_option maxRecDepth 100000
namespace KV
open Go Go.Eng Go.Proofs
def dqbu : FD := { fn := 16, nb := 0, pre := ⟨[.ag [.i .i64 0, .s 1, .i .i64 2, .s 3, .i .i64 4, .i .i64 5], .ag [.i .i64 6, .i .i64 7, .i .i64 8, .i .i64 9, .fz 90 false 10, .fz 156 false 11, .fz 158 false 12]], []⟩, post := ⟨[.ag [.s 0, .ow 0]], [.rw 9 true 1]⟩, sh := false, cuts := [⟨5, [2, 3, 4, 5, 6, 7], ⟨[.sc (.pt 0 0), .sc (.pt 1 0), .sc (.pt 2 0), .sc (.pt 3 0), .sc (.ow 4), .sc (.i .i64 0)], [.bx [.i .i64 1, .s 2, .i .i64 3, .s 4, .i .i64 5, .i .i64 6], .bx [.i .i64 7, .i .i64 8, .i .i64 9, .i .i64 10, .fz 90 false 11, .fz 156 false 12, .fz 158 false 13], .bx [.s 14, .ow 5], .bx [.s 15, .ow 6], .rw 9 true 16, .rw 9 true 17, .rw 9 true 18]⟩⟩] }
noncomputable def Lqbu : Option Nat → Lv → Option Lv := Lim Tryz.prog [dqi.sig (Lqi none)] dqbu Tryz.f16
theorem eqbu_i (a0 : Int) (a1 : ByteArray) (a2 : Int) (a3 : ByteArray) (a4 : Int) (a5 : Int) (a6 : Int) (a7 : Int) (a8 : Int) (a9 : Int) (a10 : Rw) (a11 : Rw) (a12 : Rw) : Lqbu none [.i a0, .s a1, .i a2, .s a3, .i a4, .i a5, .i a6, .i a7, .i a8, .i a9, .l a10, .l a11, .l a12] =
 cond (decide (0 < (a10.length : Int))) (
 Lqbu (some 5) [.i 0, .i a0, .s a1, .i a2, .s a3, .i a4, .i a5, .i a6, .i a7, .i a8, .i a9, .l a10, .l a11, .l a12, .s (⟨#[]⟩ : ByteArray), .s a1, .l ([] : Rw), .l [], .l []]) (
 (Lqi none [.l ([] : Rw)]).bind fun y1 =>
 some [.s a1, .l ((g y1 0).list)]) := (Lim_eq _ _).trans (by kernel_rfl)
theorem eqbu_5 (a0 : Int) (a1 : Int) (a2 : ByteArray) (a3 : Int) (a4 : ByteArray) (a5 : Int) (a6 : Int) (a7 : Int) (a8 : Int) (a9 : Int) (a10 : Int) (a11 : Rw) (a12 : Rw) (a13 : Rw) (a14 : ByteArray) (a15 : ByteArray) (a16 : Rw) (a17 : Rw) (a18 : Rw) : Lqbu (some 5) [.i a0, .i a1, .s a2, .i a3, .s a4, .i a5, .i a6, .i a7, .i a8, .i a9, .i a10, .l a11, .l a12, .l a13, .s a14, .s a15, .l a16, .l a17, .l a18] =
 cond (decide (a0 < (IntKind.i64.wrap (a3.tdiv 2)))) (
 cond (decide (a0 < 4)) (
 cond ((a11.length : Int) != 0) (
 cond (inb ((IntKind.i64.wrap (a5 + (IntKind.i64.wrap (5 * a0)))).tmod (a11.length : Int)) a11.length) (
 cond (decide (a16.length + ([[.s ((rd a11 (((IntKind.i64.wrap (a5 + (IntKind.i64.wrap (5 * a0)))).tmod (a11.length : Int)).toNat) 0).str)]] : Rw).length ≤ most)) (
 Lqbu (some 5) [.i (IntKind.i64.wrap (a0 + 1)), .i a1, .s a2, .i a3, .s a4, .i a5, .i a6, .i a7, .i a8, .i a9, .i a10, .l a11, .l a12, .l a13, .s a14, .s a15, .l (a16 ++ ([[.s ((rd a11 (((IntKind.i64.wrap (a5 + (IntKind.i64.wrap (5 * a0)))).tmod (a11.length : Int)).toNat) 0).str)]] : Rw)), .l a17, .l a18]) (
 none)) (
 none)) (
 none)) (
 (Lqi none [.l a16]).bind fun y1 =>
 some [.s a15, .l ((g y1 0).list)])) (
 (Lqi none [.l a16]).bind fun y2 =>
 some [.s a15, .l ((g y2 0).list)]) := (Lim_eq _ _).trans (by kernel_rfl)
theorem kqbu : SigOk Tryz.prog (dqbu.sig (Lqbu none)) ∧ (dqbu.sig (Lqbu none)).ok = true := sound_lim (known_cons kqi (by kernel_rfl) known_nil) (by kernel_rfl) (by kernel_rfl) (by kernel_rfl)
def dqck : FD := { fn := 77, nb := 0, pre := ⟨[.ag [.i .i64 0, .s 1, .i .i64 2, .s 3, .i .i64 4, .i .i64 5], .ag [.i .i64 6, .i .i64 7, .i .i64 8, .i .i64 9, .fz 90 false 10, .fz 156 false 11, .fz 158 false 12]], []⟩, post := ⟨[.sc (.s 0)], []⟩, sh := false, cuts := [] }
noncomputable def Lqck : Option Nat → Lv → Option Lv := Lim Tryz.prog [dqk.sig (Lqk none)] dqck Tryz.f77
theorem eqck_i (a0 : Int) (a1 : ByteArray) (a2 : Int) (a3 : ByteArray) (a4 : Int) (a5 : Int) (a6 : Int) (a7 : Int) (a8 : Int) (a9 : Int) (a10 : Rw) (a11 : Rw) (a12 : Rw) : Lqck none [.i a0, .s a1, .i a2, .s a3, .i a4, .i a5, .i a6, .i a7, .i a8, .i a9, .l a10, .l a11, .l a12] =
 cond ((a10.length : Int) == 0) (
 (Lqk none [.s (⟨#[110, 111, 110, 101]⟩ : ByteArray), .i a6]).bind fun y1 =>
 some [.s ((g y1 0).str)]) (
 cond ((a10.length : Int) != 0) (
 cond (inb (a4.tmod (a10.length : Int)) a10.length) (
 some [.s ((rd a10 ((a4.tmod (a10.length : Int)).toNat) 0).str)]) (
 none)) (
 none)) := (Lim_eq _ _).trans (by kernel_rfl)
theorem kqck : SigOk Tryz.prog (dqck.sig (Lqck none)) ∧ (dqck.sig (Lqck none)).ok = true := sound_lim (known_cons kqk (by kernel_rfl) known_nil) (by kernel_rfl) (by kernel_rfl) (by kernel_rfl)
def dqcm : FD := { fn := 81, nb := 0, pre := ⟨[.ag [.i .i64 0, .s 1, .i .i64 2, .s 3, .i .i64 4, .i .i64 5], .ag [.i .i64 6, .i .i64 7, .i .i64 8, .i .i64 9, .fz 90 false 10, .fz 156 false 11, .fz 158 false 12]], []⟩, post := ⟨[.sc (.i .i64 0)], []⟩, sh := false, cuts := [] }
noncomputable def Lqcm : Option Nat → Lv → Option Lv := Lim Tryz.prog [] dqcm Tryz.f81
theorem eqcm_i (a0 : Int) (a1 : ByteArray) (a2 : Int) (a3 : ByteArray) (a4 : Int) (a5 : Int) (a6 : Int) (a7 : Int) (a8 : Int) (a9 : Int) (a10 : Rw) (a11 : Rw) (a12 : Rw) : Lqcm none [.i a0, .s a1, .i a2, .s a3, .i a4, .i a5, .i a6, .i a7, .i a8, .i a9, .l a10, .l a11, .l a12] =
 cond ((a12.length : Int) == 0) (
 some [.i (IntKind.i64.wrap (1 + a4))]) (
 cond ((a12.length : Int) != 0) (
 cond (inb (a4.tmod (a12.length : Int)) a12.length) (
 some [.i ((rd a12 ((a4.tmod (a12.length : Int)).toNat) 0).int)]) (
 none)) (
 none)) := (Lim_eq _ _).trans (by kernel_rfl)
theorem kqcm : SigOk Tryz.prog (dqcm.sig (Lqcm none)) ∧ (dqcm.sig (Lqcm none)).ok = true := sound_lim known_nil (by kernel_rfl) (by kernel_rfl) (by kernel_rfl)
def dqbv : FD := { fn := 155, nb := 0, pre := ⟨[.ag [.s 0, .fz 9 false 1], .ag [.s 2, .fz 9 false 3]], []⟩, post := ⟨[.sc (.b 0)], []⟩, sh := false, cuts := [⟨4, [2, 3, 5], ⟨[.sc (.pt 0 0), .sc (.pt 1 0), .sc (.i .i64 0)], [.bx [.s 1, .fz 9 false 2], .bx [.s 3, .fz 9 false 4]]⟩⟩] }
noncomputable def Lqbv : Option Nat → Lv → Option Lv := Lim Tryz.prog [] dqbv Tryz.f155
theorem eqbv_i (a0 : ByteArray) (a1 : Rw) (a2 : ByteArray) (a3 : Rw) : Lqbv none [.s a0, .l a1, .s a2, .l a3] =
 cond (!Eng.seq a0 a2) (
 some [.b false]) (
 cond ((a1.length : Int) != (a3.length : Int)) (
 some [.b false]) (
 Lqbv (some 4) [.i 0, .s a0, .l a1, .s a2, .l a3])) := (Lim_eq _ _).trans (by kernel_rfl)
theorem eqbv_4 (a0 : Int) (a1 : ByteArray) (a2 : Rw) (a3 : ByteArray) (a4 : Rw) : Lqbv (some 4) [.i a0, .s a1, .l a2, .s a3, .l a4] =
 cond (decide (a0 < (a2.length : Int))) (
 cond (inb a0 a2.length) (
 cond (inb a0 a4.length) (
 cond (!Eng.seq ((rd a2 a0.toNat 0).str) ((rd a4 a0.toNat 0).str)) (
 some [.b false]) (
 Lqbv (some 4) [.i (IntKind.i64.wrap (a0 + 1)), .s a1, .l a2, .s a3, .l a4])) (
 none)) (
 none)) (
 some [.b true]) := (Lim_eq _ _).trans (by kernel_rfl)
theorem kqbv : SigOk Tryz.prog (dqbv.sig (Lqbv none)) ∧ (dqbv.sig (Lqbv none)).ok = true := sound_lim known_nil (by kernel_rfl) (by kernel_rfl) (by kernel_rfl)
def dqm : FD := { fn := 90, nb := 0, pre := ⟨[.ag [.i .i64 0, .i .i64 1, .i .i64 2, .i .i64 3, .fz 90 false 4, .fz 156 false 5, .fz 158 false 6], .ag [.i .i64 7, .i .i64 8, .i .i64 9, .i .i64 10, .fz 90 false 11, .fz 156 false 12, .fz 158 false 13]], []⟩, post := ⟨[.sc (.b 0)], []⟩, sh := false, cuts := [⟨4, [2, 3, 5], ⟨[.sc (.pt 0 0), .sc (.pt 1 0), .sc (.i .i64 0)], [.bx [.i .i64 1, .i .i64 2, .i .i64 3, .i .i64 4, .fz 90 false 5, .fz 156 false 6, .fz 158 false 7], .bx [.i .i64 8, .i .i64 9, .i .i64 10, .i .i64 11, .fz 90 false 12, .fz 156 false 13, .fz 158 false 14]]⟩⟩, ⟨9, [2, 3, 6], ⟨[.sc (.pt 0 0), .sc (.pt 1 0), .sc (.i .i64 0)], [.bx [.i .i64 1, .i .i64 2, .i .i64 3, .i .i64 4, .fz 90 false 5, .fz 156 false 6, .fz 158 false 7], .bx [.i .i64 8, .i .i64 9, .i .i64 10, .i .i64 11, .fz 90 false 12, .fz 156 false 13, .fz 158 false 14]]⟩⟩, ⟨14, [2, 3, 7], ⟨[.sc (.pt 0 0), .sc (.pt 1 0), .sc (.i .i64 0)], [.bx [.i .i64 1, .i .i64 2, .i .i64 3, .i .i64 4, .fz 90 false 5, .fz 156 false 6, .fz 158 false 7], .bx [.i .i64 8, .i .i64 9, .i .i64 10, .i .i64 11, .fz 90 false 12, .fz 156 false 13, .fz 158 false 14]]⟩⟩] }
noncomputable def Lqm : Option Nat → Lv → Option Lv := Lim Tryz.prog [dqbv.sig (Lqbv none)] dqm Tryz.f90
theorem eqm_i (a0 : Int) (a1 : Int) (a2 : Int) (a3 : Int) (a4 : Rw) (a5 : Rw) (a6 : Rw) (a7 : Int) (a8 : Int) (a9 : Int) (a10 : Int) (a11 : Rw) (a12 : Rw) (a13 : Rw) : Lqm none [.i a0, .i a1, .i a2, .i a3, .l a4, .l a5, .l a6, .i a7, .i a8, .i a9, .i a10, .l a11, .l a12, .l a13] =
 cond (a0 != a7) (
 some [.b false]) (
 cond (a1 != a8) (
 some [.b false]) (
 cond (a2 != a9) (
 some [.b false]) (
 cond (a3 != a10) (
 some [.b false]) (
 cond ((a4.length : Int) != (a11.length : Int)) (
 some [.b false]) (
 cond ((a5.length : Int) != (a12.length : Int)) (
 some [.b false]) (
 cond ((a6.length : Int) != (a13.length : Int)) (
 some [.b false]) (
 Lqm (some 4) [.i 0, .i a0, .i a1, .i a2, .i a3, .l a4, .l a5, .l a6, .i a7, .i a8, .i a9, .i a10, .l a11, .l a12, .l a13]))))))) := (Lim_eq _ _).trans (by kernel_rfl)
theorem eqm_4 (a0 : Int) (a1 : Int) (a2 : Int) (a3 : Int) (a4 : Int) (a5 : Rw) (a6 : Rw) (a7 : Rw) (a8 : Int) (a9 : Int) (a10 : Int) (a11 : Int) (a12 : Rw) (a13 : Rw) (a14 : Rw) : Lqm (some 4) [.i a0, .i a1, .i a2, .i a3, .i a4, .l a5, .l a6, .l a7, .i a8, .i a9, .i a10, .i a11, .l a12, .l a13, .l a14] =
 cond (decide (a0 < (a5.length : Int))) (
 cond (inb a0 a5.length) (
 cond (inb a0 a12.length) (
 cond (!Eng.seq ((rd a5 a0.toNat 0).str) ((rd a12 a0.toNat 0).str)) (
 some [.b false]) (
 cond (inb a0 a5.length) (
 cond (inb a0 a12.length) (
 cond ((rd a5 a0.toNat 1).int != (rd a12 a0.toNat 1).int) (
 some [.b false]) (
 cond (inb a0 a5.length) (
 cond (inb a0 a12.length) (
 (Lqbv none [.s ((rd a5 a0.toNat 2).str), .l ((rd a5 a0.toNat 3).list), .s ((rd a12 a0.toNat 2).str), .l ((rd a12 a0.toNat 3).list)]).bind fun y1 =>
 cond (!(g y1 0).bool) (
 some [.b false]) (
 Lqm (some 4) [.i (IntKind.i64.wrap (a0 + 1)), .i a1, .i a2, .i a3, .i a4, .l a5, .l a6, .l a7, .i a8, .i a9, .i a10, .i a11, .l a12, .l a13, .l a14])) (
 none)) (
 none))) (
 none)) (
 none))) (
 none)) (
 none)) (
 Lqm (some 9) [.i 0, .i a1, .i a2, .i a3, .i a4, .l a5, .l a6, .l a7, .i a8, .i a9, .i a10, .i a11, .l a12, .l a13, .l a14]) := (Lim_eq _ _).trans (by kernel_rfl)
theorem eqm_9 (a0 : Int) (a1 : Int) (a2 : Int) (a3 : Int) (a4 : Int) (a5 : Rw) (a6 : Rw) (a7 : Rw) (a8 : Int) (a9 : Int) (a10 : Int) (a11 : Int) (a12 : Rw) (a13 : Rw) (a14 : Rw) : Lqm (some 9) [.i a0, .i a1, .i a2, .i a3, .i a4, .l a5, .l a6, .l a7, .i a8, .i a9, .i a10, .i a11, .l a12, .l a13, .l a14] =
 cond (decide (a0 < (a6.length : Int))) (
 cond (inb a0 a6.length) (
 cond (inb a0 a13.length) (
 cond (!((Eng.seq ((rd a6 a0.toNat 0).str) ((rd a13 a0.toNat 0).str)) && ((Eng.seq ((rd a6 a0.toNat 1).str) ((rd a13 a0.toNat 1).str)) && true))) (
 some [.b false]) (
 Lqm (some 9) [.i (IntKind.i64.wrap (a0 + 1)), .i a1, .i a2, .i a3, .i a4, .l a5, .l a6, .l a7, .i a8, .i a9, .i a10, .i a11, .l a12, .l a13, .l a14])) (
 none)) (
 none)) (
 Lqm (some 14) [.i 0, .i a1, .i a2, .i a3, .i a4, .l a5, .l a6, .l a7, .i a8, .i a9, .i a10, .i a11, .l a12, .l a13, .l a14]) := (Lim_eq _ _).trans (by kernel_rfl)
theorem eqm_14 (a0 : Int) (a1 : Int) (a2 : Int) (a3 : Int) (a4 : Int) (a5 : Rw) (a6 : Rw) (a7 : Rw) (a8 : Int) (a9 : Int) (a10 : Int) (a11 : Int) (a12 : Rw) (a13 : Rw) (a14 : Rw) : Lqm (some 14) [.i a0, .i a1, .i a2, .i a3, .i a4, .l a5, .l a6, .l a7, .i a8, .i a9, .i a10, .i a11, .l a12, .l a13, .l a14] =
 cond (decide (a0 < (a7.length : Int))) (
 cond (inb a0 a7.length) (
 cond (inb a0 a14.length) (
 cond (!(((rd a7 a0.toNat 0).int == (rd a14 a0.toNat 0).int) && ((Eng.seq ((rd a7 a0.toNat 1).str) ((rd a14 a0.toNat 1).str)) && (((rd a7 a0.toNat 2).int == (rd a14 a0.toNat 2).int) && true)))) (
 some [.b false]) (
 Lqm (some 14) [.i (IntKind.i64.wrap (a0 + 1)), .i a1, .i a2, .i a3, .i a4, .l a5, .l a6, .l a7, .i a8, .i a9, .i a10, .i a11, .l a12, .l a13, .l a14])) (
 none)) (
 none)) (
 some [.b true]) := (Lim_eq _ _).trans (by kernel_rfl)
theorem kqm : SigOk Tryz.prog (dqm.sig (Lqm none)) ∧ (dqm.sig (Lqm none)).ok = true := sound_lim (known_cons kqbv (by kernel_rfl) known_nil) (by kernel_rfl) (by kernel_rfl) (by kernel_rfl)
def dqx : FD := { fn := 91, nb := 0, pre := ⟨[.ag [.i .i64 0, .i .i64 1, .i .i64 2, .i .i64 3, .fz 90 false 4, .fz 156 false 5, .fz 158 false 6], .ag [.i .i64 7, .fz 9 false 8, .fz 9 false 9, .i .i64 10, .i .i64 11, .i .i64 12]], []⟩, post := ⟨[.sc (.b 0)], []⟩, sh := false, cuts := [⟨4, [2, 3, 5], ⟨[.sc (.pt 0 0), .sc (.pt 1 0), .sc (.i .i64 0)], [.bx [.i .i64 1, .i .i64 2, .i .i64 3, .i .i64 4, .fz 90 false 5, .fz 156 false 6, .fz 158 false 7], .bx [.i .i64 8, .fz 9 false 9, .fz 9 false 10, .i .i64 11, .i .i64 12, .i .i64 13]]⟩⟩, ⟨9, [2, 3, 6], ⟨[.sc (.pt 0 0), .sc (.pt 1 0), .sc (.i .i64 0)], [.bx [.i .i64 1, .i .i64 2, .i .i64 3, .i .i64 4, .fz 90 false 5, .fz 156 false 6, .fz 158 false 7], .bx [.i .i64 8, .fz 9 false 9, .fz 9 false 10, .i .i64 11, .i .i64 12, .i .i64 13]]⟩⟩] }
noncomputable def Lqx : Option Nat → Lv → Option Lv := Lim Tryz.prog [dqg.sig (Lqg none), dqv.sig (Lqv none)] dqx Tryz.f91
theorem eqx_i (a0 : Int) (a1 : Int) (a2 : Int) (a3 : Int) (a4 : Rw) (a5 : Rw) (a6 : Rw) (a7 : Int) (a8 : Rw) (a9 : Rw) (a10 : Int) (a11 : Int) (a12 : Int) : Lqx none [.i a0, .i a1, .i a2, .i a3, .l a4, .l a5, .l a6, .i a7, .l a8, .l a9, .i a10, .i a11, .i a12] =
 cond (decide (a7 < 0)) (
 some [.b false]) (
 cond (decide (2 < a7)) (
 some [.b false]) (
 (Lqv none [.i a12, .i 0, .i 1000000000]).bind fun y1 =>
 cond (!(g y1 0).bool) (
 some [.b false]) (
 cond (decide (23200 < (a8.length : Int))) (
 some [.b false]) (
 cond (decide (600 < (a9.length : Int))) (
 some [.b false]) (
 Lqx (some 4) [.i 0, .i a0, .i a1, .i a2, .i a3, .l a4, .l a5, .l a6, .i a7, .l a8, .l a9, .i a10, .i a11, .i a12]))))) := (Lim_eq _ _).trans (by kernel_rfl)
theorem eqx_4 (a0 : Int) (a1 : Int) (a2 : Int) (a3 : Int) (a4 : Int) (a5 : Rw) (a6 : Rw) (a7 : Rw) (a8 : Int) (a9 : Rw) (a10 : Rw) (a11 : Int) (a12 : Int) (a13 : Int) : Lqx (some 4) [.i a0, .i a1, .i a2, .i a3, .i a4, .l a5, .l a6, .l a7, .i a8, .l a9, .l a10, .i a11, .i a12, .i a13] =
 cond (decide (a0 < (a9.length : Int))) (
 cond (inb a0 a9.length) (
 cond ((((rd a9 a0.toNat 0).str).size : Int) != a1) (
 some [.b false]) (
 Lqx (some 4) [.i (IntKind.i64.wrap (a0 + 1)), .i a1, .i a2, .i a3, .i a4, .l a5, .l a6, .l a7, .i a8, .l a9, .l a10, .i a11, .i a12, .i a13])) (
 none)) (
 Lqx (some 9) [.i 0, .i a1, .i a2, .i a3, .i a4, .l a5, .l a6, .l a7, .i a8, .l a9, .l a10, .i a11, .i a12, .i a13]) := (Lim_eq _ _).trans (by kernel_rfl)
theorem eqx_9 (a0 : Int) (a1 : Int) (a2 : Int) (a3 : Int) (a4 : Int) (a5 : Rw) (a6 : Rw) (a7 : Rw) (a8 : Int) (a9 : Rw) (a10 : Rw) (a11 : Int) (a12 : Int) (a13 : Int) : Lqx (some 9) [.i a0, .i a1, .i a2, .i a3, .i a4, .l a5, .l a6, .l a7, .i a8, .l a9, .l a10, .i a11, .i a12, .i a13] =
 cond (decide (a0 < (a10.length : Int))) (
 cond (inb a0 a10.length) (
 cond ((((rd a10 a0.toNat 0).str).size : Int) != a1) (
 some [.b false]) (
 cond (decide (0 ≤ a0)) (
 cond (decide (a0 ≤ (a10.length : Int))) (
 cond (inb a0 a10.length) (
 (Lqg none [.l (Eng.sub a10 0 a0.toNat), .s ((rd a10 a0.toNat 0).str)]).bind fun y1 =>
 cond ((g y1 0).bool) (
 some [.b false]) (
 Lqx (some 9) [.i (IntKind.i64.wrap (a0 + 1)), .i a1, .i a2, .i a3, .i a4, .l a5, .l a6, .l a7, .i a8, .l a9, .l a10, .i a11, .i a12, .i a13])) (
 none)) (
 none)) (
 none))) (
 none)) (
 cond (a8 == 0) (
 cond ((a9.length : Int) == 0) (
 cond ((a10.length : Int) == 0) (
 cond (a11 == 0) (
 some [.b (a12 == 0)]) (
 some [.b false])) (
 some [.b false])) (
 some [.b false])) (
 (Lqv none [.i a11, .i 0, .i a4]).bind fun y2 =>
 cond (!(g y2 0).bool) (
 some [.b false]) (
 (Lqv none [.i a12, .i 1, .i (IntKind.i64.wrap (a11 + 1))]).bind fun y3 =>
 cond (!(g y3 0).bool) (
 some [.b false]) (
 cond (a8 == 2) (
 some [.b true]) (
 some [.b (a12 == (IntKind.i64.wrap (a11 + 1)))]))))) := (Lim_eq _ _).trans (by kernel_rfl)
theorem kqx : SigOk Tryz.prog (dqx.sig (Lqx none)) ∧ (dqx.sig (Lqx none)).ok = true := sound_lim (known_cons kqg (by kernel_rfl) (known_cons kqv (by kernel_rfl) known_nil)) (by kernel_rfl) (by kernel_rfl) (by kernel_rfl)
def dqbj : FD := { fn := 19, nb := 0, pre := ⟨[.ag [.i .i64 0, .i .i64 1, .fz 9 false 2, .fz 9 false 3, .i .i64 4, .i .i64 5, .i .i64 6, .i .i64 7, .fz 90 false 8, .fz 156 false 9, .fz 158 false 10, .i .i64 11, .fz 9 false 12, .fz 9 false 13, .i .i64 14, .i .i64 15, .i .i64 16]], []⟩, post := ⟨[.sc (.b 0)], []⟩, sh := false, cuts := [] }
noncomputable def Lqbj : Option Nat → Lv → Option Lv := Lim Tryz.prog [dqp.sig (Lqp none), dqbr.sig (Lqbr none), dqv.sig (Lqv none), dqo.sig (Lqo none), dqci.sig (Lqci none), dqm.sig (Lqm none), dqx.sig (Lqx none)] dqbj Tryz.f19
theorem eqbj_i (a0 : Int) (a1 : Int) (a2 : Rw) (a3 : Rw) (a4 : Int) (a5 : Int) (a6 : Int) (a7 : Int) (a8 : Rw) (a9 : Rw) (a10 : Rw) (a11 : Int) (a12 : Rw) (a13 : Rw) (a14 : Int) (a15 : Int) (a16 : Int) : Lqbj none [.i a0, .i a1, .l a2, .l a3, .i a4, .i a5, .i a6, .i a7, .l a8, .l a9, .l a10, .i a11, .l a12, .l a13, .i a14, .i a15, .i a16] =
 (Lqp none [.i a0]).bind fun y1 =>
 cond (!(g y1 0).bool) (
 some [.b false]) (
 (Lqv none [.i a1, .i 0, .i 1000000]).bind fun y2 =>
 cond (!(g y2 0).bool) (
 some [.b false]) (
 (Lqo none [.l a2, .l a3]).bind fun y3 =>
 cond (!(g y3 0).bool) (
 some [.b false]) (
 (Lqci none [.l a2, .l a3]).bind fun y4 =>
 (Lqbr none [.i a0, .l ((g y4 0).list)]).bind fun y5 =>
 cond ((g y5 0).int == 0) (
 (Lqm none [.i ((g y5 1).int), .i ((g y5 2).int), .i ((g y5 3).int), .i ((g y5 4).int), .l ((g y5 9).list), .l ((g y5 10).list), .l ((g y5 11).list), .i a4, .i a5, .i a6, .i a7, .l a8, .l a9, .l a10]).bind fun y6 =>
 cond ((g y6 0).bool) (
 (Lqx none [.i a4, .i a5, .i a6, .i a7, .l a8, .l a9, .l a10, .i a11, .l a12, .l a13, .i a14, .i a15, .i a16]).bind fun y7 =>
 some [.b ((g y7 0).bool)]) (
 some [.b false])) (
 some [.b false])))) := (Lim_eq _ _).trans (by kernel_rfl)
theorem kqbj : SigOk Tryz.prog (dqbj.sig (Lqbj none)) ∧ (dqbj.sig (Lqbj none)).ok = true := sound_lim (known_cons kqp (by kernel_rfl) (known_cons kqbr (by kernel_rfl) (known_cons kqv (by kernel_rfl) (known_cons kqo (by kernel_rfl) (known_cons kqci (by kernel_rfl) (known_cons kqm (by kernel_rfl) (known_cons kqx (by kernel_rfl) known_nil))))))) (by kernel_rfl) (by kernel_rfl) (by kernel_rfl)
def dqb5 : FD := { fn := 207, nb := 0, pre := ⟨[.ag [.i .i64 0, .fz 9 false 1, .fz 9 false 2, .i .i64 3, .i .i64 4, .i .i64 5]], []⟩, post := ⟨[.ag [.i .i64 0, .ow 0, .ow 1, .i .i64 1, .i .i64 2, .i .i64 3]], [.rw 9 true 4, .rw 9 true 5]⟩, sh := false, cuts := [] }
noncomputable def Lqb5 : Option Nat → Lv → Option Lv := Lim Tryz.prog [] dqb5 Tryz.f207
theorem eqb5_i (a0 : Int) (a1 : Rw) (a2 : Rw) (a3 : Int) (a4 : Int) (a5 : Int) : Lqb5 none [.i a0, .l a1, .l a2, .i a3, .i a4, .i a5] =
 cond (decide (([] : Rw).length + a1.length ≤ most)) (
 cond (decide (([] : Rw).length + a2.length ≤ most)) (
 some [.i a0, .i a3, .i a4, .i a5, .l (([] : Rw) ++ a1), .l (([] : Rw) ++ a2)]) (
 none)) (
 none) := (Lim_eq _ _).trans (by kernel_rfl)
theorem kqb5 : SigOk Tryz.prog (dqb5.sig (Lqb5 none)) ∧ (dqb5.sig (Lqb5 none)).ok = true := sound_lim known_nil (by kernel_rfl) (by kernel_rfl) (by kernel_rfl)
def dqbk : FD := { fn := 156, nb := 0, pre := ⟨[.ag [.i .i64 0, .i .i64 1, .fz 9 false 2, .fz 9 false 3, .i .i64 4, .i .i64 5, .i .i64 6, .i .i64 7, .fz 90 false 8, .fz 156 false 9, .fz 158 false 10, .i .i64 11, .fz 9 false 12, .fz 9 false 13, .i .i64 14, .i .i64 15, .i .i64 16]], []⟩, post := ⟨[.ag [.i .i64 0, .i .i64 1, .ow 0, .ow 1, .i .i64 2, .i .i64 3, .i .i64 4, .i .i64 5, .ow 2, .ow 3, .ow 4, .i .i64 6, .ow 5, .ow 6, .i .i64 7, .i .i64 8, .i .i64 9]], [.rw 9 true 10, .rw 9 true 11, .rw 90 true 12, .rw 156 true 13, .rw 158 true 14, .rw 9 true 15, .rw 9 true 16]⟩, sh := false, cuts := [] }
noncomputable def Lqbk : Option Nat → Lv → Option Lv := Lim Tryz.prog [dqt.sig (Lqt none), dqcj.sig (Lqcj none), dqb5.sig (Lqb5 none)] dqbk Tryz.f156
theorem eqbk_i (a0 : Int) (a1 : Int) (a2 : Rw) (a3 : Rw) (a4 : Int) (a5 : Int) (a6 : Int) (a7 : Int) (a8 : Rw) (a9 : Rw) (a10 : Rw) (a11 : Int) (a12 : Rw) (a13 : Rw) (a14 : Int) (a15 : Int) (a16 : Int) : Lqbk none [.i a0, .i a1, .l a2, .l a3, .i a4, .i a5, .i a6, .i a7, .l a8, .l a9, .l a10, .i a11, .l a12, .l a13, .i a14, .i a15, .i a16] =
 (Lqcj none [.l a2, .l a3]).bind fun y1 =>
 (Lqt none [.i a4, .i a5, .i a6, .i a7, .l a8, .l a9, .l a10]).bind fun y2 =>
 (Lqb5 none [.i a11, .l a12, .l a13, .i a14, .i a15, .i a16]).bind fun y3 =>
 some [.i a0, .i a1, .i ((g y2 0).int), .i ((g y2 1).int), .i ((g y2 2).int), .i ((g y2 3).int), .i ((g y3 0).int), .i ((g y3 1).int), .i ((g y3 2).int), .i ((g y3 3).int), .l ((g y1 0).list), .l ((g y1 1).list), .l ((g y2 4).list), .l ((g y2 5).list), .l ((g y2 6).list), .l ((g y3 4).list), .l ((g y3 5).list)] := (Lim_eq _ _).trans (by kernel_rfl)
theorem kqbk : SigOk Tryz.prog (dqbk.sig (Lqbk none)) ∧ (dqbk.sig (Lqbk none)).ok = true := sound_lim (known_cons kqt (by kernel_rfl) (known_cons kqcj (by kernel_rfl) (known_cons kqb5 (by kernel_rfl) known_nil))) (by kernel_rfl) (by kernel_rfl) (by kernel_rfl)
def dqbw : FD := { fn := 202, nb := 0, pre := ⟨[.ag [.i .i64 0, .i .i64 1, .i .i64 2, .i .i64 3, .fz 90 false 4, .fz 156 false 5, .fz 158 false 6]], []⟩, post := ⟨[.sc (.i .i64 0)], []⟩, sh := false, cuts := [⟨3, [1, 3, 4], ⟨[.sc (.pt 0 0), .sc (.i .i64 0), .sc (.i .i64 1)], [.bx [.i .i64 2, .i .i64 3, .i .i64 4, .i .i64 5, .fz 90 false 6, .fz 156 false 7, .fz 158 false 8]]⟩⟩] }
noncomputable def Lqbw : Option Nat → Lv → Option Lv := Lim Tryz.prog [] dqbw Tryz.f202
theorem eqbw_i (a0 : Int) (a1 : Int) (a2 : Int) (a3 : Int) (a4 : Rw) (a5 : Rw) (a6 : Rw) : Lqbw none [.i a0, .i a1, .i a2, .i a3, .l a4, .l a5, .l a6] =
 Lqbw (some 3) [.i 0, .i 0, .i a0, .i a1, .i a2, .i a3, .l a4, .l a5, .l a6] := (Lim_eq _ _).trans (by kernel_rfl)
theorem eqbw_3 (a0 : Int) (a1 : Int) (a2 : Int) (a3 : Int) (a4 : Int) (a5 : Int) (a6 : Rw) (a7 : Rw) (a8 : Rw) : Lqbw (some 3) [.i a0, .i a1, .i a2, .i a3, .i a4, .i a5, .l a6, .l a7, .l a8] =
 cond (decide (a1 < (a6.length : Int))) (
 cond (inb a1 a6.length) (
 cond (inb a1 a6.length) (
 Lqbw (some 3) [.i (IntKind.i64.wrap ((IntKind.i64.wrap ((IntKind.i64.wrap (a0 + 1)) + (IntKind.i64.wrap ((((rd a6 a1.toNat 3).list).length : Int) * a2)))) + (((rd a6 a1.toNat 2).str).size : Int))), .i (IntKind.i64.wrap (a1 + 1)), .i a2, .i a3, .i a4, .i a5, .l a6, .l a7, .l a8]) (
 none)) (
 none)) (
 some [.i a0]) := (Lim_eq _ _).trans (by kernel_rfl)
theorem kqbw : SigOk Tryz.prog (dqbw.sig (Lqbw none)) ∧ (dqbw.sig (Lqbw none)).ok = true := sound_lim known_nil (by kernel_rfl) (by kernel_rfl) (by kernel_rfl)
def dqcn : FD := { fn := 203, nb := 0, pre := ⟨[.ag [.i .i64 0, .i .i64 1, .i .i64 2, .i .i64 3, .fz 90 false 4, .fz 156 false 5, .fz 158 false 6], .ag [.i .i64 7, .fz 9 false 8, .fz 9 false 9, .i .i64 10, .i .i64 11, .i .i64 12], .sc (.s 13)], []⟩, post := ⟨[.ag [.i .i64 0, .ow 0, .ow 1, .i .i64 1, .i .i64 2, .i .i64 3]], [.rw 9 true 4, .rw 9 true 5]⟩, sh := false, cuts := [] }
noncomputable def Lqcn : Option Nat → Lv → Option Lv := Lim Tryz.prog [dqe.sig (Lqe none), dqg.sig (Lqg none), dqb5.sig (Lqb5 none)] dqcn Tryz.f203
theorem eqcn_i (a0 : Int) (a1 : Int) (a2 : Int) (a3 : Int) (a4 : Rw) (a5 : Rw) (a6 : Rw) (a7 : Int) (a8 : Rw) (a9 : Rw) (a10 : Int) (a11 : Int) (a12 : Int) (a13 : ByteArray) : Lqcn none [.i a0, .i a1, .i a2, .i a3, .l a4, .l a5, .l a6, .i a7, .l a8, .l a9, .i a10, .i a11, .i a12, .s a13] =
 cond (a7 == 0) (
 (Lqb5 none [.i a7, .l a8, .l a9, .i a10, .i a11, .i a12]).bind fun y1 =>
 some [.i ((g y1 0).int), .i ((g y1 1).int), .i ((g y1 2).int), .i ((g y1 3).int), .l ((g y1 4).list), .l ((g y1 5).list)]) (
 (Lqe none [.i a0, .i a1, .i a2, .i a3, .l a4, .l a5, .l a6, .s a13]).bind fun y2 =>
 cond (decide ((g y2 0).int < 0)) (
 (Lqb5 none [.i a7, .l a8, .l a9, .i a10, .i a11, .i a12]).bind fun y3 =>
 some [.i ((g y3 0).int), .i ((g y3 1).int), .i ((g y3 2).int), .i ((g y3 3).int), .l ((g y3 4).list), .l ((g y3 5).list)]) (
 (Lqg none [.l a9, .s a13]).bind fun y4 =>
 cond ((g y4 0).bool) (
 (Lqb5 none [.i a7, .l a8, .l a9, .i a10, .i a11, .i a12]).bind fun y5 =>
 some [.i ((g y5 0).int), .i ((g y5 1).int), .i ((g y5 2).int), .i ((g y5 3).int), .l ((g y5 4).list), .l ((g y5 5).list)]) (
 cond (decide (23200 ≤ (a8.length : Int))) (
 (Lqb5 none [.i a7, .l a8, .l a9, .i a10, .i a11, .i a12]).bind fun y6 =>
 some [.i ((g y6 0).int), .i ((g y6 1).int), .i ((g y6 2).int), .i ((g y6 3).int), .l ((g y6 4).list), .l ((g y6 5).list)]) (
 (Lqb5 none [.i a7, .l a8, .l a9, .i a10, .i a11, .i a12]).bind fun y7 =>
 cond (decide (((g y7 4).list).length + ([[.s a13]] : Rw).length ≤ most)) (
 some [.i ((g y7 0).int), .i ((g y7 1).int), .i ((g y7 2).int), .i ((g y7 3).int), .l ((g y7 4).list ++ ([[.s a13]] : Rw)), .l ((g y7 5).list)]) (
 none))))) := (Lim_eq _ _).trans (by kernel_rfl)
theorem kqcn : SigOk Tryz.prog (dqcn.sig (Lqcn none)) ∧ (dqcn.sig (Lqcn none)).ok = true := sound_lim (known_cons kqe (by kernel_rfl) (known_cons kqg (by kernel_rfl) (known_cons kqb5 (by kernel_rfl) known_nil))) (by kernel_rfl) (by kernel_rfl) (by kernel_rfl)
def dqn : FD := { fn := 147, nb := 0, pre := ⟨[.ag [.i .i64 0, .i .i64 1, .fz 9 false 2, .fz 9 false 3, .i .i64 4, .i .i64 5, .i .i64 6, .i .i64 7, .fz 90 false 8, .fz 156 false 9, .fz 158 false 10, .i .i64 11, .fz 9 false 12, .fz 9 false 13, .i .i64 14, .i .i64 15, .i .i64 16], .ag [.i .i64 17, .s 18, .s 19, .i .i64 20, .s 21, .fz 9 false 22]], []⟩, post := ⟨[.ag [.i .i64 0, .i .i64 1, .i .i64 2, .ow 0, .ow 1, .i .i64 3, .i .i64 4, .i .i64 5, .i .i64 6, .ow 2, .ow 3, .ow 4, .i .i64 7, .ow 5, .ow 6, .i .i64 8, .i .i64 9, .i .i64 10, .s 11, .i .i64 12, .s 13, .s 14]], [.rw 9 true 15, .rw 9 true 16, .rw 90 true 17, .rw 156 true 18, .rw 158 true 19, .rw 9 true 20, .rw 9 true 21]⟩, sh := false, cuts := [⟨25, [4, 6, 7, 8], ⟨[.sc (.pt 0 0), .sc (.pt 1 0), .sc (.pt 2 0), .sc (.s 0)], [.bx [.i .i64 1, .i .i64 2, .i .i64 3, .ow 11, .ow 12, .i .i64 4, .i .i64 5, .i .i64 6, .i .i64 7, .ow 13, .ow 14, .ow 15, .i .i64 8, .ow 16, .ow 17, .i .i64 9, .i .i64 10, .i .i64 11, .s 12, .i .i64 13, .s 14, .s 15], .bx [.i .i64 16, .i .i64 17, .i .i64 18, .i .i64 19, .i .i64 20, .fz 90 false 21, .fz 156 false 22, .ow 3, .s 23, .i .i64 24, .s 25, .s 26], .bx [.i .i64 27, .i .i64 28, .ow 4, .ow 5, .i .i64 29, .i .i64 30, .i .i64 31, .i .i64 32, .ow 6, .ow 7, .ow 8, .i .i64 33, .ow 9, .ow 10, .i .i64 34, .i .i64 35, .i .i64 36], .rw 158 false 37, .rw 9 true 38, .rw 9 true 39, .rw 90 true 40, .rw 156 true 41, .rw 158 true 42, .rw 9 true 43, .rw 9 true 44, .rw 9 true 45, .rw 9 true 46, .rw 90 true 47, .rw 156 true 48, .rw 158 true 49, .rw 9 true 50, .rw 9 true 51]⟩⟩] }
noncomputable def Lqn : Option Nat → Lv → Option Lv := Lim Tryz.prog [dqs.sig (Lqs none), dqbe.sig (Lqbe none), dqt.sig (Lqt none), dqcg.sig (Lqcg none), dqbj.sig (Lqbj none), dqbk.sig (Lqbk none), dqbw.sig (Lqbw none), dqcn.sig (Lqcn none)] dqn Tryz.f147
theorem eqn_i (a0 : Int) (a1 : Int) (a2 : Rw) (a3 : Rw) (a4 : Int) (a5 : Int) (a6 : Int) (a7 : Int) (a8 : Rw) (a9 : Rw) (a10 : Rw) (a11 : Int) (a12 : Rw) (a13 : Rw) (a14 : Int) (a15 : Int) (a16 : Int) (a17 : Int) (a18 : ByteArray) (a19 : ByteArray) (a20 : Int) (a21 : ByteArray) (a22 : Rw) : Lqn none [.i a0, .i a1, .l a2, .l a3, .i a4, .i a5, .i a6, .i a7, .l a8, .l a9, .l a10, .i a11, .l a12, .l a13, .i a14, .i a15, .i a16, .i a17, .s a18, .s a19, .i a20, .s a21, .l a22] =
 (Lqbj none [.i a0, .i a1, .l a2, .l a3, .i a4, .i a5, .i a6, .i a7, .l a8, .l a9, .l a10, .i a11, .l a12, .l a13, .i a14, .i a15, .i a16]).bind fun y1 =>
 cond (!(g y1 0).bool) (
 some [.i 1, .i 0, .i 0, .i 0, .i 0, .i 0, .i 0, .i 0, .i 0, .i 0, .i 0, .s (⟨#[]⟩ : ByteArray), .i 0, .s (⟨#[]⟩ : ByteArray), .s (⟨#[]⟩ : ByteArray), .l [], .l [], .l [], .l [], .l [], .l [], .l []]) (
 (Lqbk none [.i a0, .i a1, .l a2, .l a3, .i a4, .i a5, .i a6, .i a7, .l a8, .l a9, .l a10, .i a11, .l a12, .l a13, .i a14, .i a15, .i a16]).bind fun y2 =>
 (Lqs none [.i a17, .s a18, .s a19, .i a20, .s a21, .l a22, .i a0]).bind fun y3 =>
 cond (!(g y3 0).bool) (
 some [.i 1, .i ((g y2 0).int), .i ((g y2 1).int), .i ((g y2 2).int), .i ((g y2 3).int), .i ((g y2 4).int), .i ((g y2 5).int), .i ((g y2 6).int), .i ((g y2 7).int), .i ((g y2 8).int), .i ((g y2 9).int), .s (⟨#[]⟩ : ByteArray), .i 0, .s (⟨#[]⟩ : ByteArray), .s (⟨#[]⟩ : ByteArray), .l ((g y2 10).list), .l ((g y2 11).list), .l ((g y2 12).list), .l ((g y2 13).list), .l ((g y2 14).list), .l ((g y2 15).list), .l ((g y2 16).list)]) (
 (Lqt none [.i a4, .i a5, .i a6, .i a7, .l a8, .l a9, .l a10]).bind fun y4 =>
 (Lqcg none [.i ((g y4 0).int), .i ((g y4 1).int), .i ((g y4 2).int), .i ((g y4 3).int), .l ((g y4 4).list), .l ((g y4 5).list), .i a17, .s a18, .s a19, .i a20, .s a21, .l a22, .l ((g y4 6).list)]).bind fun y5 =>
 cond ((g y5 0).int != 0) (
 some [.i ((g y5 0).int), .i ((g y2 0).int), .i ((g y2 1).int), .i ((g y2 2).int), .i ((g y2 3).int), .i ((g y2 4).int), .i ((g y2 5).int), .i ((g y2 6).int), .i ((g y2 7).int), .i ((g y2 8).int), .i ((g y2 9).int), .s (⟨#[]⟩ : ByteArray), .i 0, .s ((g y5 9).str), .s ((g y5 10).str), .l ((g y2 10).list), .l ((g y2 11).list), .l ((g y2 12).list), .l ((g y2 13).list), .l ((g y2 14).list), .l ((g y2 15).list), .l ((g y2 16).list)]) (
 cond (a17 == 1) (
 (Lqbw none [.i ((g y5 1).int), .i ((g y5 2).int), .i ((g y5 3).int), .i ((g y5 4).int), .l ((g y5 5).list), .l ((g y5 6).list), .l ((g y5 11).list)]).bind fun y6 =>
 cond (decide (a1 < (g y6 0).int)) (
 some [.i 8, .i ((g y2 0).int), .i ((g y2 1).int), .i ((g y2 2).int), .i ((g y2 3).int), .i ((g y2 4).int), .i ((g y2 5).int), .i ((g y2 6).int), .i ((g y2 7).int), .i ((g y2 8).int), .i ((g y2 9).int), .s (⟨#[]⟩ : ByteArray), .i 0, .s (⟨#[]⟩ : ByteArray), .s (⟨#[]⟩ : ByteArray), .l ((g y2 10).list), .l ((g y2 11).list), .l ((g y2 12).list), .l ((g y2 13).list), .l ((g y2 14).list), .l ((g y2 15).list), .l ((g y2 16).list)]) (
 cond (decide (4000 ≤ (IntKind.i64.wrap ((a2.length : Int) + (a3.length : Int))))) (
 some [.i 9, .i ((g y2 0).int), .i ((g y2 1).int), .i ((g y2 2).int), .i ((g y2 3).int), .i ((g y2 4).int), .i ((g y2 5).int), .i ((g y2 6).int), .i ((g y2 7).int), .i ((g y2 8).int), .i ((g y2 9).int), .s (⟨#[]⟩ : ByteArray), .i 0, .s (⟨#[]⟩ : ByteArray), .s (⟨#[]⟩ : ByteArray), .l ((g y2 10).list), .l ((g y2 11).list), .l ((g y2 12).list), .l ((g y2 13).list), .l ((g y2 14).list), .l ((g y2 15).list), .l ((g y2 16).list)]) (
 (Lqbk none [.i a0, .i a1, .l a2, .l a3, .i a4, .i a5, .i a6, .i a7, .l a8, .l a9, .l a10, .i a11, .l a12, .l a13, .i a14, .i a15, .i a16]).bind fun y7 =>
 (Lqbe none [.i a17, .s a18, .s a19, .i a20, .s a21, .l a22, .i a0]).bind fun y8 =>
 cond (decide (((g y7 11).list).length + ([[.s ((g y8 0).str)]] : Rw).length ≤ most)) (
 (Lqt none [.i ((g y5 1).int), .i ((g y5 2).int), .i ((g y5 3).int), .i ((g y5 4).int), .l ((g y5 5).list), .l ((g y5 6).list), .l ((g y5 11).list)]).bind fun y9 =>
 cond (a17 == 1) (
 Lqn (some 25) [.s ((g y5 7).str), .i 0, .i 0, .i 0, .i 0, .i 0, .i 0, .i 0, .i 0, .i 0, .i 0, .i 0, .s (⟨#[]⟩ : ByteArray), .i 0, .s (⟨#[]⟩ : ByteArray), .s (⟨#[]⟩ : ByteArray), .i ((g y5 0).int), .i ((g y5 1).int), .i ((g y5 2).int), .i ((g y5 3).int), .i ((g y5 4).int), .l ((g y5 5).list), .l ((g y5 6).list), .s ((g y5 7).str), .i ((g y5 8).int), .s ((g y5 9).str), .s ((g y5 10).str), .i ((g y7 0).int), .i ((g y7 1).int), .i ((g y9 0).int), .i ((g y9 1).int), .i ((g y9 2).int), .i ((g y9 3).int), .i ((g y7 6).int), .i ((g y7 7).int), .i ((g y7 8).int), .i ((g y7 9).int), .l ((g y5 11).list), .l ((g y7 10).list), .l ((g y7 11).list ++ ([[.s ((g y8 0).str)]] : Rw)), .l ((g y9 4).list), .l ((g y9 5).list), .l ((g y9 6).list), .l ((g y7 15).list), .l ((g y7 16).list), .l [], .l [], .l [], .l [], .l [], .l [], .l []]) (
 Lqn (some 25) [.s a18, .i 0, .i 0, .i 0, .i 0, .i 0, .i 0, .i 0, .i 0, .i 0, .i 0, .i 0, .s (⟨#[]⟩ : ByteArray), .i 0, .s (⟨#[]⟩ : ByteArray), .s (⟨#[]⟩ : ByteArray), .i ((g y5 0).int), .i ((g y5 1).int), .i ((g y5 2).int), .i ((g y5 3).int), .i ((g y5 4).int), .l ((g y5 5).list), .l ((g y5 6).list), .s ((g y5 7).str), .i ((g y5 8).int), .s ((g y5 9).str), .s ((g y5 10).str), .i ((g y7 0).int), .i ((g y7 1).int), .i ((g y9 0).int), .i ((g y9 1).int), .i ((g y9 2).int), .i ((g y9 3).int), .i ((g y7 6).int), .i ((g y7 7).int), .i ((g y7 8).int), .i ((g y7 9).int), .l ((g y5 11).list), .l ((g y7 10).list), .l ((g y7 11).list ++ ([[.s ((g y8 0).str)]] : Rw)), .l ((g y9 4).list), .l ((g y9 5).list), .l ((g y9 6).list), .l ((g y7 15).list), .l ((g y7 16).list), .l [], .l [], .l [], .l [], .l [], .l [], .l []])) (
 none)))) (
 cond (decide (4000 ≤ (IntKind.i64.wrap ((a2.length : Int) + (a3.length : Int))))) (
 some [.i 9, .i ((g y2 0).int), .i ((g y2 1).int), .i ((g y2 2).int), .i ((g y2 3).int), .i ((g y2 4).int), .i ((g y2 5).int), .i ((g y2 6).int), .i ((g y2 7).int), .i ((g y2 8).int), .i ((g y2 9).int), .s (⟨#[]⟩ : ByteArray), .i 0, .s (⟨#[]⟩ : ByteArray), .s (⟨#[]⟩ : ByteArray), .l ((g y2 10).list), .l ((g y2 11).list), .l ((g y2 12).list), .l ((g y2 13).list), .l ((g y2 14).list), .l ((g y2 15).list), .l ((g y2 16).list)]) (
 (Lqbk none [.i a0, .i a1, .l a2, .l a3, .i a4, .i a5, .i a6, .i a7, .l a8, .l a9, .l a10, .i a11, .l a12, .l a13, .i a14, .i a15, .i a16]).bind fun y10 =>
 (Lqbe none [.i a17, .s a18, .s a19, .i a20, .s a21, .l a22, .i a0]).bind fun y11 =>
 cond (decide (((g y10 11).list).length + ([[.s ((g y11 0).str)]] : Rw).length ≤ most)) (
 (Lqt none [.i ((g y5 1).int), .i ((g y5 2).int), .i ((g y5 3).int), .i ((g y5 4).int), .l ((g y5 5).list), .l ((g y5 6).list), .l ((g y5 11).list)]).bind fun y12 =>
 cond (a17 == 1) (
 Lqn (some 25) [.s ((g y5 7).str), .i 0, .i 0, .i 0, .i 0, .i 0, .i 0, .i 0, .i 0, .i 0, .i 0, .i 0, .s (⟨#[]⟩ : ByteArray), .i 0, .s (⟨#[]⟩ : ByteArray), .s (⟨#[]⟩ : ByteArray), .i ((g y5 0).int), .i ((g y5 1).int), .i ((g y5 2).int), .i ((g y5 3).int), .i ((g y5 4).int), .l ((g y5 5).list), .l ((g y5 6).list), .s ((g y5 7).str), .i ((g y5 8).int), .s ((g y5 9).str), .s ((g y5 10).str), .i ((g y10 0).int), .i ((g y10 1).int), .i ((g y12 0).int), .i ((g y12 1).int), .i ((g y12 2).int), .i ((g y12 3).int), .i ((g y10 6).int), .i ((g y10 7).int), .i ((g y10 8).int), .i ((g y10 9).int), .l ((g y5 11).list), .l ((g y10 10).list), .l ((g y10 11).list ++ ([[.s ((g y11 0).str)]] : Rw)), .l ((g y12 4).list), .l ((g y12 5).list), .l ((g y12 6).list), .l ((g y10 15).list), .l ((g y10 16).list), .l [], .l [], .l [], .l [], .l [], .l [], .l []]) (
 Lqn (some 25) [.s a18, .i 0, .i 0, .i 0, .i 0, .i 0, .i 0, .i 0, .i 0, .i 0, .i 0, .i 0, .s (⟨#[]⟩ : ByteArray), .i 0, .s (⟨#[]⟩ : ByteArray), .s (⟨#[]⟩ : ByteArray), .i ((g y5 0).int), .i ((g y5 1).int), .i ((g y5 2).int), .i ((g y5 3).int), .i ((g y5 4).int), .l ((g y5 5).list), .l ((g y5 6).list), .s ((g y5 7).str), .i ((g y5 8).int), .s ((g y5 9).str), .s ((g y5 10).str), .i ((g y10 0).int), .i ((g y10 1).int), .i ((g y12 0).int), .i ((g y12 1).int), .i ((g y12 2).int), .i ((g y12 3).int), .i ((g y10 6).int), .i ((g y10 7).int), .i ((g y10 8).int), .i ((g y10 9).int), .l ((g y5 11).list), .l ((g y10 10).list), .l ((g y10 11).list ++ ([[.s ((g y11 0).str)]] : Rw)), .l ((g y12 4).list), .l ((g y12 5).list), .l ((g y12 6).list), .l ((g y10 15).list), .l ((g y10 16).list), .l [], .l [], .l [], .l [], .l [], .l [], .l []])) (
 none)))))) := (Lim_eq _ _).trans (by kernel_rfl)
theorem eqn_25 (a0 : ByteArray) (a1 : Int) (a2 : Int) (a3 : Int) (a4 : Int) (a5 : Int) (a6 : Int) (a7 : Int) (a8 : Int) (a9 : Int) (a10 : Int) (a11 : Int) (a12 : ByteArray) (a13 : Int) (a14 : ByteArray) (a15 : ByteArray) (a16 : Int) (a17 : Int) (a18 : Int) (a19 : Int) (a20 : Int) (a21 : Rw) (a22 : Rw) (a23 : ByteArray) (a24 : Int) (a25 : ByteArray) (a26 : ByteArray) (a27 : Int) (a28 : Int) (a29 : Int) (a30 : Int) (a31 : Int) (a32 : Int) (a33 : Int) (a34 : Int) (a35 : Int) (a36 : Int) (a37 : Rw) (a38 : Rw) (a39 : Rw) (a40 : Rw) (a41 : Rw) (a42 : Rw) (a43 : Rw) (a44 : Rw) (a45 : Rw) (a46 : Rw) (a47 : Rw) (a48 : Rw) (a49 : Rw) (a50 : Rw) (a51 : Rw) : Lqn (some 25) [.s a0, .i a1, .i a2, .i a3, .i a4, .i a5, .i a6, .i a7, .i a8, .i a9, .i a10, .i a11, .s a12, .i a13, .s a14, .s a15, .i a16, .i a17, .i a18, .i a19, .i a20, .l a21, .l a22, .s a23, .i a24, .s a25, .s a26, .i a27, .i a28, .i a29, .i a30, .i a31, .i a32, .i a33, .i a34, .i a35, .i a36, .l a37, .l a38, .l a39, .l a40, .l a41, .l a42, .l a43, .l a44, .l a45, .l a46, .l a47, .l a48, .l a49, .l a50, .l a51] =
 cond (!Eng.seq a0 (⟨#[]⟩ : ByteArray)) (
 (Lqcn none [.i a29, .i a30, .i a31, .i a32, .l a40, .l a41, .l a42, .i a33, .l a43, .l a44, .i a34, .i a35, .i a36, .s a0]).bind fun y1 =>
 some [.i 0, .i a27, .i a28, .i a29, .i a30, .i a31, .i a32, .i ((g y1 0).int), .i ((g y1 1).int), .i ((g y1 2).int), .i ((g y1 3).int), .s a23, .i a24, .s (⟨#[]⟩ : ByteArray), .s (⟨#[]⟩ : ByteArray), .l a38, .l a39, .l a40, .l a41, .l a42, .l ((g y1 4).list), .l ((g y1 5).list)]) (
 some [.i 0, .i a27, .i a28, .i a29, .i a30, .i a31, .i a32, .i a33, .i a34, .i a35, .i a36, .s a23, .i a24, .s (⟨#[]⟩ : ByteArray), .s (⟨#[]⟩ : ByteArray), .l a38, .l a39, .l a40, .l a41, .l a42, .l a43, .l a44]) := (Lim_eq _ _).trans (by kernel_rfl)
theorem kqn : SigOk Tryz.prog (dqn.sig (Lqn none)) ∧ (dqn.sig (Lqn none)).ok = true := sound_lim (known_cons kqs (by kernel_rfl) (known_cons kqbe (by kernel_rfl) (known_cons kqt (by kernel_rfl) (known_cons kqcg (by kernel_rfl) (known_cons kqbj (by kernel_rfl) (known_cons kqbk (by kernel_rfl) (known_cons kqbw (by kernel_rfl) (known_cons kqcn (by kernel_rfl) known_nil)))))))) (by kernel_rfl) (by kernel_rfl) (by kernel_rfl)
def dqco : FD := { fn := 61, nb := 0, pre := ⟨[.ag [.i .i64 0, .i .i64 1, .fz 9 false 2, .fz 9 false 3, .i .i64 4, .i .i64 5, .i .i64 6, .i .i64 7, .fz 90 false 8, .fz 156 false 9, .fz 158 false 10, .i .i64 11, .fz 9 false 12, .fz 9 false 13, .i .i64 14, .i .i64 15, .i .i64 16], .ag [.s 17, .fz 9 false 18], .sc (.i .i64 19)], []⟩, post := ⟨[.ag [.i .i64 0, .i .i64 1, .i .i64 2, .ow 0, .ow 1, .i .i64 3, .i .i64 4, .i .i64 5, .i .i64 6, .ow 2, .ow 3, .ow 4, .i .i64 7, .ow 5, .ow 6, .i .i64 8, .i .i64 9, .i .i64 10, .s 11, .i .i64 12, .s 13, .s 14]], [.rw 9 true 15, .rw 9 true 16, .rw 90 true 17, .rw 156 true 18, .rw 158 true 19, .rw 9 true 20, .rw 9 true 21]⟩, sh := false, cuts := [] }
noncomputable def Lqco : Option Nat → Lv → Option Lv := Lim Tryz.prog [dqbi.sig (Lqbi none), dqn.sig (Lqn none)] dqco Tryz.f61
theorem eqco_i (a0 : Int) (a1 : Int) (a2 : Rw) (a3 : Rw) (a4 : Int) (a5 : Int) (a6 : Int) (a7 : Int) (a8 : Rw) (a9 : Rw) (a10 : Rw) (a11 : Int) (a12 : Rw) (a13 : Rw) (a14 : Int) (a15 : Int) (a16 : Int) (a17 : ByteArray) (a18 : Rw) (a19 : Int) : Lqco none [.i a0, .i a1, .l a2, .l a3, .i a4, .i a5, .i a6, .i a7, .l a8, .l a9, .l a10, .i a11, .l a12, .l a13, .i a14, .i a15, .i a16, .s a17, .l a18, .i a19] =
 (Lqbi none [.s a17, .l a18]).bind fun y1 =>
 (Lqn none [.i a0, .i a1, .l a2, .l a3, .i a4, .i a5, .i a6, .i a7, .l a8, .l a9, .l a10, .i a11, .l a12, .l a13, .i a14, .i a15, .i a16, .i 1, .s (⟨#[]⟩ : ByteArray), .s (⟨#[]⟩ : ByteArray), .i a19, .s ((g y1 0).str), .l ((g y1 1).list)]).bind fun y2 =>
 some [.i ((g y2 0).int), .i ((g y2 1).int), .i ((g y2 2).int), .i ((g y2 3).int), .i ((g y2 4).int), .i ((g y2 5).int), .i ((g y2 6).int), .i ((g y2 7).int), .i ((g y2 8).int), .i ((g y2 9).int), .i ((g y2 10).int), .s ((g y2 11).str), .i ((g y2 12).int), .s ((g y2 13).str), .s ((g y2 14).str), .l ((g y2 15).list), .l ((g y2 16).list), .l ((g y2 17).list), .l ((g y2 18).list), .l ((g y2 19).list), .l ((g y2 20).list), .l ((g y2 21).list)] := (Lim_eq _ _).trans (by kernel_rfl)
theorem kqco : SigOk Tryz.prog (dqco.sig (Lqco none)) ∧ (dqco.sig (Lqco none)).ok = true := sound_lim (known_cons kqbi (by kernel_rfl) (known_cons kqn (by kernel_rfl) known_nil)) (by kernel_rfl) (by kernel_rfl) (by kernel_rfl)
def dqcp : FD := { fn := 63, nb := 0, pre := ⟨[.ag [.i .i64 0, .i .i64 1, .fz 9 false 2, .fz 9 false 3, .i .i64 4, .i .i64 5, .i .i64 6, .i .i64 7, .fz 90 false 8, .fz 156 false 9, .fz 158 false 10, .i .i64 11, .fz 9 false 12, .fz 9 false 13, .i .i64 14, .i .i64 15, .i .i64 16], .sc (.s 17), .sc (.s 18)], []⟩, post := ⟨[.ag [.i .i64 0, .i .i64 1, .i .i64 2, .ow 0, .ow 1, .i .i64 3, .i .i64 4, .i .i64 5, .i .i64 6, .ow 2, .ow 3, .ow 4, .i .i64 7, .ow 5, .ow 6, .i .i64 8, .i .i64 9, .i .i64 10, .s 11, .i .i64 12, .s 13, .s 14]], [.rw 9 true 15, .rw 9 true 16, .rw 90 true 17, .rw 156 true 18, .rw 158 true 19, .rw 9 true 20, .rw 9 true 21]⟩, sh := false, cuts := [] }
noncomputable def Lqcp : Option Nat → Lv → Option Lv := Lim Tryz.prog [dqn.sig (Lqn none)] dqcp Tryz.f63
theorem eqcp_i (a0 : Int) (a1 : Int) (a2 : Rw) (a3 : Rw) (a4 : Int) (a5 : Int) (a6 : Int) (a7 : Int) (a8 : Rw) (a9 : Rw) (a10 : Rw) (a11 : Int) (a12 : Rw) (a13 : Rw) (a14 : Int) (a15 : Int) (a16 : Int) (a17 : ByteArray) (a18 : ByteArray) : Lqcp none [.i a0, .i a1, .l a2, .l a3, .i a4, .i a5, .i a6, .i a7, .l a8, .l a9, .l a10, .i a11, .l a12, .l a13, .i a14, .i a15, .i a16, .s a17, .s a18] =
 (Lqn none [.i a0, .i a1, .l a2, .l a3, .i a4, .i a5, .i a6, .i a7, .l a8, .l a9, .l a10, .i a11, .l a12, .l a13, .i a14, .i a15, .i a16, .i 2, .s a18, .s a17, .i 0, .s (⟨#[]⟩ : ByteArray), .l ([])]).bind fun y1 =>
 some [.i ((g y1 0).int), .i ((g y1 1).int), .i ((g y1 2).int), .i ((g y1 3).int), .i ((g y1 4).int), .i ((g y1 5).int), .i ((g y1 6).int), .i ((g y1 7).int), .i ((g y1 8).int), .i ((g y1 9).int), .i ((g y1 10).int), .s ((g y1 11).str), .i ((g y1 12).int), .s ((g y1 13).str), .s ((g y1 14).str), .l ((g y1 15).list), .l ((g y1 16).list), .l ((g y1 17).list), .l ((g y1 18).list), .l ((g y1 19).list), .l ((g y1 20).list), .l ((g y1 21).list)] := (Lim_eq _ _).trans (by kernel_rfl)
theorem kqcp : SigOk Tryz.prog (dqcp.sig (Lqcp none)) ∧ (dqcp.sig (Lqcp none)).ok = true := sound_lim (known_cons kqn (by kernel_rfl) known_nil) (by kernel_rfl) (by kernel_rfl) (by kernel_rfl)
end KV
end
section
set_option maxRecDepth 100000
namespace KV
open Go Go.Eng Go.Proofs
def dqcq : FD := { fn := 82, nb := 0, pre := ⟨[.ag [.i .i64 0, .i .i64 1, .fz 9 false 2, .fz 9 false 3, .i .i64 4, .i .i64 5, .i .i64 6, .i .i64 7, .fz 90 false 8, .fz 156 false 9, .fz 158 false 10, .i .i64 11, .fz 9 false 12, .fz 9 false 13, .i .i64 14, .i .i64 15, .i .i64 16], .sc (.s 17)], []⟩, post := ⟨[.ag [.i .i64 0, .i .i64 1, .i .i64 2, .ow 0, .ow 1, .i .i64 3, .i .i64 4, .i .i64 5, .i .i64 6, .ow 2, .ow 3, .ow 4, .i .i64 7, .ow 5, .ow 6, .i .i64 8, .i .i64 9, .i .i64 10, .s 11, .i .i64 12, .s 13, .s 14]], [.rw 9 true 15, .rw 9 true 16, .rw 90 true 17, .rw 156 true 18, .rw 158 true 19, .rw 9 true 20, .rw 9 true 21]⟩, sh := false, cuts := [] }
noncomputable def Lqcq : Option Nat → Lv → Option Lv := Lim Tryz.prog [dqn.sig (Lqn none)] dqcq Tryz.f82
theorem eqcq_i (a0 : Int) (a1 : Int) (a2 : Rw) (a3 : Rw) (a4 : Int) (a5 : Int) (a6 : Int) (a7 : Int) (a8 : Rw) (a9 : Rw) (a10 : Rw) (a11 : Int) (a12 : Rw) (a13 : Rw) (a14 : Int) (a15 : Int) (a16 : Int) (a17 : ByteArray) : Lqcq none [.i a0, .i a1, .l a2, .l a3, .i a4, .i a5, .i a6, .i a7, .l a8, .l a9, .l a10, .i a11, .l a12, .l a13, .i a14, .i a15, .i a16, .s a17] =
 (Lqn none [.i a0, .i a1, .l a2, .l a3, .i a4, .i a5, .i a6, .i a7, .l a8, .l a9, .l a10, .i a11, .l a12, .l a13, .i a14, .i a15, .i a16, .i 3, .s (⟨#[]⟩ : ByteArray), .s a17, .i 0, .s (⟨#[]⟩ : ByteArray), .l ([])]).bind fun y1 =>
 some [.i ((g y1 0).int), .i ((g y1 1).int), .i ((g y1 2).int), .i ((g y1 3).int), .i ((g y1 4).int), .i ((g y1 5).int), .i ((g y1 6).int), .i ((g y1 7).int), .i ((g y1 8).int), .i ((g y1 9).int), .i ((g y1 10).int), .s ((g y1 11).str), .i ((g y1 12).int), .s ((g y1 13).str), .s ((g y1 14).str), .l ((g y1 15).list), .l ((g y1 16).list), .l ((g y1 17).list), .l ((g y1 18).list), .l ((g y1 19).list), .l ((g y1 20).list), .l ((g y1 21).list)] := (Lim_eq _ _).trans (by kernel_rfl)
theorem kqcq : SigOk Tryz.prog (dqcq.sig (Lqcq none)) ∧ (dqcq.sig (Lqcq none)).ok = true := sound_lim (known_cons kqn (by kernel_rfl) known_nil) (by kernel_rfl) (by kernel_rfl) (by kernel_rfl)
def dqcr : FD := { fn := 83, nb := 0, pre := ⟨[.ag [.i .i64 0, .i .i64 1, .fz 9 false 2, .fz 9 false 3, .i .i64 4, .i .i64 5, .i .i64 6, .i .i64 7, .fz 90 false 8, .fz 156 false 9, .fz 158 false 10, .i .i64 11, .fz 9 false 12, .fz 9 false 13, .i .i64 14, .i .i64 15, .i .i64 16], .sc (.s 17), .sc (.i .i64 18)], []⟩, post := ⟨[.ag [.i .i64 0, .i .i64 1, .i .i64 2, .ow 0, .ow 1, .i .i64 3, .i .i64 4, .i .i64 5, .i .i64 6, .ow 2, .ow 3, .ow 4, .i .i64 7, .ow 5, .ow 6, .i .i64 8, .i .i64 9, .i .i64 10, .s 11, .i .i64 12, .s 13, .s 14]], [.rw 9 true 15, .rw 9 true 16, .rw 90 true 17, .rw 156 true 18, .rw 158 true 19, .rw 9 true 20, .rw 9 true 21]⟩, sh := false, cuts := [] }
noncomputable def Lqcr : Option Nat → Lv → Option Lv := Lim Tryz.prog [dqn.sig (Lqn none)] dqcr Tryz.f83
theorem eqcr_i (a0 : Int) (a1 : Int) (a2 : Rw) (a3 : Rw) (a4 : Int) (a5 : Int) (a6 : Int) (a7 : Int) (a8 : Rw) (a9 : Rw) (a10 : Rw) (a11 : Int) (a12 : Rw) (a13 : Rw) (a14 : Int) (a15 : Int) (a16 : Int) (a17 : ByteArray) (a18 : Int) : Lqcr none [.i a0, .i a1, .l a2, .l a3, .i a4, .i a5, .i a6, .i a7, .l a8, .l a9, .l a10, .i a11, .l a12, .l a13, .i a14, .i a15, .i a16, .s a17, .i a18] =
 (Lqn none [.i a0, .i a1, .l a2, .l a3, .i a4, .i a5, .i a6, .i a7, .l a8, .l a9, .l a10, .i a11, .l a12, .l a13, .i a14, .i a15, .i a16, .i 4, .s a17, .s (⟨#[]⟩ : ByteArray), .i a18, .s (⟨#[]⟩ : ByteArray), .l ([])]).bind fun y1 =>
 some [.i ((g y1 0).int), .i ((g y1 1).int), .i ((g y1 2).int), .i ((g y1 3).int), .i ((g y1 4).int), .i ((g y1 5).int), .i ((g y1 6).int), .i ((g y1 7).int), .i ((g y1 8).int), .i ((g y1 9).int), .i ((g y1 10).int), .s ((g y1 11).str), .i ((g y1 12).int), .s ((g y1 13).str), .s ((g y1 14).str), .l ((g y1 15).list), .l ((g y1 16).list), .l ((g y1 17).list), .l ((g y1 18).list), .l ((g y1 19).list), .l ((g y1 20).list), .l ((g y1 21).list)] := (Lim_eq _ _).trans (by kernel_rfl)
theorem kqcr : SigOk Tryz.prog (dqcr.sig (Lqcr none)) ∧ (dqcr.sig (Lqcr none)).ok = true := sound_lim (known_cons kqn (by kernel_rfl) known_nil) (by kernel_rfl) (by kernel_rfl) (by kernel_rfl)
def dqcs : FD := { fn := 84, nb := 0, pre := ⟨[.ag [.i .i64 0, .i .i64 1, .fz 9 false 2, .fz 9 false 3, .i .i64 4, .i .i64 5, .i .i64 6, .i .i64 7, .fz 90 false 8, .fz 156 false 9, .fz 158 false 10, .i .i64 11, .fz 9 false 12, .fz 9 false 13, .i .i64 14, .i .i64 15, .i .i64 16], .sc (.i .i64 17)], []⟩, post := ⟨[.ag [.i .i64 0, .i .i64 1, .i .i64 2, .ow 0, .ow 1, .i .i64 3, .i .i64 4, .i .i64 5, .i .i64 6, .ow 2, .ow 3, .ow 4, .i .i64 7, .ow 5, .ow 6, .i .i64 8, .i .i64 9, .i .i64 10, .s 11, .i .i64 12, .s 13, .s 14]], [.rw 9 true 15, .rw 9 true 16, .rw 90 true 17, .rw 156 true 18, .rw 158 true 19, .rw 9 true 20, .rw 9 true 21]⟩, sh := false, cuts := [] }
noncomputable def Lqcs : Option Nat → Lv → Option Lv := Lim Tryz.prog [dqn.sig (Lqn none)] dqcs Tryz.f84
theorem eqcs_i (a0 : Int) (a1 : Int) (a2 : Rw) (a3 : Rw) (a4 : Int) (a5 : Int) (a6 : Int) (a7 : Int) (a8 : Rw) (a9 : Rw) (a10 : Rw) (a11 : Int) (a12 : Rw) (a13 : Rw) (a14 : Int) (a15 : Int) (a16 : Int) (a17 : Int) : Lqcs none [.i a0, .i a1, .l a2, .l a3, .i a4, .i a5, .i a6, .i a7, .l a8, .l a9, .l a10, .i a11, .l a12, .l a13, .i a14, .i a15, .i a16, .i a17] =
 (Lqn none [.i a0, .i a1, .l a2, .l a3, .i a4, .i a5, .i a6, .i a7, .l a8, .l a9, .l a10, .i a11, .l a12, .l a13, .i a14, .i a15, .i a16, .i 5, .s (⟨#[]⟩ : ByteArray), .s (⟨#[]⟩ : ByteArray), .i a17, .s (⟨#[]⟩ : ByteArray), .l ([])]).bind fun y1 =>
 some [.i ((g y1 0).int), .i ((g y1 1).int), .i ((g y1 2).int), .i ((g y1 3).int), .i ((g y1 4).int), .i ((g y1 5).int), .i ((g y1 6).int), .i ((g y1 7).int), .i ((g y1 8).int), .i ((g y1 9).int), .i ((g y1 10).int), .s ((g y1 11).str), .i ((g y1 12).int), .s ((g y1 13).str), .s ((g y1 14).str), .l ((g y1 15).list), .l ((g y1 16).list), .l ((g y1 17).list), .l ((g y1 18).list), .l ((g y1 19).list), .l ((g y1 20).list), .l ((g y1 21).list)] := (Lim_eq _ _).trans (by kernel_rfl)
theorem kqcs : SigOk Tryz.prog (dqcs.sig (Lqcs none)) ∧ (dqcs.sig (Lqcs none)).ok = true := sound_lim (known_cons kqn (by kernel_rfl) known_nil) (by kernel_rfl) (by kernel_rfl) (by kernel_rfl)
def dqct : FD := { fn := 85, nb := 0, pre := ⟨[.ag [.i .i64 0, .i .i64 1, .fz 9 false 2, .fz 9 false 3, .i .i64 4, .i .i64 5, .i .i64 6, .i .i64 7, .fz 90 false 8, .fz 156 false 9, .fz 158 false 10, .i .i64 11, .fz 9 false 12, .fz 9 false 13, .i .i64 14, .i .i64 15, .i .i64 16], .sc (.i .i64 17)], []⟩, post := ⟨[.ag [.i .i64 0, .i .i64 1, .i .i64 2, .ow 0, .ow 1, .i .i64 3, .i .i64 4, .i .i64 5, .i .i64 6, .ow 2, .ow 3, .ow 4, .i .i64 7, .ow 5, .ow 6, .i .i64 8, .i .i64 9, .i .i64 10, .s 11, .i .i64 12, .s 13, .s 14]], [.rw 9 true 15, .rw 9 true 16, .rw 90 true 17, .rw 156 true 18, .rw 158 true 19, .rw 9 true 20, .rw 9 true 21]⟩, sh := false, cuts := [] }
noncomputable def Lqct : Option Nat → Lv → Option Lv := Lim Tryz.prog [dqn.sig (Lqn none)] dqct Tryz.f85
theorem eqct_i (a0 : Int) (a1 : Int) (a2 : Rw) (a3 : Rw) (a4 : Int) (a5 : Int) (a6 : Int) (a7 : Int) (a8 : Rw) (a9 : Rw) (a10 : Rw) (a11 : Int) (a12 : Rw) (a13 : Rw) (a14 : Int) (a15 : Int) (a16 : Int) (a17 : Int) : Lqct none [.i a0, .i a1, .l a2, .l a3, .i a4, .i a5, .i a6, .i a7, .l a8, .l a9, .l a10, .i a11, .l a12, .l a13, .i a14, .i a15, .i a16, .i a17] =
 (Lqn none [.i a0, .i a1, .l a2, .l a3, .i a4, .i a5, .i a6, .i a7, .l a8, .l a9, .l a10, .i a11, .l a12, .l a13, .i a14, .i a15, .i a16, .i 6, .s (⟨#[]⟩ : ByteArray), .s (⟨#[]⟩ : ByteArray), .i a17, .s (⟨#[]⟩ : ByteArray), .l ([])]).bind fun y1 =>
 some [.i ((g y1 0).int), .i ((g y1 1).int), .i ((g y1 2).int), .i ((g y1 3).int), .i ((g y1 4).int), .i ((g y1 5).int), .i ((g y1 6).int), .i ((g y1 7).int), .i ((g y1 8).int), .i ((g y1 9).int), .i ((g y1 10).int), .s ((g y1 11).str), .i ((g y1 12).int), .s ((g y1 13).str), .s ((g y1 14).str), .l ((g y1 15).list), .l ((g y1 16).list), .l ((g y1 17).list), .l ((g y1 18).list), .l ((g y1 19).list), .l ((g y1 20).list), .l ((g y1 21).list)] := (Lim_eq _ _).trans (by kernel_rfl)
theorem kqct : SigOk Tryz.prog (dqct.sig (Lqct none)) ∧ (dqct.sig (Lqct none)).ok = true := sound_lim (known_cons kqn (by kernel_rfl) known_nil) (by kernel_rfl) (by kernel_rfl) (by kernel_rfl)
def dq9 : FD := { fn := 208, nb := 0, pre := ⟨[.ag [.i .i64 0, .i .i64 1, .i .i64 2, .i .i64 3, .fz 90 false 4, .fz 156 false 5, .fz 158 false 6], .sc (.i .i64 7)], []⟩, post := ⟨[.sc (.i .i64 0)], []⟩, sh := false, cuts := [⟨3, [1, 2, 5, 6], ⟨[.sc (.i .i64 0), .sc (.pt 0 0), .sc (.i .i64 1), .sc (.i .i64 2)], [.bx [.i .i64 3, .i .i64 4, .i .i64 5, .i .i64 6, .fz 90 false 7, .fz 156 false 8, .fz 158 false 9]]⟩⟩] }
noncomputable def Lq9 : Option Nat → Lv → Option Lv := Lim Tryz.prog [] dq9 Tryz.f208
theorem eq9_i (a0 : Int) (a1 : Int) (a2 : Int) (a3 : Int) (a4 : Rw) (a5 : Rw) (a6 : Rw) (a7 : Int) : Lq9 none [.i a0, .i a1, .i a2, .i a3, .l a4, .l a5, .l a6, .i a7] =
 Lq9 (some 3) [.i a7, .i (-1), .i 0, .i a0, .i a1, .i a2, .i a3, .l a4, .l a5, .l a6] := (Lim_eq _ _).trans (by kernel_rfl)
theorem eq9_3 (a0 : Int) (a1 : Int) (a2 : Int) (a3 : Int) (a4 : Int) (a5 : Int) (a6 : Int) (a7 : Rw) (a8 : Rw) (a9 : Rw) : Lq9 (some 3) [.i a0, .i a1, .i a2, .i a3, .i a4, .i a5, .i a6, .l a7, .l a8, .l a9] =
 cond (decide (a2 < (a7.length : Int))) (
 cond (inb a2 a7.length) (
 cond (decide ((rd a7 a2.toNat 1).int < a0)) (
 cond (decide (a1 < 0)) (
 Lq9 (some 3) [.i a0, .i a2, .i (IntKind.i64.wrap (a2 + 1)), .i a3, .i a4, .i a5, .i a6, .l a7, .l a8, .l a9]) (
 cond (inb a2 a7.length) (
 cond (inb a1 a7.length) (
 cond (decide ((rd a7 a1.toNat 1).int < (rd a7 a2.toNat 1).int)) (
 Lq9 (some 3) [.i a0, .i a2, .i (IntKind.i64.wrap (a2 + 1)), .i a3, .i a4, .i a5, .i a6, .l a7, .l a8, .l a9]) (
 Lq9 (some 3) [.i a0, .i a1, .i (IntKind.i64.wrap (a2 + 1)), .i a3, .i a4, .i a5, .i a6, .l a7, .l a8, .l a9])) (
 none)) (
 none))) (
 Lq9 (some 3) [.i a0, .i a1, .i (IntKind.i64.wrap (a2 + 1)), .i a3, .i a4, .i a5, .i a6, .l a7, .l a8, .l a9])) (
 none)) (
 some [.i a1]) := (Lim_eq _ _).trans (by kernel_rfl)
theorem kq9 : SigOk Tryz.prog (dq9.sig (Lq9 none)) ∧ (dq9.sig (Lq9 none)).ok = true := sound_lim known_nil (by kernel_rfl) (by kernel_rfl) (by kernel_rfl)
def dq3 : FD := { fn := 183, nb := 0, pre := ⟨[.ag [.i .i64 0, .i .i64 1, .i .i64 2, .i .i64 3, .fz 90 false 4, .fz 156 false 5, .fz 158 false 6], .sc (.s 7)], []⟩, post := ⟨[.ag [.i .i64 0, .i .i64 1, .i .i64 2, .i .i64 3, .i .i64 4, .ow 0, .fz 156 false 5, .fz 158 false 6, .s 7, .i .i64 8, .s 9, .s 10]], [.rw 90 false 11]⟩, sh := true, cuts := [⟨7, [1, 2, 4, 5, 6], ⟨[.sc (.s 0), .sc (.pt 0 0), .sc (.pt 1 0), .sc (.ow 2), .sc (.i .i64 1)], [.bx [.i .i64 2, .i .i64 3, .i .i64 4, .i .i64 5, .fz 90 false 6, .fz 156 false 7, .fz 158 false 8], .bx [.i .i64 9, .i .i64 10, .i .i64 11, .i .i64 12, .i .i64 13, .ow 3, .ow 4, .ow 5, .s 14, .i .i64 15, .s 16, .s 17], .rw 90 false 18, .rw 90 true 19, .rw 156 true 20, .rw 158 true 21]⟩⟩] }
noncomputable def Lq3 : Option Nat → Lv → Option Lv := Lim Tryz.prog [dqe.sig (Lqe none), dqg.sig (Lqg none), dqu.sig (Lqu none)] dq3 Tryz.f183
theorem eq3_i (a0 : Int) (a1 : Int) (a2 : Int) (a3 : Int) (a4 : Rw) (a5 : Rw) (a6 : Rw) (a7 : ByteArray) : Lq3 none [.i a0, .i a1, .i a2, .i a3, .l a4, .l a5, .l a6, .s a7] =
 (Lqe none [.i a0, .i a1, .i a2, .i a3, .l a4, .l a5, .l a6, .s a7]).bind fun y1 =>
 cond (decide ((g y1 0).int < 0)) (
 some [.i 2, .i 0, .i 0, .i 0, .i 0, .l ([]), .l ([]), .s (⟨#[]⟩ : ByteArray), .i 0, .s (⟨#[]⟩ : ByteArray), .s (⟨#[]⟩ : ByteArray), .l []]) (
 (Lqu none [.i a0, .i a1, .i a2, .i a3, .l a4, .l a5, .l a6, .s a7]).bind fun y2 =>
 cond ((g y2 0).bool) (
 some [.i 6, .i 0, .i 0, .i 0, .i 0, .l ([]), .l ([]), .s (⟨#[]⟩ : ByteArray), .i 0, .s (⟨#[]⟩ : ByteArray), .s (⟨#[]⟩ : ByteArray), .l []]) (
 Lq3 (some 7) [.s a7, .i 0, .i a0, .i a1, .i a2, .i a3, .l a4, .l a5, .l a6, .i 0, .i 0, .i 0, .i 0, .i 0, .s (⟨#[]⟩ : ByteArray), .i 0, .s (⟨#[]⟩ : ByteArray), .s (⟨#[]⟩ : ByteArray), .l ([] : Rw), .l [], .l [], .l []])) := (Lim_eq _ _).trans (by kernel_rfl)
theorem eq3_7 (a0 : ByteArray) (a1 : Int) (a2 : Int) (a3 : Int) (a4 : Int) (a5 : Int) (a6 : Rw) (a7 : Rw) (a8 : Rw) (a9 : Int) (a10 : Int) (a11 : Int) (a12 : Int) (a13 : Int) (a14 : ByteArray) (a15 : Int) (a16 : ByteArray) (a17 : ByteArray) (a18 : Rw) (a19 : Rw) (a20 : Rw) (a21 : Rw) : Lq3 (some 7) [.s a0, .i a1, .i a2, .i a3, .i a4, .i a5, .l a6, .l a7, .l a8, .i a9, .i a10, .i a11, .i a12, .i a13, .s a14, .i a15, .s a16, .s a17, .l a18, .l a19, .l a20, .l a21] =
 cond (decide (a1 < (a6.length : Int))) (
 cond (inb a1 a6.length) (
 (Lqg none [.l ((rd a6 a1.toNat 3).list), .s a0]).bind fun y1 =>
 cond ((g y1 0).bool) (
 some [.i 6, .i 0, .i 0, .i 0, .i 0, .l ([]), .l ([]), .s (⟨#[]⟩ : ByteArray), .i 0, .s (⟨#[]⟩ : ByteArray), .s (⟨#[]⟩ : ByteArray), .l []]) (
 cond (inb a1 a6.length) (
 cond (!Eng.seq ((rd a6 a1.toNat 0).str) a0) (
 cond (inb a1 a6.length) (
 cond (decide (a18.length + ([[.s ((rd a6 a1.toNat 0).str), .i ((rd a6 a1.toNat 1).int), .s ((rd a6 a1.toNat 2).str), .l ((rd a6 a1.toNat 3).list)]] : Rw).length ≤ most)) (
 Lq3 (some 7) [.s a0, .i (IntKind.i64.wrap (a1 + 1)), .i a2, .i a3, .i a4, .i a5, .l a6, .l a7, .l a8, .i a9, .i a10, .i a11, .i a12, .i a13, .s a14, .i a15, .s a16, .s a17, .l (a18 ++ ([[.s ((rd a6 a1.toNat 0).str), .i ((rd a6 a1.toNat 1).int), .s ((rd a6 a1.toNat 2).str), .l ((rd a6 a1.toNat 3).list)]] : Rw)), .l a19, .l a20, .l a21]) (
 none)) (
 none)) (
 Lq3 (some 7) [.s a0, .i (IntKind.i64.wrap (a1 + 1)), .i a2, .i a3, .i a4, .i a5, .l a6, .l a7, .l a8, .i a9, .i a10, .i a11, .i a12, .i a13, .s a14, .i a15, .s a16, .s a17, .l a18, .l a19, .l a20, .l a21])) (
 none))) (
 none)) (
 some [.i 0, .i a2, .i a3, .i a4, .i a5, .l a7, .l a8, .s (⟨#[]⟩ : ByteArray), .i 0, .s (⟨#[]⟩ : ByteArray), .s (⟨#[]⟩ : ByteArray), .l a18]) := (Lim_eq _ _).trans (by kernel_rfl)
theorem kq3 : SigOk Tryz.prog (dq3.sig (Lq3 none)) ∧ (dq3.sig (Lq3 none)).ok = true := sound_lim (known_cons kqe (by kernel_rfl) (known_cons kqg (by kernel_rfl) (known_cons kqu (by kernel_rfl) known_nil))) (by kernel_rfl) (by kernel_rfl) (by kernel_rfl)
def dqbf : FD := { fn := 157, nb := 0, pre := ⟨[.ag [.i .i64 0, .i .i64 1, .i .i64 2, .i .i64 3, .fz 90 false 4, .fz 156 false 5, .fz 158 false 6], .ag [.i .i64 7, .fz 9 false 8, .fz 9 false 9, .i .i64 10, .i .i64 11, .i .i64 12]], []⟩, post := ⟨[.ag [.i .i64 0, .i .i64 1, .i .i64 2, .i .i64 3, .i .i64 4, .fz 90 false 5, .fz 156 false 6, .fz 158 false 7, .i .i64 8, .fz 9 false 9, .fz 9 false 10, .i .i64 11, .i .i64 12, .i .i64 13, .ow 0]], [.rw 9 true 14]⟩, sh := true, cuts := [⟨15, [2, 3, 4, 6, 8, 9], ⟨[.sc (.pt 0 0), .sc (.pt 1 0), .sc (.pt 2 0), .sc (.ow 3), .sc (.fz 9 false 0), .sc (.i .i64 1)], [.bx [.i .i64 2, .i .i64 3, .i .i64 4, .i .i64 5, .fz 90 false 6, .fz 156 false 7, .fz 158 false 8], .bx [.i .i64 9, .fz 9 false 10, .ow 4, .i .i64 11, .i .i64 12, .i .i64 13], .bx [.i .i64 14, .i .i64 15, .i .i64 16, .i .i64 17, .i .i64 18, .ow 5, .ow 6, .ow 7, .i .i64 19, .ow 8, .ow 9, .i .i64 20, .i .i64 21, .i .i64 22, .ow 10], .rw 9 true 23, .rw 9 true 24, .rw 90 true 25, .rw 156 true 26, .rw 158 true 27, .rw 9 true 28, .rw 9 true 29, .rw 9 true 30]⟩⟩] }
noncomputable def Lqbf : Option Nat → Lv → Option Lv := Lim Tryz.prog [dqe.sig (Lqe none), dqg.sig (Lqg none), dqw.sig (Lqw none), dq9.sig (Lq9 none), dq3.sig (Lq3 none)] dqbf Tryz.f157
theorem eqbf_i (a0 : Int) (a1 : Int) (a2 : Int) (a3 : Int) (a4 : Rw) (a5 : Rw) (a6 : Rw) (a7 : Int) (a8 : Rw) (a9 : Rw) (a10 : Int) (a11 : Int) (a12 : Int) : Lqbf none [.i a0, .i a1, .i a2, .i a3, .l a4, .l a5, .l a6, .i a7, .l a8, .l a9, .i a10, .i a11, .i a12] =
 cond (a7 == 0) (
 (Lqw none [.i a0, .i a1, .i a2, .i a3, .l a4, .l a5, .l a6]).bind fun y1 =>
 some [.i 0, .i a0, .i a1, .i a2, .i a3, .l a4, .l a5, .l a6, .i 1, .l ((g y1 0).list), .l a9, .i a3, .i (IntKind.i64.wrap (a3 + 1)), .i a12, .l []]) (
 cond (decide (0 < (a8.length : Int))) (
 cond (inb 0 a8.length) (
 cond (decide (1 ≤ (a8.length : Int))) (
 cond (decide (([] : Rw).length + (Eng.sub a8 1 a8.length).length ≤ most)) (
 (Lqe none [.i a0, .i a1, .i a2, .i a3, .l a4, .l a5, .l a6, .s ((rd a8 0 0).str)]).bind fun y2 =>
 cond (decide (0 ≤ (g y2 0).int)) (
 (Lqg none [.l a9, .s ((rd a8 0 0).str)]).bind fun y3 =>
 cond (!(g y3 0).bool) (
 cond (decide (([] : Rw).length + a9.length ≤ most)) (
 cond (decide ((([] : Rw) ++ a9).length + ([[.s ((rd a8 0 0).str)]] : Rw).length ≤ most)) (
 cond (inb ((g y2 0).int) a4.length) (
 Lqbf (some 15) [.l ((rd a4 (((g y2 0).int).toNat) 3).list), .i 0, .i a0, .i a1, .i a2, .i a3, .l a4, .l a5, .l a6, .i a7, .l a8, .i a10, .i a11, .i a12, .i 0, .i 0, .i 0, .i 0, .i 0, .i 0, .i 0, .i 0, .i 0, .l (([] : Rw) ++ (Eng.sub a8 1 a8.length)), .l ((([] : Rw) ++ a9) ++ ([[.s ((rd a8 0 0).str)]] : Rw)), .l [], .l [], .l [], .l [], .l [], .l []]) (
 none)) (
 none)) (
 none)) (
 some [.i 0, .i a0, .i a1, .i a2, .i a3, .l a4, .l a5, .l a6, .i a7, .l (([] : Rw) ++ (Eng.sub a8 1 a8.length)), .l a9, .i a10, .i a11, .i a12, .l []])) (
 some [.i 0, .i a0, .i a1, .i a2, .i a3, .l a4, .l a5, .l a6, .i a7, .l (([] : Rw) ++ (Eng.sub a8 1 a8.length)), .l a9, .i a10, .i a11, .i a12, .l []])) (
 none)) (
 none)) (
 none)) (
 (Lq9 none [.i a0, .i a1, .i a2, .i a3, .l a4, .l a5, .l a6, .i a11]).bind fun y4 =>
 cond (decide ((g y4 0).int < 0)) (
 some [.i 0, .i a0, .i a1, .i a2, .i a3, .l a4, .l a5, .l a6, .i 0, .l ([]), .l ([]), .i 0, .i 0, .i (IntKind.i64.wrap (a12 + 1)), .l []]) (
 cond (inb ((g y4 0).int) a4.length) (
 cond (inb ((g y4 0).int) a4.length) (
 (Lqg none [.l a9, .s ((rd a4 (((g y4 0).int).toNat) 0).str)]).bind fun y5 =>
 cond ((g y5 0).bool) (
 some [.i 0, .i a0, .i a1, .i a2, .i a3, .l a4, .l a5, .l a6, .i 2, .l a8, .l a9, .i a10, .i ((rd a4 (((g y4 0).int).toNat) 1).int), .i a12, .l []]) (
 (Lq3 none [.i a0, .i a1, .i a2, .i a3, .l a4, .l a5, .l a6, .s ((rd a4 (((g y4 0).int).toNat) 0).str)]).bind fun y6 =>
 cond ((g y6 0).int != 0) (
 some [.i 0, .i a0, .i a1, .i a2, .i a3, .l a4, .l a5, .l a6, .i 2, .l a8, .l a9, .i a10, .i ((rd a4 (((g y4 0).int).toNat) 1).int), .i a12, .l []]) (
 some [.i 0, .i ((g y6 1).int), .i ((g y6 2).int), .i ((g y6 3).int), .i ((g y6 4).int), .l ((g y6 11).list), .l ((g y6 5).list), .l ((g y6 6).list), .i 2, .l a8, .l a9, .i a10, .i ((rd a4 (((g y4 0).int).toNat) 1).int), .i a12, .l ([[.s ((rd a4 (((g y4 0).int).toNat) 0).str)]] : Rw)]))) (
 none)) (
 none)))) := (Lim_eq _ _).trans (by kernel_rfl)
theorem eqbf_15 (a0 : Rw) (a1 : Int) (a2 : Int) (a3 : Int) (a4 : Int) (a5 : Int) (a6 : Rw) (a7 : Rw) (a8 : Rw) (a9 : Int) (a10 : Rw) (a11 : Int) (a12 : Int) (a13 : Int) (a14 : Int) (a15 : Int) (a16 : Int) (a17 : Int) (a18 : Int) (a19 : Int) (a20 : Int) (a21 : Int) (a22 : Int) (a23 : Rw) (a24 : Rw) (a25 : Rw) (a26 : Rw) (a27 : Rw) (a28 : Rw) (a29 : Rw) (a30 : Rw) : Lqbf (some 15) [.l a0, .i a1, .i a2, .i a3, .i a4, .i a5, .l a6, .l a7, .l a8, .i a9, .l a10, .i a11, .i a12, .i a13, .i a14, .i a15, .i a16, .i a17, .i a18, .i a19, .i a20, .i a21, .i a22, .l a23, .l a24, .l a25, .l a26, .l a27, .l a28, .l a29, .l a30] =
 cond (decide (a1 < (a0.length : Int))) (
 cond (inb a1 a0.length) (
 (Lqg none [.l a24, .s ((rd a0 a1.toNat 0).str)]).bind fun y1 =>
 cond (!(g y1 0).bool) (
 cond (inb a1 a0.length) (
 cond (decide (a23.length + ([[.s ((rd a0 a1.toNat 0).str)]] : Rw).length ≤ most)) (
 Lqbf (some 15) [.l a0, .i (IntKind.i64.wrap (a1 + 1)), .i a2, .i a3, .i a4, .i a5, .l a6, .l a7, .l a8, .i a9, .l a10, .i a11, .i a12, .i a13, .i a14, .i a15, .i a16, .i a17, .i a18, .i a19, .i a20, .i a21, .i a22, .l (a23 ++ ([[.s ((rd a0 a1.toNat 0).str)]] : Rw)), .l a24, .l a25, .l a26, .l a27, .l a28, .l a29, .l a30]) (
 none)) (
 none)) (
 Lqbf (some 15) [.l a0, .i (IntKind.i64.wrap (a1 + 1)), .i a2, .i a3, .i a4, .i a5, .l a6, .l a7, .l a8, .i a9, .l a10, .i a11, .i a12, .i a13, .i a14, .i a15, .i a16, .i a17, .i a18, .i a19, .i a20, .i a21, .i a22, .l a23, .l a24, .l a25, .l a26, .l a27, .l a28, .l a29, .l a30])) (
 none)) (
 some [.i 0, .i a2, .i a3, .i a4, .i a5, .l a6, .l a7, .l a8, .i a9, .l a23, .l a24, .i a11, .i a12, .i a13, .l []]) := (Lim_eq _ _).trans (by kernel_rfl)
theorem kqbf : SigOk Tryz.prog (dqbf.sig (Lqbf none)) ∧ (dqbf.sig (Lqbf none)).ok = true := sound_lim (known_cons kqe (by kernel_rfl) (known_cons kqg (by kernel_rfl) (known_cons kqw (by kernel_rfl) (known_cons kq9 (by kernel_rfl) (known_cons kq3 (by kernel_rfl) known_nil))))) (by kernel_rfl) (by kernel_rfl) (by kernel_rfl)
def dqbx : FD := { fn := 93, nb := 0, pre := ⟨[.ag [.i .i64 0, .i .i64 1, .fz 9 false 2, .fz 9 false 3, .i .i64 4, .i .i64 5, .i .i64 6, .i .i64 7, .fz 90 false 8, .fz 156 false 9, .fz 158 false 10, .i .i64 11, .fz 9 false 12, .fz 9 false 13, .i .i64 14, .i .i64 15, .i .i64 16], .sc (.i .i64 17)], []⟩, post := ⟨[.ag [.i .i64 0, .i .i64 1, .i .i64 2, .ow 0, .ow 1, .i .i64 3, .i .i64 4, .i .i64 5, .i .i64 6, .ow 2, .ow 3, .ow 4, .i .i64 7, .ow 5, .ow 6, .i .i64 8, .i .i64 9, .i .i64 10, .i .i64 11, .ow 7]], [.rw 9 true 12, .rw 9 true 13, .rw 90 true 14, .rw 156 true 15, .rw 158 true 16, .rw 9 true 17, .rw 9 true 18, .rw 9 true 19]⟩, sh := false, cuts := [⟨4, [1, 2, 4, 5], ⟨[.sc (.i .i64 0), .sc (.pt 0 0), .sc (.pt 1 0), .sc (.pt 2 0)], [.bx [.i .i64 1, .i .i64 2, .fz 9 false 3, .fz 9 false 4, .i .i64 5, .i .i64 6, .i .i64 7, .i .i64 8, .fz 90 false 9, .fz 156 false 10, .fz 158 false 11, .i .i64 12, .fz 9 false 13, .fz 9 false 14, .i .i64 15, .i .i64 16, .i .i64 17], .bx [.i .i64 18, .i .i64 19, .i .i64 20, .ow 3, .ow 4, .i .i64 21, .i .i64 22, .i .i64 23, .i .i64 24, .ow 5, .ow 6, .ow 7, .i .i64 25, .ow 8, .ow 9, .i .i64 26, .i .i64 27, .i .i64 28, .i .i64 29, .ow 10], .bx [.i .i64 30, .i .i64 31, .i .i64 32, .ow 11, .ow 12, .i .i64 33, .i .i64 34, .i .i64 35, .i .i64 36, .fz 90 true 37, .fz 156 true 38, .fz 158 true 39, .i .i64 40, .fz 9 true 41, .fz 9 true 42, .i .i64 43, .i .i64 44, .i .i64 45, .i .i64 46, .ow 13], .rw 9 true 47, .rw 9 true 48, .rw 90 true 49, .rw 156 true 50, .rw 158 true 51, .rw 9 true 52, .rw 9 true 53, .rw 9 true 54, .rw 9 true 55, .rw 9 true 56, .rw 9 true 57]⟩⟩] }
noncomputable def Lqbx : Option Nat → Lv → Option Lv := Lim Tryz.prog [dqbe.sig (Lqbe none), dqv.sig (Lqv none), dqbj.sig (Lqbj none), dqbk.sig (Lqbk none), dqbf.sig (Lqbf none)] dqbx Tryz.f93
theorem eqbx_i (a0 : Int) (a1 : Int) (a2 : Rw) (a3 : Rw) (a4 : Int) (a5 : Int) (a6 : Int) (a7 : Int) (a8 : Rw) (a9 : Rw) (a10 : Rw) (a11 : Int) (a12 : Rw) (a13 : Rw) (a14 : Int) (a15 : Int) (a16 : Int) (a17 : Int) : Lqbx none [.i a0, .i a1, .l a2, .l a3, .i a4, .i a5, .i a6, .i a7, .l a8, .l a9, .l a10, .i a11, .l a12, .l a13, .i a14, .i a15, .i a16, .i a17] =
 (Lqbj none [.i a0, .i a1, .l a2, .l a3, .i a4, .i a5, .i a6, .i a7, .l a8, .l a9, .l a10, .i a11, .l a12, .l a13, .i a14, .i a15, .i a16]).bind fun y1 =>
 cond (!(g y1 0).bool) (
 some [.i 1, .i 0, .i 0, .i 0, .i 0, .i 0, .i 0, .i 0, .i 0, .i 0, .i 0, .i 0, .l [], .l [], .l [], .l [], .l [], .l [], .l [], .l []]) (
 (Lqv none [.i a17, .i 0, .i 10000]).bind fun y2 =>
 cond (!(g y2 0).bool) (
 some [.i 1, .i 0, .i 0, .i 0, .i 0, .i 0, .i 0, .i 0, .i 0, .i 0, .i 0, .i 0, .l [], .l [], .l [], .l [], .l [], .l [], .l [], .l []]) (
 (Lqbk none [.i a0, .i a1, .l a2, .l a3, .i a4, .i a5, .i a6, .i a7, .l a8, .l a9, .l a10, .i a11, .l a12, .l a13, .i a14, .i a15, .i a16]).bind fun y3 =>
 Lqbx (some 4) [.i a17, .i a0, .i a1, .l a2, .l a3, .i a4, .i a5, .i a6, .i a7, .l a8, .l a9, .l a10, .i a11, .l a12, .l a13, .i a14, .i a15, .i a16, .i 0, .i 0, .i 0, .i 0, .i 0, .i 0, .i 0, .i 0, .i 0, .i 0, .i 0, .i 0, .i 0, .i ((g y3 0).int), .i ((g y3 1).int), .i ((g y3 2).int), .i ((g y3 3).int), .i ((g y3 4).int), .i ((g y3 5).int), .l ((g y3 12).list), .l ((g y3 13).list), .l ((g y3 14).list), .i ((g y3 6).int), .l ((g y3 15).list), .l ((g y3 16).list), .i ((g y3 7).int), .i ((g y3 8).int), .i ((g y3 9).int), .i 0, .l [], .l [], .l [], .l [], .l [], .l [], .l [], .l [], .l ((g y3 10).list), .l ((g y3 11).list), .l []])) := (Lim_eq _ _).trans (by kernel_rfl)
theorem eqbx_4 (a0 : Int) (a1 : Int) (a2 : Int) (a3 : Rw) (a4 : Rw) (a5 : Int) (a6 : Int) (a7 : Int) (a8 : Int) (a9 : Rw) (a10 : Rw) (a11 : Rw) (a12 : Int) (a13 : Rw) (a14 : Rw) (a15 : Int) (a16 : Int) (a17 : Int) (a18 : Int) (a19 : Int) (a20 : Int) (a21 : Int) (a22 : Int) (a23 : Int) (a24 : Int) (a25 : Int) (a26 : Int) (a27 : Int) (a28 : Int) (a29 : Int) (a30 : Int) (a31 : Int) (a32 : Int) (a33 : Int) (a34 : Int) (a35 : Int) (a36 : Int) (a37 : Rw) (a38 : Rw) (a39 : Rw) (a40 : Int) (a41 : Rw) (a42 : Rw) (a43 : Int) (a44 : Int) (a45 : Int) (a46 : Int) (a47 : Rw) (a48 : Rw) (a49 : Rw) (a50 : Rw) (a51 : Rw) (a52 : Rw) (a53 : Rw) (a54 : Rw) (a55 : Rw) (a56 : Rw) (a57 : Rw) : Lqbx (some 4) [.i a0, .i a1, .i a2, .l a3, .l a4, .i a5, .i a6, .i a7, .i a8, .l a9, .l a10, .l a11, .i a12, .l a13, .l a14, .i a15, .i a16, .i a17, .i a18, .i a19, .i a20, .i a21, .i a22, .i a23, .i a24, .i a25, .i a26, .i a27, .i a28, .i a29, .i a30, .i a31, .i a32, .i a33, .i a34, .i a35, .i a36, .l a37, .l a38, .l a39, .i a40, .l a41, .l a42, .i a43, .i a44, .i a45, .i a46, .l a47, .l a48, .l a49, .l a50, .l a51, .l a52, .l a53, .l a54, .l a55, .l a56, .l a57] =
 cond (decide (a46 < a0)) (
 cond (decide (1000000000 ≤ a45)) (
 some [.i 1, .i 0, .i 0, .i 0, .i 0, .i 0, .i 0, .i 0, .i 0, .i 0, .i 0, .i 0, .l [], .l [], .l [], .l [], .l [], .l [], .l [], .l []]) (
 (Lqbf none [.i a33, .i a34, .i a35, .i a36, .l a37, .l a38, .l a39, .i a40, .l a41, .l a42, .i a43, .i a44, .i a45]).bind fun y1 =>
 cond (decide (23200 < (((g y1 9).list).length : Int))) (
 some [.i 1, .i 0, .i 0, .i 0, .i 0, .i 0, .i 0, .i 0, .i 0, .i 0, .i 0, .i 0, .l [], .l [], .l [], .l [], .l [], .l [], .l [], .l []]) (
 cond (decide (600 < (((g y1 10).list).length : Int))) (
 some [.i 1, .i 0, .i 0, .i 0, .i 0, .i 0, .i 0, .i 0, .i 0, .i 0, .i 0, .i 0, .l [], .l [], .l [], .l [], .l [], .l [], .l [], .l []]) (
 cond (decide (0 < (((g y1 14).list).length : Int))) (
 cond (decide (4000 ≤ (IntKind.i64.wrap ((a55.length : Int) + (a56.length : Int))))) (
 (Lqbk none [.i a31, .i a32, .l a55, .l a56, .i a33, .i a34, .i a35, .i a36, .l a37, .l a38, .l a39, .i a40, .l a41, .l a42, .i a43, .i a44, .i a45]).bind fun y2 =>
 some [.i a30, .i ((g y2 0).int), .i ((g y2 1).int), .i ((g y2 2).int), .i ((g y2 3).int), .i ((g y2 4).int), .i ((g y2 5).int), .i ((g y2 6).int), .i ((g y2 7).int), .i ((g y2 8).int), .i ((g y2 9).int), .i a46, .l ((g y2 10).list), .l ((g y2 11).list), .l ((g y2 12).list), .l ((g y2 13).list), .l ((g y2 14).list), .l ((g y2 15).list), .l ((g y2 16).list), .l a57]) (
 cond (inb 0 (((g y1 14).list).length)) (
 (Lqbe none [.i 7, .s ((rd ((g y1 14).list) 0 0).str), .s (⟨#[]⟩ : ByteArray), .i 0, .s (⟨#[]⟩ : ByteArray), .l ([]), .i a1]).bind fun y3 =>
 cond (decide (a56.length + ([[.s ((g y3 0).str)]] : Rw).length ≤ most)) (
 cond (inb 0 (((g y1 14).list).length)) (
 cond (decide (a57.length + ([[.s ((rd ((g y1 14).list) 0 0).str)]] : Rw).length ≤ most)) (
 Lqbx (some 4) [.i a0, .i a1, .i a2, .l a3, .l a4, .i a5, .i a6, .i a7, .i a8, .l a9, .l a10, .l a11, .i a12, .l a13, .l a14, .i a15, .i a16, .i a17, .i a18, .i a19, .i a20, .i a21, .i a22, .i a23, .i a24, .i a25, .i a26, .i a27, .i a28, .i a29, .i a30, .i a31, .i a32, .i ((g y1 1).int), .i ((g y1 2).int), .i ((g y1 3).int), .i ((g y1 4).int), .l ((g y1 5).list), .l ((g y1 6).list), .l ((g y1 7).list), .i ((g y1 8).int), .l ((g y1 9).list), .l ((g y1 10).list), .i ((g y1 11).int), .i ((g y1 12).int), .i ((g y1 13).int), .i (IntKind.i64.wrap (a46 + 1)), .l a47, .l a48, .l a49, .l a50, .l a51, .l a52, .l a53, .l a54, .l a55, .l (a56 ++ ([[.s ((g y3 0).str)]] : Rw)), .l (a57 ++ ([[.s ((rd ((g y1 14).list) 0 0).str)]] : Rw))]) (
 none)) (
 none)) (
 none)) (
 none))) (
 Lqbx (some 4) [.i a0, .i a1, .i a2, .l a3, .l a4, .i a5, .i a6, .i a7, .i a8, .l a9, .l a10, .l a11, .i a12, .l a13, .l a14, .i a15, .i a16, .i a17, .i a18, .i a19, .i a20, .i a21, .i a22, .i a23, .i a24, .i a25, .i a26, .i a27, .i a28, .i a29, .i a30, .i a31, .i a32, .i ((g y1 1).int), .i ((g y1 2).int), .i ((g y1 3).int), .i ((g y1 4).int), .l ((g y1 5).list), .l ((g y1 6).list), .l ((g y1 7).list), .i ((g y1 8).int), .l ((g y1 9).list), .l ((g y1 10).list), .i ((g y1 11).int), .i ((g y1 12).int), .i ((g y1 13).int), .i (IntKind.i64.wrap (a46 + 1)), .l a47, .l a48, .l a49, .l a50, .l a51, .l a52, .l a53, .l a54, .l a55, .l a56, .l a57]))))) (
 (Lqbk none [.i a31, .i a32, .l a55, .l a56, .i a33, .i a34, .i a35, .i a36, .l a37, .l a38, .l a39, .i a40, .l a41, .l a42, .i a43, .i a44, .i a45]).bind fun y4 =>
 some [.i a30, .i ((g y4 0).int), .i ((g y4 1).int), .i ((g y4 2).int), .i ((g y4 3).int), .i ((g y4 4).int), .i ((g y4 5).int), .i ((g y4 6).int), .i ((g y4 7).int), .i ((g y4 8).int), .i ((g y4 9).int), .i a46, .l ((g y4 10).list), .l ((g y4 11).list), .l ((g y4 12).list), .l ((g y4 13).list), .l ((g y4 14).list), .l ((g y4 15).list), .l ((g y4 16).list), .l a57]) := (Lim_eq _ _).trans (by kernel_rfl)
theorem kqbx : SigOk Tryz.prog (dqbx.sig (Lqbx none)) ∧ (dqbx.sig (Lqbx none)).ok = true := sound_lim (known_cons kqbe (by kernel_rfl) (known_cons kqv (by kernel_rfl) (known_cons kqbj (by kernel_rfl) (known_cons kqbk (by kernel_rfl) (known_cons kqbf (by kernel_rfl) known_nil))))) (by kernel_rfl) (by kernel_rfl) (by kernel_rfl)
def dqc4 : FD := { fn := 230, nb := 0, pre := ⟨[.ag [.fz 9 false 0, .fz 9 false 1]], []⟩, post := ⟨[.ag [.ow 0, .ow 1]], [.rw 9 true 0, .rw 9 true 1]⟩, sh := false, cuts := [] }
noncomputable def Lqc4 : Option Nat → Lv → Option Lv := Lim Tryz.prog [dqo.sig (Lqo none)] dqc4 Tryz.f230
theorem eqc4_i (a0 : Rw) (a1 : Rw) : Lqc4 none [.l a0, .l a1] =
 (Lqo none [.l a0, .l a1]).bind fun y1 =>
 cond (!(g y1 0).bool) (
 some [.l [], .l []]) (
 cond (decide (([] : Rw).length + a0.length ≤ most)) (
 cond (decide ((([] : Rw) ++ a0).length + a1.length ≤ most)) (
 some [.l ((([] : Rw) ++ a0) ++ a1), .l []]) (
 none)) (
 none)) := (Lim_eq _ _).trans (by kernel_rfl)
theorem kqc4 : SigOk Tryz.prog (dqc4.sig (Lqc4 none)) ∧ (dqc4.sig (Lqc4 none)).ok = true := sound_lim (known_cons kqo (by kernel_rfl) known_nil) (by kernel_rfl) (by kernel_rfl) (by kernel_rfl)
def dqc5 : FD := { fn := 218, nb := 0, pre := ⟨[.ag [.i .i64 0, .i .i64 1, .fz 9 false 2, .fz 9 false 3, .i .i64 4, .i .i64 5, .i .i64 6, .i .i64 7, .fz 90 false 8, .fz 156 false 9, .fz 158 false 10, .i .i64 11, .fz 9 false 12, .fz 9 false 13, .i .i64 14, .i .i64 15, .i .i64 16]], []⟩, post := ⟨[.ag [.i .i64 0, .i .i64 1, .ow 0, .ow 1, .i .i64 2, .i .i64 3, .i .i64 4, .i .i64 5, .ow 2, .ow 3, .ow 4, .i .i64 6, .ow 5, .ow 6, .i .i64 7, .i .i64 8, .i .i64 9]], [.rw 9 true 10, .rw 9 true 11, .rw 90 true 12, .rw 156 true 13, .rw 158 true 14, .rw 9 true 15, .rw 9 true 16]⟩, sh := false, cuts := [] }
noncomputable def Lqc5 : Option Nat → Lv → Option Lv := Lim Tryz.prog [dqbj.sig (Lqbj none), dqbk.sig (Lqbk none), dqc4.sig (Lqc4 none)] dqc5 Tryz.f218
theorem eqc5_i (a0 : Int) (a1 : Int) (a2 : Rw) (a3 : Rw) (a4 : Int) (a5 : Int) (a6 : Int) (a7 : Int) (a8 : Rw) (a9 : Rw) (a10 : Rw) (a11 : Int) (a12 : Rw) (a13 : Rw) (a14 : Int) (a15 : Int) (a16 : Int) : Lqc5 none [.i a0, .i a1, .l a2, .l a3, .i a4, .i a5, .i a6, .i a7, .l a8, .l a9, .l a10, .i a11, .l a12, .l a13, .i a14, .i a15, .i a16] =
 (Lqbj none [.i a0, .i a1, .l a2, .l a3, .i a4, .i a5, .i a6, .i a7, .l a8, .l a9, .l a10, .i a11, .l a12, .l a13, .i a14, .i a15, .i a16]).bind fun y1 =>
 cond (!(g y1 0).bool) (
 some [.i 0, .i 0, .i 0, .i 0, .i 0, .i 0, .i 0, .i 0, .i 0, .i 0, .l [], .l [], .l [], .l [], .l [], .l [], .l []]) (
 (Lqbk none [.i a0, .i a1, .l a2, .l a3, .i a4, .i a5, .i a6, .i a7, .l a8, .l a9, .l a10, .i a11, .l a12, .l a13, .i a14, .i a15, .i a16]).bind fun y2 =>
 (Lqc4 none [.l a2, .l a3]).bind fun y3 =>
 some [.i ((g y2 0).int), .i ((g y2 1).int), .i ((g y2 2).int), .i ((g y2 3).int), .i ((g y2 4).int), .i ((g y2 5).int), .i ((g y2 6).int), .i ((g y2 7).int), .i ((g y2 8).int), .i ((g y2 9).int), .l ((g y3 0).list), .l ((g y3 1).list), .l ((g y2 12).list), .l ((g y2 13).list), .l ((g y2 14).list), .l ((g y2 15).list), .l ((g y2 16).list)]) := (Lim_eq _ _).trans (by kernel_rfl)
theorem kqc5 : SigOk Tryz.prog (dqc5.sig (Lqc5 none)) ∧ (dqc5.sig (Lqc5 none)).ok = true := sound_lim (known_cons kqbj (by kernel_rfl) (known_cons kqbk (by kernel_rfl) (known_cons kqc4 (by kernel_rfl) known_nil))) (by kernel_rfl) (by kernel_rfl) (by kernel_rfl)
def dqc6 : FD := { fn := 231, nb := 0, pre := ⟨[.ag [.fz 9 false 0, .fz 9 false 1], .sc (.i .i64 2)], []⟩, post := ⟨[.ag [.ow 0, .fz 9 true 0]], [.rw 9 true 1]⟩, sh := false, cuts := [] }
noncomputable def Lqc6 : Option Nat → Lv → Option Lv := Lim Tryz.prog [dqo.sig (Lqo none)] dqc6 Tryz.f231
theorem eqc6_i (a0 : Rw) (a1 : Rw) (a2 : Int) : Lqc6 none [.l a0, .l a1, .i a2] =
 (Lqo none [.l a0, .l a1]).bind fun y1 =>
 cond (!(g y1 0).bool) (
 some [.l ([]), .l []]) (
 cond (decide (a2 < 0)) (
 cond (decide ((a1.length : Int) < 0)) (
 cond (decide (([] : Rw).length + a0.length ≤ most)) (
 cond (decide (0 ≤ (a1.length : Int))) (
 cond (decide ((a1.length : Int) ≤ (a1.length : Int))) (
 cond (decide ((([] : Rw) ++ a0).length + (Eng.sub a1 0 ((a1.length : Int).toNat)).length ≤ most)) (
 some [.l ([]), .l ((([] : Rw) ++ a0) ++ (Eng.sub a1 0 ((a1.length : Int).toNat)))]) (
 none)) (
 none)) (
 none)) (
 none)) (
 cond (decide (([] : Rw).length + a0.length ≤ most)) (
 cond (decide (0 ≤ (a1.length : Int))) (
 cond (decide ((([] : Rw) ++ a0).length + (Eng.sub a1 0 0).length ≤ most)) (
 some [.l ([]), .l ((([] : Rw) ++ a0) ++ (Eng.sub a1 0 0))]) (
 none)) (
 none)) (
 none))) (
 cond (decide ((a1.length : Int) < a2)) (
 cond (decide (([] : Rw).length + a0.length ≤ most)) (
 cond (decide (0 ≤ (a1.length : Int))) (
 cond (decide ((a1.length : Int) ≤ (a1.length : Int))) (
 cond (decide ((([] : Rw) ++ a0).length + (Eng.sub a1 0 ((a1.length : Int).toNat)).length ≤ most)) (
 some [.l ([]), .l ((([] : Rw) ++ a0) ++ (Eng.sub a1 0 ((a1.length : Int).toNat)))]) (
 none)) (
 none)) (
 none)) (
 none)) (
 cond (decide (([] : Rw).length + a0.length ≤ most)) (
 cond (decide (0 ≤ a2)) (
 cond (decide (a2 ≤ (a1.length : Int))) (
 cond (decide ((([] : Rw) ++ a0).length + (Eng.sub a1 0 a2.toNat).length ≤ most)) (
 some [.l ([]), .l ((([] : Rw) ++ a0) ++ (Eng.sub a1 0 a2.toNat))]) (
 none)) (
 none)) (
 none)) (
 none)))) := (Lim_eq _ _).trans (by kernel_rfl)
theorem kqc6 : SigOk Tryz.prog (dqc6.sig (Lqc6 none)) ∧ (dqc6.sig (Lqc6 none)).ok = true := sound_lim (known_cons kqo (by kernel_rfl) known_nil) (by kernel_rfl) (by kernel_rfl) (by kernel_rfl)
def dqcu : FD := { fn := 219, nb := 0, pre := ⟨[.ag [.i .i64 0, .i .i64 1, .fz 9 false 2, .fz 9 false 3, .i .i64 4, .i .i64 5, .i .i64 6, .i .i64 7, .fz 90 false 8, .fz 156 false 9, .fz 158 false 10, .i .i64 11, .fz 9 false 12, .fz 9 false 13, .i .i64 14, .i .i64 15, .i .i64 16], .sc (.i .i64 17)], []⟩, post := ⟨[.ag [.i .i64 0, .i .i64 1, .ow 0, .ow 1, .i .i64 2, .i .i64 3, .i .i64 4, .i .i64 5, .ow 2, .ow 3, .ow 4, .i .i64 6, .fz 9 true 7, .fz 9 true 8, .i .i64 9, .i .i64 10, .i .i64 11]], [.rw 9 true 12, .rw 9 true 13, .rw 90 true 14, .rw 156 true 15, .rw 158 true 16]⟩, sh := false, cuts := [] }
noncomputable def Lqcu : Option Nat → Lv → Option Lv := Lim Tryz.prog [dqbj.sig (Lqbj none), dqcb.sig (Lqcb none), dqc6.sig (Lqc6 none)] dqcu Tryz.f219
theorem eqcu_i (a0 : Int) (a1 : Int) (a2 : Rw) (a3 : Rw) (a4 : Int) (a5 : Int) (a6 : Int) (a7 : Int) (a8 : Rw) (a9 : Rw) (a10 : Rw) (a11 : Int) (a12 : Rw) (a13 : Rw) (a14 : Int) (a15 : Int) (a16 : Int) (a17 : Int) : Lqcu none [.i a0, .i a1, .l a2, .l a3, .i a4, .i a5, .i a6, .i a7, .l a8, .l a9, .l a10, .i a11, .l a12, .l a13, .i a14, .i a15, .i a16, .i a17] =
 (Lqbj none [.i a0, .i a1, .l a2, .l a3, .i a4, .i a5, .i a6, .i a7, .l a8, .l a9, .l a10, .i a11, .l a12, .l a13, .i a14, .i a15, .i a16]).bind fun y1 =>
 cond (!(g y1 0).bool) (
 some [.i 0, .i 0, .i 0, .i 0, .i 0, .i 0, .i 0, .l ([]), .l ([]), .i 0, .i 0, .i 0, .l [], .l [], .l [], .l [], .l []]) (
 (Lqc6 none [.l a2, .l a3, .i a17]).bind fun y2 =>
 (Lqcb none [.i a0, .i a1, .l ((g y2 1).list), .l ((g y2 0).list)]).bind fun y3 =>
 some [.i ((g y3 0).int), .i ((g y3 1).int), .i ((g y3 2).int), .i ((g y3 3).int), .i ((g y3 4).int), .i ((g y3 5).int), .i ((g y3 6).int), .l ((g y3 7).list), .l ((g y3 8).list), .i ((g y3 9).int), .i ((g y3 10).int), .i ((g y3 11).int), .l ((g y3 13).list), .l ((g y3 14).list), .l ((g y3 15).list), .l ((g y3 16).list), .l ((g y3 17).list)]) := (Lim_eq _ _).trans (by kernel_rfl)
theorem kqcu : SigOk Tryz.prog (dqcu.sig (Lqcu none)) ∧ (dqcu.sig (Lqcu none)).ok = true := sound_lim (known_cons kqbj (by kernel_rfl) (known_cons kqcb (by kernel_rfl) (known_cons kqc6 (by kernel_rfl) known_nil))) (by kernel_rfl) (by kernel_rfl) (by kernel_rfl)
def dqbb : FD := { fn := 175, nb := 0, pre := ⟨[.ag [.i .i64 0, .i .i64 1, .fz 9 false 2, .ow 0, .i .i64 3, .i .i64 4, .i .i64 5, .i .i64 6, .fz 90 false 7, .ow 1, .ow 2, .i .i64 8, .fz 9 false 9, .fz 9 false 10, .i .i64 11, .i .i64 12, .i .i64 13], .ag [.i .i64 14, .s 15, .i .i64 16, .s 17, .i .i64 18, .i .i64 19]], [.rw 9 false 20, .rw 156 false 21, .rw 158 false 22]⟩, post := ⟨[.ag [.i .i64 0, .i .i64 1, .fz 9 false 2, .ow 0, .i .i64 3, .i .i64 4, .i .i64 5, .i .i64 6, .fz 90 false 7, .ow 1, .ow 2, .i .i64 8, .fz 9 false 9, .fz 9 false 10, .i .i64 11, .i .i64 12, .i .i64 13]], [.rw 9 false 14, .rw 156 false 15, .rw 158 false 16]⟩, sh := true, cuts := [⟨21, [2, 4, 5], ⟨[.sc (.pt 0 0), .sc (.pt 1 0), .sc (.pt 2 0)], [.bx [.i .i64 0, .i .i64 1, .fz 9 false 2, .ow 3, .i .i64 3, .i .i64 4, .i .i64 5, .i .i64 6, .fz 90 false 7, .ow 4, .ow 5, .i .i64 8, .fz 9 false 9, .fz 9 false 10, .i .i64 11, .i .i64 12, .i .i64 13], .bx [.i .i64 14, .i .i64 15, .ow 13, .ow 14, .i .i64 16, .i .i64 17, .i .i64 18, .i .i64 19, .ow 15, .ow 16, .ow 17, .i .i64 20, .ow 18, .ow 19, .i .i64 21, .i .i64 22, .i .i64 23], .bx [.i .i64 24, .i .i64 25, .i .i64 26, .ow 6, .ow 7, .i .i64 27, .i .i64 28, .i .i64 29, .i .i64 30, .ow 8, .ow 9, .ow 10, .i .i64 31, .ow 11, .ow 12, .i .i64 32, .i .i64 33, .i .i64 34, .s 35, .i .i64 36, .s 37, .s 38], .rw 9 false 39, .rw 156 false 40, .rw 158 false 41, .rw 9 true 42, .rw 9 true 43, .rw 90 true 44, .rw 156 true 45, .rw 158 true 46, .rw 9 true 47, .rw 9 true 48, .rw 9 true 49, .rw 9 true 50, .rw 90 true 51, .rw 156 true 52, .rw 158 true 53, .rw 9 true 54, .rw 9 true 55]⟩⟩] }
noncomputable def Lqbb : Option Nat → Lv → Option Lv := Lim Tryz.prog [dqbu.sig (Lqbu none), dqck.sig (Lqck none), dqcm.sig (Lqcm none), dqco.sig (Lqco none), dqcp.sig (Lqcp none), dqcq.sig (Lqcq none), dqcr.sig (Lqcr none), dqcs.sig (Lqcs none), dqct.sig (Lqct none), dqbx.sig (Lqbx none), dqc5.sig (Lqc5 none), dqcu.sig (Lqcu none)] dqbb Tryz.f175
theorem eqbb_i (a0 : Int) (a1 : Int) (a2 : Rw) (a3 : Int) (a4 : Int) (a5 : Int) (a6 : Int) (a7 : Rw) (a8 : Int) (a9 : Rw) (a10 : Rw) (a11 : Int) (a12 : Int) (a13 : Int) (a14 : Int) (a15 : ByteArray) (a16 : Int) (a17 : ByteArray) (a18 : Int) (a19 : Int) (a20 : Rw) (a21 : Rw) (a22 : Rw) : Lqbb none [.i a0, .i a1, .l a2, .i a3, .i a4, .i a5, .i a6, .l a7, .i a8, .l a9, .l a10, .i a11, .i a12, .i a13, .i a14, .s a15, .i a16, .s a17, .i a18, .i a19, .l a20, .l a21, .l a22] =
 cond (a14 == 1) (
 (Lqbu none [.i a14, .s a15, .i a16, .s a17, .i a18, .i a19, .i a3, .i a4, .i a5, .i a6, .l a7, .l a21, .l a22]).bind fun y1 =>
 (Lqco none [.i a0, .i a1, .l a2, .l a20, .i a3, .i a4, .i a5, .i a6, .l a7, .l a21, .l a22, .i a8, .l a9, .l a10, .i a11, .i a12, .i a13, .s ((g y1 0).str), .l ((g y1 1).list), .i a19]).bind fun y2 =>
 Lqbb (some 21) [.i a0, .i a1, .l a2, .i a3, .i a4, .i a5, .i a6, .l a7, .i a8, .l a9, .l a10, .i a11, .i a12, .i a13, .i 0, .i 0, .i 0, .i 0, .i 0, .i 0, .i 0, .i 0, .i 0, .i 0, .i ((g y2 0).int), .i ((g y2 1).int), .i ((g y2 2).int), .i ((g y2 3).int), .i ((g y2 4).int), .i ((g y2 5).int), .i ((g y2 6).int), .i ((g y2 7).int), .i ((g y2 8).int), .i ((g y2 9).int), .i ((g y2 10).int), .s ((g y2 11).str), .i ((g y2 12).int), .s ((g y2 13).str), .s ((g y2 14).str), .l a20, .l a21, .l a22, .l ((g y2 15).list), .l ((g y2 16).list), .l ((g y2 17).list), .l ((g y2 18).list), .l ((g y2 19).list), .l ((g y2 20).list), .l ((g y2 21).list), .l [], .l [], .l [], .l [], .l [], .l [], .l []]) (
 cond (a14 == 2) (
 (Lqck none [.i a14, .s a15, .i a16, .s a17, .i a18, .i a19, .i a3, .i a4, .i a5, .i a6, .l a7, .l a21, .l a22]).bind fun y3 =>
 (Lqcp none [.i a0, .i a1, .l a2, .l a20, .i a3, .i a4, .i a5, .i a6, .l a7, .l a21, .l a22, .i a8, .l a9, .l a10, .i a11, .i a12, .i a13, .s a17, .s ((g y3 0).str)]).bind fun y4 =>
 Lqbb (some 21) [.i a0, .i a1, .l a2, .i a3, .i a4, .i a5, .i a6, .l a7, .i a8, .l a9, .l a10, .i a11, .i a12, .i a13, .i 0, .i 0, .i 0, .i 0, .i 0, .i 0, .i 0, .i 0, .i 0, .i 0, .i ((g y4 0).int), .i ((g y4 1).int), .i ((g y4 2).int), .i ((g y4 3).int), .i ((g y4 4).int), .i ((g y4 5).int), .i ((g y4 6).int), .i ((g y4 7).int), .i ((g y4 8).int), .i ((g y4 9).int), .i ((g y4 10).int), .s ((g y4 11).str), .i ((g y4 12).int), .s ((g y4 13).str), .s ((g y4 14).str), .l a20, .l a21, .l a22, .l ((g y4 15).list), .l ((g y4 16).list), .l ((g y4 17).list), .l ((g y4 18).list), .l ((g y4 19).list), .l ((g y4 20).list), .l ((g y4 21).list), .l [], .l [], .l [], .l [], .l [], .l [], .l []]) (
 cond (a14 == 3) (
 (Lqcq none [.i a0, .i a1, .l a2, .l a20, .i a3, .i a4, .i a5, .i a6, .l a7, .l a21, .l a22, .i a8, .l a9, .l a10, .i a11, .i a12, .i a13, .s a17]).bind fun y5 =>
 Lqbb (some 21) [.i a0, .i a1, .l a2, .i a3, .i a4, .i a5, .i a6, .l a7, .i a8, .l a9, .l a10, .i a11, .i a12, .i a13, .i 0, .i 0, .i 0, .i 0, .i 0, .i 0, .i 0, .i 0, .i 0, .i 0, .i ((g y5 0).int), .i ((g y5 1).int), .i ((g y5 2).int), .i ((g y5 3).int), .i ((g y5 4).int), .i ((g y5 5).int), .i ((g y5 6).int), .i ((g y5 7).int), .i ((g y5 8).int), .i ((g y5 9).int), .i ((g y5 10).int), .s ((g y5 11).str), .i ((g y5 12).int), .s ((g y5 13).str), .s ((g y5 14).str), .l a20, .l a21, .l a22, .l ((g y5 15).list), .l ((g y5 16).list), .l ((g y5 17).list), .l ((g y5 18).list), .l ((g y5 19).list), .l ((g y5 20).list), .l ((g y5 21).list), .l [], .l [], .l [], .l [], .l [], .l [], .l []]) (
 cond (a14 == 4) (
 (Lqck none [.i a14, .s a15, .i a16, .s a17, .i a18, .i a19, .i a3, .i a4, .i a5, .i a6, .l a7, .l a21, .l a22]).bind fun y6 =>
 (Lqcr none [.i a0, .i a1, .l a2, .l a20, .i a3, .i a4, .i a5, .i a6, .l a7, .l a21, .l a22, .i a8, .l a9, .l a10, .i a11, .i a12, .i a13, .s ((g y6 0).str), .i a19]).bind fun y7 =>
 Lqbb (some 21) [.i a0, .i a1, .l a2, .i a3, .i a4, .i a5, .i a6, .l a7, .i a8, .l a9, .l a10, .i a11, .i a12, .i a13, .i 0, .i 0, .i 0, .i 0, .i 0, .i 0, .i 0, .i 0, .i 0, .i 0, .i ((g y7 0).int), .i ((g y7 1).int), .i ((g y7 2).int), .i ((g y7 3).int), .i ((g y7 4).int), .i ((g y7 5).int), .i ((g y7 6).int), .i ((g y7 7).int), .i ((g y7 8).int), .i ((g y7 9).int), .i ((g y7 10).int), .s ((g y7 11).str), .i ((g y7 12).int), .s ((g y7 13).str), .s ((g y7 14).str), .l a20, .l a21, .l a22, .l ((g y7 15).list), .l ((g y7 16).list), .l ((g y7 17).list), .l ((g y7 18).list), .l ((g y7 19).list), .l ((g y7 20).list), .l ((g y7 21).list), .l [], .l [], .l [], .l [], .l [], .l [], .l []]) (
 cond (a14 == 5) (
 (Lqcm none [.i a14, .s a15, .i a16, .s a17, .i a18, .i a19, .i a3, .i a4, .i a5, .i a6, .l a7, .l a21, .l a22]).bind fun y8 =>
 (Lqcs none [.i a0, .i a1, .l a2, .l a20, .i a3, .i a4, .i a5, .i a6, .l a7, .l a21, .l a22, .i a8, .l a9, .l a10, .i a11, .i a12, .i a13, .i ((g y8 0).int)]).bind fun y9 =>
 Lqbb (some 21) [.i a0, .i a1, .l a2, .i a3, .i a4, .i a5, .i a6, .l a7, .i a8, .l a9, .l a10, .i a11, .i a12, .i a13, .i 0, .i 0, .i 0, .i 0, .i 0, .i 0, .i 0, .i 0, .i 0, .i 0, .i ((g y9 0).int), .i ((g y9 1).int), .i ((g y9 2).int), .i ((g y9 3).int), .i ((g y9 4).int), .i ((g y9 5).int), .i ((g y9 6).int), .i ((g y9 7).int), .i ((g y9 8).int), .i ((g y9 9).int), .i ((g y9 10).int), .s ((g y9 11).str), .i ((g y9 12).int), .s ((g y9 13).str), .s ((g y9 14).str), .l a20, .l a21, .l a22, .l ((g y9 15).list), .l ((g y9 16).list), .l ((g y9 17).list), .l ((g y9 18).list), .l ((g y9 19).list), .l ((g y9 20).list), .l ((g y9 21).list), .l [], .l [], .l [], .l [], .l [], .l [], .l []]) (
 cond (a14 == 6) (
 (Lqct none [.i a0, .i a1, .l a2, .l a20, .i a3, .i a4, .i a5, .i a6, .l a7, .l a21, .l a22, .i a8, .l a9, .l a10, .i a11, .i a12, .i a13, .i a19]).bind fun y10 =>
 Lqbb (some 21) [.i a0, .i a1, .l a2, .i a3, .i a4, .i a5, .i a6, .l a7, .i a8, .l a9, .l a10, .i a11, .i a12, .i a13, .i 0, .i 0, .i 0, .i 0, .i 0, .i 0, .i 0, .i 0, .i 0, .i 0, .i ((g y10 0).int), .i ((g y10 1).int), .i ((g y10 2).int), .i ((g y10 3).int), .i ((g y10 4).int), .i ((g y10 5).int), .i ((g y10 6).int), .i ((g y10 7).int), .i ((g y10 8).int), .i ((g y10 9).int), .i ((g y10 10).int), .s ((g y10 11).str), .i ((g y10 12).int), .s ((g y10 13).str), .s ((g y10 14).str), .l a20, .l a21, .l a22, .l ((g y10 15).list), .l ((g y10 16).list), .l ((g y10 17).list), .l ((g y10 18).list), .l ((g y10 19).list), .l ((g y10 20).list), .l ((g y10 21).list), .l [], .l [], .l [], .l [], .l [], .l [], .l []]) (
 cond (a14 == 8) (
 (Lqc5 none [.i a0, .i a1, .l a2, .l a20, .i a3, .i a4, .i a5, .i a6, .l a7, .l a21, .l a22, .i a8, .l a9, .l a10, .i a11, .i a12, .i a13]).bind fun y11 =>
 some [.i ((g y11 0).int), .i ((g y11 1).int), .l ((g y11 10).list), .i ((g y11 2).int), .i ((g y11 3).int), .i ((g y11 4).int), .i ((g y11 5).int), .l ((g y11 12).list), .i ((g y11 6).int), .l ((g y11 15).list), .l ((g y11 16).list), .i ((g y11 7).int), .i ((g y11 8).int), .i ((g y11 9).int), .l ((g y11 11).list), .l ((g y11 13).list), .l ((g y11 14).list)]) (
 cond (a14 == 9) (
 (Lqcu none [.i a0, .i a1, .l a2, .l a20, .i a3, .i a4, .i a5, .i a6, .l a7, .l a21, .l a22, .i a8, .l a9, .l a10, .i a11, .i a12, .i a13, .i (a18.tmod 6)]).bind fun y12 =>
 some [.i ((g y12 0).int), .i ((g y12 1).int), .l ((g y12 12).list), .i ((g y12 2).int), .i ((g y12 3).int), .i ((g y12 4).int), .i ((g y12 5).int), .l ((g y12 14).list), .i ((g y12 6).int), .l ((g y12 7).list), .l ((g y12 8).list), .i ((g y12 9).int), .i ((g y12 10).int), .i ((g y12 11).int), .l ((g y12 13).list), .l ((g y12 15).list), .l ((g y12 16).list)]) (
 cond (a14 == 10) (
 (Lqbx none [.i a0, .i a1, .l a2, .l a20, .i a3, .i a4, .i a5, .i a6, .l a7, .l a21, .l a22, .i a8, .l a9, .l a10, .i a11, .i a12, .i a13, .i a18]).bind fun y13 =>
 some [.i ((g y13 1).int), .i ((g y13 2).int), .l ((g y13 12).list), .i ((g y13 3).int), .i ((g y13 4).int), .i ((g y13 5).int), .i ((g y13 6).int), .l ((g y13 14).list), .i ((g y13 7).int), .l ((g y13 17).list), .l ((g y13 18).list), .i ((g y13 8).int), .i ((g y13 9).int), .i ((g y13 10).int), .l ((g y13 13).list), .l ((g y13 15).list), .l ((g y13 16).list)]) (
 Lqbb (some 21) [.i a0, .i a1, .l a2, .i a3, .i a4, .i a5, .i a6, .l a7, .i a8, .l a9, .l a10, .i a11, .i a12, .i a13, .i 0, .i 0, .i 0, .i 0, .i 0, .i 0, .i 0, .i 0, .i 0, .i 0, .i 1, .i 0, .i 0, .i 0, .i 0, .i 0, .i 0, .i 0, .i 0, .i 0, .i 0, .s (⟨#[]⟩ : ByteArray), .i 0, .s (⟨#[]⟩ : ByteArray), .s (⟨#[]⟩ : ByteArray), .l a20, .l a21, .l a22, .l [], .l [], .l [], .l [], .l [], .l [], .l [], .l [], .l [], .l [], .l [], .l [], .l [], .l []]))))))))) := (Lim_eq _ _).trans (by kernel_rfl)
theorem eqbb_21 (a0 : Int) (a1 : Int) (a2 : Rw) (a3 : Int) (a4 : Int) (a5 : Int) (a6 : Int) (a7 : Rw) (a8 : Int) (a9 : Rw) (a10 : Rw) (a11 : Int) (a12 : Int) (a13 : Int) (a14 : Int) (a15 : Int) (a16 : Int) (a17 : Int) (a18 : Int) (a19 : Int) (a20 : Int) (a21 : Int) (a22 : Int) (a23 : Int) (a24 : Int) (a25 : Int) (a26 : Int) (a27 : Int) (a28 : Int) (a29 : Int) (a30 : Int) (a31 : Int) (a32 : Int) (a33 : Int) (a34 : Int) (a35 : ByteArray) (a36 : Int) (a37 : ByteArray) (a38 : ByteArray) (a39 : Rw) (a40 : Rw) (a41 : Rw) (a42 : Rw) (a43 : Rw) (a44 : Rw) (a45 : Rw) (a46 : Rw) (a47 : Rw) (a48 : Rw) (a49 : Rw) (a50 : Rw) (a51 : Rw) (a52 : Rw) (a53 : Rw) (a54 : Rw) (a55 : Rw) : Lqbb (some 21) [.i a0, .i a1, .l a2, .i a3, .i a4, .i a5, .i a6, .l a7, .i a8, .l a9, .l a10, .i a11, .i a12, .i a13, .i a14, .i a15, .i a16, .i a17, .i a18, .i a19, .i a20, .i a21, .i a22, .i a23, .i a24, .i a25, .i a26, .i a27, .i a28, .i a29, .i a30, .i a31, .i a32, .i a33, .i a34, .s a35, .i a36, .s a37, .s a38, .l a39, .l a40, .l a41, .l a42, .l a43, .l a44, .l a45, .l a46, .l a47, .l a48, .l a49, .l a50, .l a51, .l a52, .l a53, .l a54, .l a55] =
 cond (a24 == 0) (
 some [.i a25, .i a26, .l a42, .i a27, .i a28, .i a29, .i a30, .l a44, .i a31, .l a47, .l a48, .i a32, .i a33, .i a34, .l a43, .l a45, .l a46]) (
 some [.i a0, .i a1, .l a2, .i a3, .i a4, .i a5, .i a6, .l a7, .i a8, .l a9, .l a10, .i a11, .i a12, .i a13, .l a39, .l a40, .l a41]) := (Lim_eq _ _).trans (by kernel_rfl)
theorem kqbb : SigOk Tryz.prog (dqbb.sig (Lqbb none)) ∧ (dqbb.sig (Lqbb none)).ok = true := sound_lim (known_cons kqbu (by kernel_rfl) (known_cons kqck (by kernel_rfl) (known_cons kqcm (by kernel_rfl) (known_cons kqco (by kernel_rfl) (known_cons kqcp (by kernel_rfl) (known_cons kqcq (by kernel_rfl) (known_cons kqcr (by kernel_rfl) (known_cons kqcs (by kernel_rfl) (known_cons kqct (by kernel_rfl) (known_cons kqbx (by kernel_rfl) (known_cons kqc5 (by kernel_rfl) (known_cons kqcu (by kernel_rfl) known_nil)))))))))))) (by kernel_rfl) (by kernel_rfl) (by kernel_rfl)
def dqbc : FD := { fn := 109, nb := 1, pre := ⟨[.sc (.pt 0 0)], [.bx [.fz 5 false 0, .i .i64 1]]⟩, post := ⟨[.ag [.i .i64 0, .i .i64 1, .fz 9 true 2, .ow 1, .i .i64 3, .i .i64 4, .i .i64 5, .i .i64 6, .fz 90 true 7, .ow 2, .ow 3, .i .i64 8, .fz 9 true 9, .fz 9 true 10, .i .i64 11, .i .i64 12, .i .i64 13]], [.bx [.fz 5 false 14, .i .i64 15], .rw 9 true 16, .rw 156 true 17, .rw 158 true 18]⟩, sh := true, cuts := [⟨8, [0, 2, 4, 6], ⟨[.sc (.pt 0 0), .sc (.pt 1 0), .sc (.pt 2 0), .sc (.i .i64 0)], [.bx [.fz 5 false 1, .i .i64 2], .bx [.i .i64 3, .i .i64 4, .ow 3, .ow 4, .i .i64 5, .i .i64 6, .i .i64 7, .i .i64 8, .ow 5, .ow 6, .ow 7, .i .i64 9, .ow 8, .ow 9, .i .i64 10, .i .i64 11, .i .i64 12], .bx [.i .i64 13, .i .i64 14, .fz 9 true 15, .ow 10, .i .i64 16, .i .i64 17, .i .i64 18, .i .i64 19, .fz 90 true 20, .ow 11, .ow 12, .i .i64 21, .fz 9 true 22, .fz 9 true 23, .i .i64 24, .i .i64 25, .i .i64 26], .rw 9 true 27, .rw 9 true 28, .rw 90 true 29, .rw 156 true 30, .rw 158 true 31, .rw 9 true 32, .rw 9 true 33, .rw 9 true 34, .rw 156 true 35, .rw 158 true 36]⟩⟩] }
noncomputable def Lqbc : Option Nat → Lv → Option Lv := Lim Tryz.prog [dqd.sig (Lqd none), dqcl.sig (Lqcl none), dqc2.sig (Lqc2 none), dqcb.sig (Lqcb none), dqbb.sig (Lqbb none)] dqbc Tryz.f109
theorem eqbc_i (a0 : Rw) (a1 : Int) : Lqbc none [.l a0, .i a1] =
 (Lqd none [.i 6, .l a0, .i a1]).bind fun y1 =>
 cond ((g y1 0).int == 0) (
 (Lqd none [.i 60, .l ((g y1 1).list), .i ((g y1 2).int)]).bind fun y2 =>
 (Lqcl none [.l ((g y2 1).list), .i ((g y2 2).int)]).bind fun y3 =>
 (Lqcb none [.i ((g y3 0).int), .i (IntKind.i64.wrap (20 + (g y2 0).int)), .l ([]), .l ([])]).bind fun y4 =>
 (Lqd none [.i 14, .l ((g y3 1).list), .i ((g y3 2).int)]).bind fun y5 =>
 (Lqd none [.i 6, .l ((g y5 1).list), .i ((g y5 2).int)]).bind fun y6 =>
 cond ((g y6 0).int == 0) (
 Lqbc (some 8) [.i (IntKind.i64.wrap ((g y5 0).int + 12)), .l ((g y6 1).list), .i ((g y6 2).int), .i 0, .i 0, .i 0, .i 0, .i 0, .i 0, .i 0, .i 0, .i 0, .i 0, .i ((g y4 0).int), .i ((g y4 1).int), .l ((g y4 13).list), .i ((g y4 2).int), .i ((g y4 3).int), .i ((g y4 4).int), .i ((g y4 5).int), .l ((g y4 15).list), .i ((g y4 6).int), .l ((g y4 7).list), .l ((g y4 8).list), .i ((g y4 9).int), .i ((g y4 10).int), .i ((g y4 11).int), .l [], .l [], .l [], .l [], .l [], .l [], .l [], .l ((g y4 14).list), .l ((g y4 16).list), .l ((g y4 17).list)]) (
 Lqbc (some 8) [.i ((g y5 0).int), .l ((g y6 1).list), .i ((g y6 2).int), .i 0, .i 0, .i 0, .i 0, .i 0, .i 0, .i 0, .i 0, .i 0, .i 0, .i ((g y4 0).int), .i ((g y4 1).int), .l ((g y4 13).list), .i ((g y4 2).int), .i ((g y4 3).int), .i ((g y4 4).int), .i ((g y4 5).int), .l ((g y4 15).list), .i ((g y4 6).int), .l ((g y4 7).list), .l ((g y4 8).list), .i ((g y4 9).int), .i ((g y4 10).int), .i ((g y4 11).int), .l [], .l [], .l [], .l [], .l [], .l [], .l [], .l ((g y4 14).list), .l ((g y4 16).list), .l ((g y4 17).list)])) (
 (Lqcl none [.l ((g y1 1).list), .i ((g y1 2).int)]).bind fun y7 =>
 (Lqcb none [.i ((g y7 0).int), .i 1000000, .l ([]), .l ([])]).bind fun y8 =>
 (Lqd none [.i 14, .l ((g y7 1).list), .i ((g y7 2).int)]).bind fun y9 =>
 (Lqd none [.i 6, .l ((g y9 1).list), .i ((g y9 2).int)]).bind fun y10 =>
 cond ((g y10 0).int == 0) (
 Lqbc (some 8) [.i (IntKind.i64.wrap ((g y9 0).int + 12)), .l ((g y10 1).list), .i ((g y10 2).int), .i 0, .i 0, .i 0, .i 0, .i 0, .i 0, .i 0, .i 0, .i 0, .i 0, .i ((g y8 0).int), .i ((g y8 1).int), .l ((g y8 13).list), .i ((g y8 2).int), .i ((g y8 3).int), .i ((g y8 4).int), .i ((g y8 5).int), .l ((g y8 15).list), .i ((g y8 6).int), .l ((g y8 7).list), .l ((g y8 8).list), .i ((g y8 9).int), .i ((g y8 10).int), .i ((g y8 11).int), .l [], .l [], .l [], .l [], .l [], .l [], .l [], .l ((g y8 14).list), .l ((g y8 16).list), .l ((g y8 17).list)]) (
 Lqbc (some 8) [.i ((g y9 0).int), .l ((g y10 1).list), .i ((g y10 2).int), .i 0, .i 0, .i 0, .i 0, .i 0, .i 0, .i 0, .i 0, .i 0, .i 0, .i ((g y8 0).int), .i ((g y8 1).int), .l ((g y8 13).list), .i ((g y8 2).int), .i ((g y8 3).int), .i ((g y8 4).int), .i ((g y8 5).int), .l ((g y8 15).list), .i ((g y8 6).int), .l ((g y8 7).list), .l ((g y8 8).list), .i ((g y8 9).int), .i ((g y8 10).int), .i ((g y8 11).int), .l [], .l [], .l [], .l [], .l [], .l [], .l [], .l ((g y8 14).list), .l ((g y8 16).list), .l ((g y8 17).list)])) := (Lim_eq _ _).trans (by kernel_rfl)
theorem eqbc_8 (a0 : Int) (a1 : Rw) (a2 : Int) (a3 : Int) (a4 : Int) (a5 : Int) (a6 : Int) (a7 : Int) (a8 : Int) (a9 : Int) (a10 : Int) (a11 : Int) (a12 : Int) (a13 : Int) (a14 : Int) (a15 : Rw) (a16 : Int) (a17 : Int) (a18 : Int) (a19 : Int) (a20 : Rw) (a21 : Int) (a22 : Rw) (a23 : Rw) (a24 : Int) (a25 : Int) (a26 : Int) (a27 : Rw) (a28 : Rw) (a29 : Rw) (a30 : Rw) (a31 : Rw) (a32 : Rw) (a33 : Rw) (a34 : Rw) (a35 : Rw) (a36 : Rw) : Lqbc (some 8) [.i a0, .l a1, .i a2, .i a3, .i a4, .i a5, .i a6, .i a7, .i a8, .i a9, .i a10, .i a11, .i a12, .i a13, .i a14, .l a15, .i a16, .i a17, .i a18, .i a19, .l a20, .i a21, .l a22, .l a23, .i a24, .i a25, .i a26, .l a27, .l a28, .l a29, .l a30, .l a31, .l a32, .l a33, .l a34, .l a35, .l a36] =
 cond (decide (0 < a0)) (
 (Lqc2 none [.l a1, .i a2]).bind fun y1 =>
 (Lqbb none [.i a13, .i a14, .l a15, .i a16, .i a17, .i a18, .i a19, .l a20, .i a21, .l a22, .l a23, .i a24, .i a25, .i a26, .i ((g y1 0).int), .s ((g y1 1).str), .i ((g y1 2).int), .s ((g y1 3).str), .i ((g y1 4).int), .i ((g y1 5).int), .l a34, .l a35, .l a36]).bind fun y2 =>
 Lqbc (some 8) [.i (IntKind.i64.wrap (a0 - 1)), .l ((g y1 6).list), .i ((g y1 7).int), .i a3, .i a4, .i a5, .i a6, .i a7, .i a8, .i a9, .i a10, .i a11, .i a12, .i ((g y2 0).int), .i ((g y2 1).int), .l ((g y2 2).list), .i ((g y2 3).int), .i ((g y2 4).int), .i ((g y2 5).int), .i ((g y2 6).int), .l ((g y2 7).list), .i ((g y2 8).int), .l ((g y2 9).list), .l ((g y2 10).list), .i ((g y2 11).int), .i ((g y2 12).int), .i ((g y2 13).int), .l a27, .l a28, .l a29, .l a30, .l a31, .l a32, .l a33, .l ((g y2 14).list), .l ((g y2 15).list), .l ((g y2 16).list)]) (
 some [.i a13, .i a14, .l a15, .i a16, .i a17, .i a18, .i a19, .l a20, .i a21, .l a22, .l a23, .i a24, .i a25, .i a26, .l a1, .i a2, .l a34, .l a35, .l a36]) := (Lim_eq _ _).trans (by kernel_rfl)
theorem kqbc : SigOk Tryz.prog (dqbc.sig (Lqbc none)) ∧ (dqbc.sig (Lqbc none)).ok = true := sound_lim (known_cons kqd (by kernel_rfl) (known_cons kqcl (by kernel_rfl) (known_cons kqc2 (by kernel_rfl) (known_cons kqcb (by kernel_rfl) (known_cons kqbb (by kernel_rfl) known_nil))))) (by kernel_rfl) (by kernel_rfl) (by kernel_rfl)
end KV
end
section
set_option maxRecDepth 100000
namespace KV
open Go Go.Eng Go.Proofs
def dqbg : FD := { fn := 223, nb := 0, pre := ⟨[.sc (.i .i64 0)], []⟩, post := ⟨[.sc (.s 0)], []⟩, sh := false, cuts := [] }
noncomputable def Rqbg (n : Nat) : Option Nat → Lv → Option Lv := Nat.rec (fun _ _ => none) (fun _ r => Lim Tryz.prog [dqbg.sig (r none)] dqbg Tryz.f223) n
theorem eqbg_i (m : Nat) (a0 : Int) : Rqbg (m + 1) none [.i a0] =
 cond (decide (a0 < 10)) (
 some [.s (bytesOf ([[.i (IntKind.u8.wrap (IntKind.i64.wrap (48 + a0)))]] : Rw))]) (
 (Rqbg m none [.i (IntKind.i64.wrap (a0.tdiv 10))]).bind fun y1 =>
 cond (decide (((g y1 0).str).size + (bytesOf ([[.i (IntKind.u8.wrap (IntKind.i64.wrap (48 + (a0.tmod 10))))]] : Rw)).size ≤ most)) (
 some [.s (((g y1 0).str) ++ (bytesOf ([[.i (IntKind.u8.wrap (IntKind.i64.wrap (48 + (a0.tmod 10))))]] : Rw)))]) (
 none)) := (Lim_eq _ _).trans (by kernel_rfl)
theorem kRqbg : ∀ n, SigOk Tryz.prog (dqbg.sig (Rqbg n none)) ∧ (dqbg.sig (Rqbg n none)).ok = true
 | 0 => ⟨(fun w args x y X0 h1 h2 h3 h4 h5 h6 => nomatch h6), by kernel_rfl⟩
 | n + 1 => sound_lim (known_cons (kRqbg n) (by kernel_rfl) known_nil) (by kernel_rfl) (by kernel_rfl) (by kernel_rfl)
noncomputable def Lqbg : Option Nat → Lv → Option Lv := Rqbg 20
theorem kqbg : SigOk Tryz.prog (dqbg.sig (Lqbg none)) ∧ (dqbg.sig (Lqbg none)).ok = true := kRqbg 20
def dq4 : FD := { fn := 196, nb := 0, pre := ⟨[.sc (.i .i64 0), .sc (.b 1)], []⟩, post := ⟨[.ag [.i .i64 0, .i .i64 1, .i .i64 2, .i .i64 3, .ow 0, .ow 1, .ow 2]], [.rw 90 true 4, .rw 156 true 5, .rw 158 true 6]⟩, sh := false, cuts := [⟨4, [0, 1, 4, 5, 6, 7], ⟨[.sc (.i .i64 0), .sc (.b 1), .sc (.pt 0 0), .sc (.pt 1 0), .sc (.s 2), .sc (.i .i64 3)], [.bx [.i .i64 4, .i .i64 5, .i .i64 6, .i .i64 7, .ow 2, .ow 3, .ow 4], .bx [.i .i64 8, .i .i64 9, .i .i64 10, .i .i64 11, .ow 5, .ow 6, .ow 7], .rw 90 true 12, .rw 156 true 13, .rw 158 true 14, .rw 90 true 15, .rw 156 true 16, .rw 158 true 17]⟩⟩, ⟨11, [0, 1, 4, 5, 6, 7, 8, 9], ⟨[.sc (.i .i64 0), .sc (.b 1), .sc (.pt 0 0), .sc (.pt 1 0), .sc (.s 2), .sc (.i .i64 3), .sc (.pt 2 0), .sc (.i .i64 4)], [.bx [.i .i64 5, .i .i64 6, .i .i64 7, .i .i64 8, .ow 3, .ow 4, .ow 5], .bx [.i .i64 9, .i .i64 10, .i .i64 11, .i .i64 12, .ow 6, .ow 7, .ow 8], .bx [.s 13, .ow 9], .rw 90 true 14, .rw 156 true 15, .rw 158 true 16, .rw 90 true 17, .rw 156 true 18, .rw 158 true 19, .rw 9 true 20]⟩⟩] }
noncomputable def Lq4 : Option Nat → Lv → Option Lv := Lim Tryz.prog [dqr.sig (Lqr none), dqk.sig (Lqk none), dqbg.sig (Lqbg none)] dq4 Tryz.f196
theorem eq4_i (a0 : Int) (a1 : Bool) : Lq4 none [.i a0, .b a1] =
 Lq4 (some 4) [.i a0, .b a1, .s (⟨#[]⟩ : ByteArray), .i 1, .i 0, .i 0, .i 0, .i 0, .i 8, .i 0, .i 0, .i a0, .l [], .l [], .l [], .l [], .l [], .l []] := (Lim_eq _ _).trans (by kernel_rfl)
theorem eq4_4 (a0 : Int) (a1 : Bool) (a2 : ByteArray) (a3 : Int) (a4 : Int) (a5 : Int) (a6 : Int) (a7 : Int) (a8 : Int) (a9 : Int) (a10 : Int) (a11 : Int) (a12 : Rw) (a13 : Rw) (a14 : Rw) (a15 : Rw) (a16 : Rw) (a17 : Rw) : Lq4 (some 4) [.i a0, .b a1, .s a2, .i a3, .i a4, .i a5, .i a6, .i a7, .i a8, .i a9, .i a10, .i a11, .l a12, .l a13, .l a14, .l a15, .l a16, .l a17] =
 cond (decide (a3 ≤ a0)) (
 (Lqbg none [.i a3]).bind fun y1 =>
 cond (!a1) (
 cond (!Eng.seq a2 (⟨#[]⟩ : ByteArray)) (
 (Lqr none [.s ((g y1 0).str), .l ([[.s a2]] : Rw), .i 8]).bind fun y2 =>
 (Lqk none [.s ((g y2 0).str), .i 8]).bind fun y3 =>
 Lq4 (some 11) [.i a0, .b a1, .s ((g y3 0).str), .i a3, .i 0, .i a4, .i a5, .i a6, .i a7, .i a8, .i a9, .i a10, .i a11, .s ((g y1 0).str), .l a12, .l a13, .l a14, .l a15, .l a16, .l a17, .l ([[.s a2]] : Rw)]) (
 (Lqr none [.s ((g y1 0).str), .l ([]), .i 8]).bind fun y4 =>
 (Lqk none [.s ((g y4 0).str), .i 8]).bind fun y5 =>
 Lq4 (some 11) [.i a0, .b a1, .s ((g y5 0).str), .i a3, .i 0, .i a4, .i a5, .i a6, .i a7, .i a8, .i a9, .i a10, .i a11, .s ((g y1 0).str), .l a12, .l a13, .l a14, .l a15, .l a16, .l a17, .l []])) (
 (Lqr none [.s ((g y1 0).str), .l ([]), .i 8]).bind fun y6 =>
 (Lqk none [.s ((g y6 0).str), .i 8]).bind fun y7 =>
 Lq4 (some 11) [.i a0, .b a1, .s ((g y7 0).str), .i a3, .i 0, .i a4, .i a5, .i a6, .i a7, .i a8, .i a9, .i a10, .i a11, .s ((g y1 0).str), .l a12, .l a13, .l a14, .l a15, .l a16, .l a17, .l []])) (
 some [.i a8, .i a9, .i a10, .i a11, .l a15, .l a16, .l a17]) := (Lim_eq _ _).trans (by kernel_rfl)
theorem eq4_11 (a0 : Int) (a1 : Bool) (a2 : ByteArray) (a3 : Int) (a4 : Int) (a5 : Int) (a6 : Int) (a7 : Int) (a8 : Int) (a9 : Int) (a10 : Int) (a11 : Int) (a12 : Int) (a13 : ByteArray) (a14 : Rw) (a15 : Rw) (a16 : Rw) (a17 : Rw) (a18 : Rw) (a19 : Rw) (a20 : Rw) : Lq4 (some 11) [.i a0, .b a1, .s a2, .i a3, .i a4, .i a5, .i a6, .i a7, .i a8, .i a9, .i a10, .i a11, .i a12, .s a13, .l a14, .l a15, .l a16, .l a17, .l a18, .l a19, .l a20] =
 cond (decide (a4 < (a17.length : Int))) (
 cond (inb a4 a17.length) (
 cond (slt ((rd a17 a4.toNat 0).str) a2) (
 Lq4 (some 11) [.i a0, .b a1, .s a2, .i a3, .i (IntKind.i64.wrap (a4 + 1)), .i a5, .i a6, .i a7, .i a8, .i a9, .i a10, .i a11, .i a12, .s a13, .l a14, .l a15, .l a16, .l a17, .l a18, .l a19, .l a20]) (
 cond (decide (0 ≤ a4)) (
 cond (decide (a4 ≤ (a17.length : Int))) (
 cond (decide (([] : Rw).length + (Eng.sub a17 0 a4.toNat).length ≤ most)) (
 cond (decide ((([] : Rw) ++ (Eng.sub a17 0 a4.toNat)).length + ([[.s a2, .i a3, .s a13, .l a20]] : Rw).length ≤ most)) (
 cond (decide (0 ≤ a4)) (
 cond (decide (a4 ≤ (a17.length : Int))) (
 cond (decide (((([] : Rw) ++ (Eng.sub a17 0 a4.toNat)) ++ ([[.s a2, .i a3, .s a13, .l a20]] : Rw)).length + (Eng.sub a17 a4.toNat a17.length).length ≤ most)) (
 Lq4 (some 4) [.i a0, .b a1, .s a2, .i (IntKind.i64.wrap (a3 + 1)), .i a5, .i a6, .i a7, .i a8, .i a9, .i a10, .i a11, .i a12, .l a14, .l a15, .l a16, .l (((([] : Rw) ++ (Eng.sub a17 0 a4.toNat)) ++ ([[.s a2, .i a3, .s a13, .l a20]] : Rw)) ++ (Eng.sub a17 a4.toNat a17.length)), .l a18, .l a19]) (
 none)) (
 none)) (
 none)) (
 none)) (
 none)) (
 none)) (
 none))) (
 none)) (
 cond (decide (0 ≤ a4)) (
 cond (decide (a4 ≤ (a17.length : Int))) (
 cond (decide (([] : Rw).length + (Eng.sub a17 0 a4.toNat).length ≤ most)) (
 cond (decide ((([] : Rw) ++ (Eng.sub a17 0 a4.toNat)).length + ([[.s a2, .i a3, .s a13, .l a20]] : Rw).length ≤ most)) (
 cond (decide (0 ≤ a4)) (
 cond (decide (a4 ≤ (a17.length : Int))) (
 cond (decide (((([] : Rw) ++ (Eng.sub a17 0 a4.toNat)) ++ ([[.s a2, .i a3, .s a13, .l a20]] : Rw)).length + (Eng.sub a17 a4.toNat a17.length).length ≤ most)) (
 Lq4 (some 4) [.i a0, .b a1, .s a2, .i (IntKind.i64.wrap (a3 + 1)), .i a5, .i a6, .i a7, .i a8, .i a9, .i a10, .i a11, .i a12, .l a14, .l a15, .l a16, .l (((([] : Rw) ++ (Eng.sub a17 0 a4.toNat)) ++ ([[.s a2, .i a3, .s a13, .l a20]] : Rw)) ++ (Eng.sub a17 a4.toNat a17.length)), .l a18, .l a19]) (
 none)) (
 none)) (
 none)) (
 none)) (
 none)) (
 none)) (
 none)) := (Lim_eq _ _).trans (by kernel_rfl)
theorem kq4 : SigOk Tryz.prog (dq4.sig (Lq4 none)) ∧ (dq4.sig (Lq4 none)).ok = true := sound_lim (known_cons kqr (by kernel_rfl) (known_cons kqk (by kernel_rfl) (known_cons kqbg (by kernel_rfl) known_nil))) (by kernel_rfl) (by kernel_rfl) (by kernel_rfl)
def dqb8 : FD := { fn := 201, nb := 0, pre := ⟨[.sc (.s 0), .sc (.i .i64 1)], []⟩, post := ⟨[.sc (.s 0)], []⟩, sh := false, cuts := [⟨2, [0, 1, 5], ⟨[.sc (.s 0), .sc (.i .i64 1), .sc (.s 2)], []⟩⟩] }
noncomputable def Lqb8 : Option Nat → Lv → Option Lv := Lim Tryz.prog [] dqb8 Tryz.f201
theorem eqb8_i (a0 : ByteArray) (a1 : Int) : Lqb8 none [.s a0, .i a1] =
 Lqb8 (some 2) [.s a0, .i a1, .s (⟨#[]⟩ : ByteArray)] := (Lim_eq _ _).trans (by kernel_rfl)
theorem eqb8_2 (a0 : ByteArray) (a1 : Int) (a2 : ByteArray) : Lqb8 (some 2) [.s a0, .i a1, .s a2] =
 cond (decide (0 < a1)) (
 cond ((a1.tmod 2) == 1) (
 cond (decide (a2.size + a0.size ≤ most)) (
 cond (decide (a0.size + a0.size ≤ most)) (
 Lqb8 (some 2) [.s (a0 ++ a0), .i (IntKind.i64.wrap (a1.tdiv 2)), .s (a2 ++ a0)]) (
 none)) (
 none)) (
 cond (decide (a0.size + a0.size ≤ most)) (
 Lqb8 (some 2) [.s (a0 ++ a0), .i (IntKind.i64.wrap (a1.tdiv 2)), .s a2]) (
 none))) (
 some [.s a2]) := (Lim_eq _ _).trans (by kernel_rfl)
theorem kqb8 : SigOk Tryz.prog (dqb8.sig (Lqb8 none)) ∧ (dqb8.sig (Lqb8 none)).ok = true := sound_lim known_nil (by kernel_rfl) (by kernel_rfl) (by kernel_rfl)
def dqcc : FD := { fn := 145, nb := 1, pre := ⟨[.sc (.pt 0 0), .ag [.s 0, .fz 9 false 1]], [.bx [.fz 5 false 2, .i .i64 3]]⟩, post := ⟨[.ag [.s 0, .ow 1]], [.bx [.fz 5 false 1, .i .i64 2], .rw 9 true 3]⟩, sh := true, cuts := [⟨15, [4, 5, 6, 7], ⟨[.sc (.pt 1 0), .sc (.pt 2 0), .sc (.i .i64 0), .sc (.i .i64 1)], [.bx [.fz 5 false 2, .i .i64 3], .bx [.s 4, .ow 3], .bx [.s 5, .ow 4], .rw 9 true 6, .rw 9 true 7]⟩⟩] }
noncomputable def Lqcc : Option Nat → Lv → Option Lv := Lim Tryz.prog [dqd.sig (Lqd none), dqbi.sig (Lqbi none), dqb8.sig (Lqb8 none)] dqcc Tryz.f145
theorem eqcc_i (a0 : ByteArray) (a1 : Rw) (a2 : Rw) (a3 : Int) : Lqcc none [.s a0, .l a1, .l a2, .i a3] =
 (Lqbi none [.s a0, .l a1]).bind fun y1 =>
 (Lqd none [.i 5, .l a2, .i a3]).bind fun y2 =>
 cond ((g y2 0).int == 0) (
 (Lqd none [.i 2, .l ((g y2 1).list), .i ((g y2 2).int)]).bind fun y3 =>
 (Lqb8 none [.s (⟨#[116]⟩ : ByteArray), .i (IntKind.i64.wrap (2000 + (g y3 0).int))]).bind fun y4 =>
 some [.s ((g y4 0).str), .l ((g y3 1).list), .i ((g y3 2).int), .l ((g y1 1).list)]) (
 cond ((g y2 0).int == 1) (
 cond (decide (((g y1 1).list).length + ([[.s (⟨#[120]⟩ : ByteArray)]] : Rw).length ≤ most)) (
 some [.s ((g y1 0).str), .l ((g y2 1).list), .i ((g y2 2).int), .l ((g y1 1).list ++ ([[.s (⟨#[120]⟩ : ByteArray)]] : Rw))]) (
 none)) (
 cond ((g y2 0).int == 2) (
 cond (decide (0 < (((g y1 1).list).length : Int))) (
 cond (inb 0 (((g y1 1).list).length)) (
 cond (decide (((g y1 1).list).length + ([[.s ((rd ((g y1 1).list) 0 0).str)]] : Rw).length ≤ most)) (
 some [.s ((g y1 0).str), .l ((g y2 1).list), .i ((g y2 2).int), .l ((g y1 1).list ++ ([[.s ((rd ((g y1 1).list) 0 0).str)]] : Rw))]) (
 none)) (
 none)) (
 some [.s ((g y1 0).str), .l ((g y2 1).list), .i ((g y2 2).int), .l ((g y1 1).list)])) (
 cond ((g y2 0).int == 3) (
 (Lqd none [.i 2, .l ((g y2 1).list), .i ((g y2 2).int)]).bind fun y5 =>
 Lqcc (some 15) [.i (IntKind.i64.wrap (30 + (g y5 0).int)), .i 0, .l ((g y5 1).list), .i ((g y5 2).int), .s (⟨#[]⟩ : ByteArray), .s ((g y1 0).str), .l [], .l ([] : Rw)]) (
 cond (decide (((g y1 0).str).size + (⟨#[122]⟩ : ByteArray).size ≤ most)) (
 some [.s (((g y1 0).str) ++ (⟨#[122]⟩ : ByteArray)), .l ((g y2 1).list), .i ((g y2 2).int), .l ((g y1 1).list)]) (
 none))))) := (Lim_eq _ _).trans (by kernel_rfl)
theorem eqcc_15 (a0 : Int) (a1 : Int) (a2 : Rw) (a3 : Int) (a4 : ByteArray) (a5 : ByteArray) (a6 : Rw) (a7 : Rw) : Lqcc (some 15) [.i a0, .i a1, .l a2, .i a3, .s a4, .s a5, .l a6, .l a7] =
 cond (decide (a1 < a0)) (
 cond (decide (a7.length + ([[.s (bytesOf ([[.i (IntKind.u8.wrap (IntKind.i64.wrap (33 + a1)))]] : Rw))]] : Rw).length ≤ most)) (
 Lqcc (some 15) [.i a0, .i (IntKind.i64.wrap (a1 + 1)), .l a2, .i a3, .s a4, .s a5, .l a6, .l (a7 ++ ([[.s (bytesOf ([[.i (IntKind.u8.wrap (IntKind.i64.wrap (33 + a1)))]] : Rw))]] : Rw))]) (
 none)) (
 some [.s a5, .l a2, .i a3, .l a7]) := (Lim_eq _ _).trans (by kernel_rfl)
theorem kqcc : SigOk Tryz.prog (dqcc.sig (Lqcc none)) ∧ (dqcc.sig (Lqcc none)).ok = true := sound_lim (known_cons kqd (by kernel_rfl) (known_cons kqbi (by kernel_rfl) (known_cons kqb8 (by kernel_rfl) known_nil))) (by kernel_rfl) (by kernel_rfl) (by kernel_rfl)
def dqcv : FD := { fn := 195, nb := 1, pre := ⟨[.sc (.pt 0 0), .ag [.i .i64 0, .i .i64 1, .i .i64 2, .i .i64 3, .fz 90 false 4, .fz 156 false 5, .fz 158 false 6]], [.bx [.fz 5 false 7, .i .i64 8]]⟩, post := ⟨[.ag [.i .i64 0, .i .i64 1, .i .i64 2, .i .i64 3, .ow 1, .ow 2, .ow 3]], [.bx [.fz 5 false 4, .i .i64 5], .rw 90 true 6, .rw 156 true 7, .rw 158 true 8]⟩, sh := true, cuts := [] }
noncomputable def Lqcv : Option Nat → Lv → Option Lv := Lim Tryz.prog [dqd.sig (Lqd none), dqcc.sig (Lqcc none), dqk.sig (Lqk none), dqt.sig (Lqt none), dq4.sig (Lq4 none)] dqcv Tryz.f195
theorem eqcv_i (a0 : Int) (a1 : Int) (a2 : Int) (a3 : Int) (a4 : Rw) (a5 : Rw) (a6 : Rw) (a7 : Rw) (a8 : Int) : Lqcv none [.i a0, .i a1, .i a2, .i a3, .l a4, .l a5, .l a6, .l a7, .i a8] =
 (Lqt none [.i a0, .i a1, .i a2, .i a3, .l a4, .l a5, .l a6]).bind fun y1 =>
 (Lqd none [.i (((g y1 4).list).length : Int), .l a7, .i a8]).bind fun y2 =>
 (Lqd none [.i 12, .l ((g y2 1).list), .i ((g y2 2).int)]).bind fun y3 =>
 cond ((g y3 0).int == 0) (
 (Lqd none [.i 11, .l ((g y3 1).list), .i ((g y3 2).int)]).bind fun y4 =>
 some [.i (IntKind.i64.wrap ((g y4 0).int - 1)), .i ((g y1 1).int), .i ((g y1 2).int), .i ((g y1 3).int), .l ((g y4 1).list), .i ((g y4 2).int), .l ((g y1 4).list), .l ((g y1 5).list), .l ((g y1 6).list)]) (
 cond ((g y3 0).int == 1) (
 (Lqd none [.i 3, .l ((g y3 1).list), .i ((g y3 2).int)]).bind fun y5 =>
 cond (inb ((g y5 0).int) (([[.i (-1)], [.i 1000000000], [.i 1000000001]] : Rw).length)) (
 some [.i ((g y1 0).int), .i ((rd ([[.i (-1)], [.i 1000000000], [.i 1000000001]] : Rw) (((g y5 0).int).toNat) 0).int), .i ((g y1 2).int), .i ((g y1 3).int), .l ((g y5 1).list), .i ((g y5 2).int), .l ((g y1 4).list), .l ((g y1 5).list), .l ((g y1 6).list)]) (
 none)) (
 cond ((g y3 0).int == 2) (
 (Lqd none [.i 5, .l ((g y3 1).list), .i ((g y3 2).int)]).bind fun y6 =>
 cond (inb ((g y6 0).int) (([[.i (-1)], [.i 0], [.i 1], [.i 1000000000], [.i 1000000001]] : Rw).length)) (
 some [.i ((g y1 0).int), .i ((g y1 1).int), .i ((g y1 2).int), .i ((rd ([[.i (-1)], [.i 0], [.i 1], [.i 1000000000], [.i 1000000001]] : Rw) (((g y6 0).int).toNat) 0).int), .l ((g y6 1).list), .i ((g y6 2).int), .l ((g y1 4).list), .l ((g y1 5).list), .l ((g y1 6).list)]) (
 none)) (
 cond ((g y3 0).int == 3) (
 (Lqd none [.i 4, .l ((g y3 1).list), .i ((g y3 2).int)]).bind fun y7 =>
 cond (inb ((g y7 0).int) (([[.i (-1)], [.i 0], [.i 1000000000], [.i 1000000001]] : Rw).length)) (
 some [.i ((g y1 0).int), .i ((g y1 1).int), .i ((rd ([[.i (-1)], [.i 0], [.i 1000000000], [.i 1000000001]] : Rw) (((g y7 0).int).toNat) 0).int), .i ((g y1 3).int), .l ((g y7 1).list), .i ((g y7 2).int), .l ((g y1 4).list), .l ((g y1 5).list), .l ((g y1 6).list)]) (
 none)) (
 cond ((g y3 0).int == 4) (
 cond (decide (0 < (((g y1 4).list).length : Int))) (
 cond (inb ((g y2 0).int) (((g y1 4).list).length)) (
 (Lqcc none [.s ((rd ((g y1 4).list) (((g y2 0).int).toNat) 2).str), .l ((rd ((g y1 4).list) (((g y2 0).int).toNat) 3).list), .l ((g y3 1).list), .i ((g y3 2).int)]).bind fun y8 =>
 cond (inb ((g y2 0).int) (((g y1 4).list).length)) (
 some [.i ((g y1 0).int), .i ((g y1 1).int), .i ((g y1 2).int), .i ((g y1 3).int), .l ((g y8 1).list), .i ((g y8 2).int), .l (wrs ((g y1 4).list) (((g y2 0).int).toNat) 2 ([.s ((g y8 0).str), .l ((g y8 3).list)] : List C)), .l ((g y1 5).list), .l ((g y1 6).list)]) (
 none)) (
 none)) (
 some [.i ((g y1 0).int), .i ((g y1 1).int), .i ((g y1 2).int), .i ((g y1 3).int), .l ((g y3 1).list), .i ((g y3 2).int), .l ((g y1 4).list), .l ((g y1 5).list), .l ((g y1 6).list)])) (
 cond ((g y3 0).int == 5) (
 cond (decide (1 < (((g y1 4).list).length : Int))) (
 cond (inb 1 (((g y1 4).list).length)) (
 cond (inb 0 (((g y1 4).list).length)) (
 some [.i ((g y1 0).int), .i ((g y1 1).int), .i ((g y1 2).int), .i ((g y1 3).int), .l ((g y3 1).list), .i ((g y3 2).int), .l (wrs ((g y1 4).list) 0 1 ([.i ((rd ((g y1 4).list) 1 1).int)] : List C)), .l ((g y1 5).list), .l ((g y1 6).list)]) (
 none)) (
 none)) (
 some [.i ((g y1 0).int), .i ((g y1 1).int), .i ((g y1 2).int), .i ((g y1 3).int), .l ((g y3 1).list), .i ((g y3 2).int), .l ((g y1 4).list), .l ((g y1 5).list), .l ((g y1 6).list)])) (
 cond ((g y3 0).int == 6) (
 cond (decide (0 < (((g y1 4).list).length : Int))) (
 cond (decide (0 ≤ (g y2 0).int)) (
 cond (decide ((g y2 0).int ≤ (((g y1 4).list).length : Int))) (
 cond (decide (([] : Rw).length + (Eng.sub ((g y1 4).list) 0 ((g y2 0).int).toNat).length ≤ most)) (
 cond (decide (0 ≤ (IntKind.i64.wrap ((g y2 0).int + 1)))) (
 cond (decide ((IntKind.i64.wrap ((g y2 0).int + 1)) ≤ (((g y1 4).list).length : Int))) (
 cond (decide ((([] : Rw) ++ (Eng.sub ((g y1 4).list) 0 ((g y2 0).int).toNat)).length + (Eng.sub ((g y1 4).list) (IntKind.i64.wrap ((g y2 0).int + 1)).toNat ((g y1 4).list).length).length ≤ most)) (
 some [.i ((g y1 0).int), .i ((g y1 1).int), .i ((g y1 2).int), .i ((g y1 3).int), .l ((g y3 1).list), .i ((g y3 2).int), .l ((([] : Rw) ++ (Eng.sub ((g y1 4).list) 0 ((g y2 0).int).toNat)) ++ (Eng.sub ((g y1 4).list) (IntKind.i64.wrap ((g y2 0).int + 1)).toNat ((g y1 4).list).length)), .l ((g y1 5).list), .l ((g y1 6).list)]) (
 none)) (
 none)) (
 none)) (
 none)) (
 none)) (
 none)) (
 some [.i ((g y1 0).int), .i ((g y1 1).int), .i ((g y1 2).int), .i ((g y1 3).int), .l ((g y3 1).list), .i ((g y3 2).int), .l ((g y1 4).list), .l ((g y1 5).list), .l ((g y1 6).list)])) (
 cond ((g y3 0).int == 7) (
 (Lqd none [.i 4, .l ((g y3 1).list), .i ((g y3 2).int)]).bind fun y9 =>
 cond (inb ((g y9 0).int) (([[.s (⟨#[112]⟩ : ByteArray)], [.s (⟨#[122]⟩ : ByteArray)], [.s (⟨#[]⟩ : ByteArray)], [.s (⟨#[120, 32, 121]⟩ : ByteArray)]] : Rw).length)) (
 (Lqk none [.s (⟨#[113]⟩ : ByteArray), .i a0]).bind fun y10 =>
 cond (decide (((g y1 5).list).length + ([[.s ((rd ([[.s (⟨#[112]⟩ : ByteArray)], [.s (⟨#[122]⟩ : ByteArray)], [.s (⟨#[]⟩ : ByteArray)], [.s (⟨#[120, 32, 121]⟩ : ByteArray)]] : Rw) (((g y9 0).int).toNat) 0).str), .s ((g y10 0).str)]] : Rw).length ≤ most)) (
 some [.i ((g y1 0).int), .i ((g y1 1).int), .i ((g y1 2).int), .i ((g y1 3).int), .l ((g y9 1).list), .i ((g y9 2).int), .l ((g y1 4).list), .l ((g y1 5).list ++ ([[.s ((rd ([[.s (⟨#[112]⟩ : ByteArray)], [.s (⟨#[122]⟩ : ByteArray)], [.s (⟨#[]⟩ : ByteArray)], [.s (⟨#[120, 32, 121]⟩ : ByteArray)]] : Rw) (((g y9 0).int).toNat) 0).str), .s ((g y10 0).str)]] : Rw)), .l ((g y1 6).list)]) (
 none)) (
 none)) (
 cond ((g y3 0).int == 8) (
 cond (decide (0 < (((g y1 4).list).length : Int))) (
 (Lqd none [.i 2, .l ((g y3 1).list), .i ((g y3 2).int)]).bind fun y11 =>
 cond (inb ((g y11 0).int) (([[.s (⟨#[97]⟩ : ByteArray)], [.s (⟨#[122]⟩ : ByteArray)]] : Rw).length)) (
 cond (inb ((g y2 0).int) (((g y1 4).list).length)) (
 cond (decide (((g y1 5).list).length + ([[.s ((rd ([[.s (⟨#[97]⟩ : ByteArray)], [.s (⟨#[122]⟩ : ByteArray)]] : Rw) (((g y11 0).int).toNat) 0).str), .s ((rd ((g y1 4).list) (((g y2 0).int).toNat) 0).str)]] : Rw).length ≤ most)) (
 some [.i ((g y1 0).int), .i ((g y1 1).int), .i ((g y1 2).int), .i ((g y1 3).int), .l ((g y11 1).list), .i ((g y11 2).int), .l ((g y1 4).list), .l ((g y1 5).list ++ ([[.s ((rd ([[.s (⟨#[97]⟩ : ByteArray)], [.s (⟨#[122]⟩ : ByteArray)]] : Rw) (((g y11 0).int).toNat) 0).str), .s ((rd ((g y1 4).list) (((g y2 0).int).toNat) 0).str)]] : Rw)), .l ((g y1 6).list)]) (
 none)) (
 none)) (
 none)) (
 some [.i ((g y1 0).int), .i ((g y1 1).int), .i ((g y1 2).int), .i ((g y1 3).int), .l ((g y3 1).list), .i ((g y3 2).int), .l ((g y1 4).list), .l ((g y1 5).list), .l ((g y1 6).list)])) (
 cond ((g y3 0).int == 9) (
 cond (decide (0 < (((g y1 6).list).length : Int))) (
 (Lqd none [.i 4, .l ((g y3 1).list), .i ((g y3 2).int)]).bind fun y12 =>
 cond (inb ((g y12 0).int) (([[.i 0], [.i 1], [.i 100000], [.i 100001]] : Rw).length)) (
 cond (inb 0 (((g y1 6).list).length)) (
 some [.i ((g y1 0).int), .i ((g y1 1).int), .i ((g y1 2).int), .i ((g y1 3).int), .l ((g y12 1).list), .i ((g y12 2).int), .l ((g y1 4).list), .l ((g y1 5).list), .l (wrs ((g y1 6).list) 0 2 ([.i (IntKind.i64.wrap ((g y1 1).int + (rd ([[.i 0], [.i 1], [.i 100000], [.i 100001]] : Rw) (((g y12 0).int).toNat) 0).int))] : List C))]) (
 none)) (
 none)) (
 some [.i ((g y1 0).int), .i ((g y1 1).int), .i ((g y1 2).int), .i ((g y1 3).int), .l ((g y3 1).list), .i ((g y3 2).int), .l ((g y1 4).list), .l ((g y1 5).list), .l ((g y1 6).list)])) (
 cond ((g y3 0).int == 10) (
 cond (decide (0 < (((g y1 6).list).length : Int))) (
 (Lqd none [.i 3, .l ((g y3 1).list), .i ((g y3 2).int)]).bind fun y13 =>
 cond (inb ((g y13 0).int) (([[.i 0], [.i ((g y1 2).int)], [.i (IntKind.i64.wrap ((g y1 2).int + 1))]] : Rw).length)) (
 cond (inb 0 (((g y1 6).list).length)) (
 some [.i ((g y1 0).int), .i ((g y1 1).int), .i ((g y1 2).int), .i ((g y1 3).int), .l ((g y13 1).list), .i ((g y13 2).int), .l ((g y1 4).list), .l ((g y1 5).list), .l (wrs ((g y1 6).list) 0 0 ([.i ((rd ([[.i 0], [.i ((g y1 2).int)], [.i (IntKind.i64.wrap ((g y1 2).int + 1))]] : Rw) (((g y13 0).int).toNat) 0).int)] : List C))]) (
 none)) (
 none)) (
 some [.i ((g y1 0).int), .i ((g y1 1).int), .i ((g y1 2).int), .i ((g y1 3).int), .l ((g y3 1).list), .i ((g y3 2).int), .l ((g y1 4).list), .l ((g y1 5).list), .l ((g y1 6).list)])) (
 (Lqd none [.i 2, .l ((g y3 1).list), .i ((g y3 2).int)]).bind fun y14 =>
 (Lqd none [.i 2, .l ((g y14 1).list), .i ((g y14 2).int)]).bind fun y15 =>
 (Lq4 none [.i (IntKind.i64.wrap (600 + (g y14 0).int)), .b ((g y15 0).int == 0)]).bind fun y16 =>
 some [.i ((g y16 0).int), .i ((g y16 1).int), .i ((g y16 2).int), .i ((g y16 3).int), .l ((g y15 1).list), .i ((g y15 2).int), .l ((g y16 4).list), .l ((g y16 5).list), .l ((g y16 6).list)]))))))))))) := (Lim_eq _ _).trans (by kernel_rfl)
theorem kqcv : SigOk Tryz.prog (dqcv.sig (Lqcv none)) ∧ (dqcv.sig (Lqcv none)).ok = true := sound_lim (known_cons kqd (by kernel_rfl) (known_cons kqcc (by kernel_rfl) (known_cons kqk (by kernel_rfl) (known_cons kqt (by kernel_rfl) (known_cons kq4 (by kernel_rfl) known_nil))))) (by kernel_rfl) (by kernel_rfl) (by kernel_rfl)
def dq8 : FD := { fn := 125, nb := 1, pre := ⟨[.sc (.pt 0 0)], [.bx [.fz 5 false 0, .i .i64 1]]⟩, post := ⟨[.ag [.i .i64 0, .i .i64 1, .i .i64 2, .i .i64 3, .fz 90 true 4, .fz 156 true 5, .fz 158 true 6]], [.bx [.fz 5 false 7, .i .i64 8]]⟩, sh := true, cuts := [⟨9, [2, 3, 4, 5], ⟨[.sc (.pt 1 0), .sc (.pt 2 0), .sc (.i .i64 0), .sc (.i .i64 1)], [.bx [.fz 5 false 2, .i .i64 3], .bx [.i .i64 4, .i .i64 5, .i .i64 6, .i .i64 7, .ow 3, .ow 4, .ow 5], .bx [.i .i64 8, .i .i64 9, .i .i64 10, .i .i64 11, .fz 90 true 12, .ow 6, .ow 7], .rw 90 true 13, .rw 156 true 14, .rw 158 true 15, .rw 156 true 16, .rw 158 true 17]⟩⟩, ⟨13, [2, 3], ⟨[.sc (.pt 1 0), .sc (.pt 2 0)], [.bx [.fz 5 false 0, .i .i64 1], .bx [.i .i64 2, .i .i64 3, .i .i64 4, .i .i64 5, .ow 3, .ow 4, .ow 5], .bx [.i .i64 6, .i .i64 7, .i .i64 8, .i .i64 9, .fz 90 true 10, .ow 6, .ow 7], .rw 90 true 11, .rw 156 true 12, .rw 158 true 13, .rw 156 true 14, .rw 158 true 15]⟩⟩] }
noncomputable def Lq8 : Option Nat → Lv → Option Lv := Lim Tryz.prog [dqd.sig (Lqd none), dqbc.sig (Lqbc none), dq4.sig (Lq4 none), dqcv.sig (Lqcv none)] dq8 Tryz.f125
theorem eq8_i (a0 : Rw) (a1 : Int) : Lq8 none [.l a0, .i a1] =
 (Lqbc none [.l a0, .i a1]).bind fun y1 =>
 (Lqd none [.i 20, .l ((g y1 14).list), .i ((g y1 15).int)]).bind fun y2 =>
 cond (decide ((g y2 0).int < 3)) (
 (Lqcv none [.i ((g y1 3).int), .i ((g y1 4).int), .i ((g y1 5).int), .i ((g y1 6).int), .l ((g y1 7).list), .l ((g y1 17).list), .l ((g y1 18).list), .l ((g y2 1).list), .i ((g y2 2).int)]).bind fun y3 =>
 some [.i ((g y3 0).int), .i ((g y3 1).int), .i ((g y3 2).int), .i ((g y3 3).int), .l ((g y3 6).list), .l ((g y3 7).list), .l ((g y3 8).list), .l ((g y3 4).list), .i ((g y3 5).int)]) (
 cond ((g y2 0).int == 3) (
 (Lqd none [.i 30, .l ((g y2 1).list), .i ((g y2 2).int)]).bind fun y4 =>
 (Lqd none [.i 2, .l ((g y4 1).list), .i ((g y4 2).int)]).bind fun y5 =>
 (Lq4 none [.i (IntKind.i64.wrap (20 + (g y4 0).int)), .b ((g y5 0).int == 0)]).bind fun y6 =>
 some [.i ((g y6 0).int), .i ((g y6 1).int), .i ((g y6 2).int), .i ((g y6 3).int), .l ((g y6 4).list), .l ((g y6 5).list), .l ((g y6 6).list), .l ((g y5 1).list), .i ((g y5 2).int)]) (
 cond ((g y2 0).int == 4) (
 cond (decide (0 < (((g y1 7).list).length : Int))) (
 Lq8 (some 9) [.i ((g y2 0).int), .i 0, .l ((g y2 1).list), .i ((g y2 2).int), .i 0, .i 0, .i 0, .i 0, .i ((g y1 3).int), .i ((g y1 4).int), .i ((g y1 5).int), .i ((g y1 6).int), .l ((g y1 7).list), .l [], .l [], .l [], .l ((g y1 17).list), .l ((g y1 18).list)]) (
 cond ((g y2 0).int == 5) (
 cond (decide (0 < (((g y1 7).list).length : Int))) (
 Lq8 (some 13) [.l ((g y2 1).list), .i ((g y2 2).int), .i 0, .i 0, .i 0, .i 0, .i ((g y1 3).int), .i ((g y1 4).int), .i ((g y1 5).int), .i ((g y1 6).int), .l ((g y1 7).list), .l [], .l [], .l [], .l ((g y1 17).list), .l ((g y1 18).list)]) (
 some [.i ((g y1 3).int), .i ((g y1 4).int), .i ((g y1 5).int), .i ((g y1 6).int), .l ((g y1 7).list), .l ((g y1 17).list), .l ((g y1 18).list), .l ((g y2 1).list), .i ((g y2 2).int)])) (
 some [.i ((g y1 3).int), .i ((g y1 4).int), .i ((g y1 5).int), .i ((g y1 6).int), .l ((g y1 7).list), .l ((g y1 17).list), .l ((g y1 18).list), .l ((g y2 1).list), .i ((g y2 2).int)]))) (
 cond ((g y2 0).int == 5) (
 cond (decide (0 < (((g y1 7).list).length : Int))) (
 Lq8 (some 13) [.l ((g y2 1).list), .i ((g y2 2).int), .i 0, .i 0, .i 0, .i 0, .i ((g y1 3).int), .i ((g y1 4).int), .i ((g y1 5).int), .i ((g y1 6).int), .l ((g y1 7).list), .l [], .l [], .l [], .l ((g y1 17).list), .l ((g y1 18).list)]) (
 some [.i ((g y1 3).int), .i ((g y1 4).int), .i ((g y1 5).int), .i ((g y1 6).int), .l ((g y1 7).list), .l ((g y1 17).list), .l ((g y1 18).list), .l ((g y2 1).list), .i ((g y2 2).int)])) (
 some [.i ((g y1 3).int), .i ((g y1 4).int), .i ((g y1 5).int), .i ((g y1 6).int), .l ((g y1 7).list), .l ((g y1 17).list), .l ((g y1 18).list), .l ((g y2 1).list), .i ((g y2 2).int)])))) := (Lim_eq _ _).trans (by kernel_rfl)
theorem eq8_9 (a0 : Int) (a1 : Int) (a2 : Rw) (a3 : Int) (a4 : Int) (a5 : Int) (a6 : Int) (a7 : Int) (a8 : Int) (a9 : Int) (a10 : Int) (a11 : Int) (a12 : Rw) (a13 : Rw) (a14 : Rw) (a15 : Rw) (a16 : Rw) (a17 : Rw) : Lq8 (some 9) [.i a0, .i a1, .l a2, .i a3, .i a4, .i a5, .i a6, .i a7, .i a8, .i a9, .i a10, .i a11, .l a12, .l a13, .l a14, .l a15, .l a16, .l a17] =
 cond (decide ((a16.length : Int) < 100)) (
 cond (decide ((⟨#[122]⟩ : ByteArray).size + (bytesOf ([[.i (IntKind.u8.wrap (IntKind.i64.wrap (48 + (IntKind.i64.wrap (a1.tdiv 10)))))], [.i (IntKind.u8.wrap (IntKind.i64.wrap (48 + (a1.tmod 10))))]] : Rw)).size ≤ most)) (
 cond (inb 0 a12.length) (
 cond (decide (a16.length + ([[.s ((⟨#[122]⟩ : ByteArray) ++ (bytesOf ([[.i (IntKind.u8.wrap (IntKind.i64.wrap (48 + (IntKind.i64.wrap (a1.tdiv 10)))))], [.i (IntKind.u8.wrap (IntKind.i64.wrap (48 + (a1.tmod 10))))]] : Rw))), .s ((rd a12 0 0).str)]] : Rw).length ≤ most)) (
 Lq8 (some 9) [.i a0, .i (IntKind.i64.wrap (a1 + 1)), .l a2, .i a3, .i a4, .i a5, .i a6, .i a7, .i a8, .i a9, .i a10, .i a11, .l a12, .l a13, .l a14, .l a15, .l (a16 ++ ([[.s ((⟨#[122]⟩ : ByteArray) ++ (bytesOf ([[.i (IntKind.u8.wrap (IntKind.i64.wrap (48 + (IntKind.i64.wrap (a1.tdiv 10)))))], [.i (IntKind.u8.wrap (IntKind.i64.wrap (48 + (a1.tmod 10))))]] : Rw))), .s ((rd a12 0 0).str)]] : Rw)), .l a17]) (
 none)) (
 none)) (
 none)) (
 cond (a0 == 5) (
 cond (decide (0 < (a12.length : Int))) (
 Lq8 (some 13) [.l a2, .i a3, .i a4, .i a5, .i a6, .i a7, .i a8, .i a9, .i a10, .i a11, .l a12, .l a13, .l a14, .l a15, .l a16, .l a17]) (
 some [.i a8, .i a9, .i a10, .i a11, .l a12, .l a16, .l a17, .l a2, .i a3])) (
 some [.i a8, .i a9, .i a10, .i a11, .l a12, .l a16, .l a17, .l a2, .i a3])) := (Lim_eq _ _).trans (by kernel_rfl)
theorem eq8_13 (a0 : Rw) (a1 : Int) (a2 : Int) (a3 : Int) (a4 : Int) (a5 : Int) (a6 : Int) (a7 : Int) (a8 : Int) (a9 : Int) (a10 : Rw) (a11 : Rw) (a12 : Rw) (a13 : Rw) (a14 : Rw) (a15 : Rw) : Lq8 (some 13) [.l a0, .i a1, .i a2, .i a3, .i a4, .i a5, .i a6, .i a7, .i a8, .i a9, .l a10, .l a11, .l a12, .l a13, .l a14, .l a15] =
 cond (decide ((a15.length : Int) < 200)) (
 cond (inb 0 a10.length) (
 cond (decide (a15.length + ([[.i (IntKind.i64.wrap (a8 + 1)), .s ((rd a10 0 0).str), .i (IntKind.i64.wrap (a7 + 5))]] : Rw).length ≤ most)) (
 Lq8 (some 13) [.l a0, .i a1, .i a2, .i a3, .i a4, .i a5, .i a6, .i a7, .i (IntKind.i64.wrap (a8 + 1)), .i a9, .l a10, .l a11, .l a12, .l a13, .l a14, .l (a15 ++ ([[.i (IntKind.i64.wrap (a8 + 1)), .s ((rd a10 0 0).str), .i (IntKind.i64.wrap (a7 + 5))]] : Rw))]) (
 none)) (
 none)) (
 some [.i a6, .i a7, .i a8, .i a9, .l a10, .l a14, .l a15, .l a0, .i a1]) := (Lim_eq _ _).trans (by kernel_rfl)
theorem kq8 : SigOk Tryz.prog (dq8.sig (Lq8 none)) ∧ (dq8.sig (Lq8 none)).ok = true := sound_lim (known_cons kqd (by kernel_rfl) (known_cons kqbc (by kernel_rfl) (known_cons kq4 (by kernel_rfl) (known_cons kqcv (by kernel_rfl) known_nil)))) (by kernel_rfl) (by kernel_rfl) (by kernel_rfl)
def dqc7 : FD := { fn := 41, nb := 0, pre := ⟨[.sc (.fz 5 false 0)], []⟩, post := ⟨[.ag [.i .i64 0, .i .i64 1, .i .i64 2, .i .i64 3, .fz 90 true 4, .fz 156 true 5, .fz 158 true 6]], []⟩, sh := false, cuts := [] }
noncomputable def Lqc7 : Option Nat → Lv → Option Lv := Lim Tryz.prog [dqc1.sig (Lqc1 none), dq8.sig (Lq8 none)] dqc7 Tryz.f41
theorem eqc7_i (a0 : Rw) : Lqc7 none [.l a0] =
 (Lqc1 none [.l a0]).bind fun y1 =>
 (Lq8 none [.l ((g y1 0).list), .i ((g y1 1).int)]).bind fun y2 =>
 some [.i ((g y2 0).int), .i ((g y2 1).int), .i ((g y2 2).int), .i ((g y2 3).int), .l ((g y2 4).list), .l ((g y2 5).list), .l ((g y2 6).list)] := (Lim_eq _ _).trans (by kernel_rfl)
theorem kqc7 : SigOk Tryz.prog (dqc7.sig (Lqc7 none)) ∧ (dqc7.sig (Lqc7 none)).ok = true := sound_lim (known_cons kqc1 (by kernel_rfl) (known_cons kq8 (by kernel_rfl) known_nil)) (by kernel_rfl) (by kernel_rfl) (by kernel_rfl)
def dqb9 : FD := { fn := 111, nb := 0, pre := ⟨[.sc (.i .i64 0)], []⟩, post := ⟨[.sc (.b 0)], []⟩, sh := false, cuts := [] }
noncomputable def Lqb9 : Option Nat → Lv → Option Lv := Lim Tryz.prog [] dqb9 Tryz.f111
theorem eqb9_i (a0 : Int) : Lqb9 none [.i a0] =
 cond (decide (1 ≤ a0)) (
 some [.b (decide (a0 ≤ 8))]) (
 some [.b false]) := (Lim_eq _ _).trans (by kernel_rfl)
theorem kqb9 : SigOk Tryz.prog (dqb9.sig (Lqb9 none)) ∧ (dqb9.sig (Lqb9 none)).ok = true := sound_lim known_nil (by kernel_rfl) (by kernel_rfl) (by kernel_rfl)
def dq6 : FD := { fn := 71, nb := 0, pre := ⟨[.sc (.s 0), .sc (.i .i64 1)], []⟩, post := ⟨[.sc (.s 0)], []⟩, sh := false, cuts := [⟨5, [0, 1, 5, 13, 14], ⟨[.sc (.s 0), .sc (.i .i64 1), .sc (.i .u64 2), .sc (.i .i64 3), .sc (.i .i64 4)], []⟩⟩, ⟨12, [5, 7, 8], ⟨[.sc (.i .u64 0), .sc (.ow 0), .sc (.i .i64 1)], [.rw 5 true 2]⟩⟩] }
noncomputable def Lq6 : Option Nat → Lv → Option Lv := Lim Tryz.prog [dqb9.sig (Lqb9 none)] dq6 Tryz.f71
theorem eq6_i (a0 : ByteArray) (a1 : Int) : Lq6 none [.s a0, .i a1] =
 (Lqb9 none [.i a1]).bind fun y1 =>
 cond (!(g y1 0).bool) (
 some [.s (⟨#[]⟩ : ByteArray)]) (
 Lq6 (some 5) [.s a0, .i a1, .i 14695981039346656037, .i (a0.size : Int), .i 0]) := (Lim_eq _ _).trans (by kernel_rfl)
theorem eq6_5 (a0 : ByteArray) (a1 : Int) (a2 : Int) (a3 : Int) (a4 : Int) : Lq6 (some 5) [.s a0, .i a1, .i a2, .i a3, .i a4] =
 cond (decide (a4 < a3)) (
 cond (inb a4 a0.size) (
 Lq6 (some 5) [.s a0, .i a1, .i (IntKind.u64.wrap ((IntKind.u64.wrap (BitVec.ofInt (IntKind.u64).bits a2 ^^^ BitVec.ofInt (IntKind.u64).bits (IntKind.u64.wrap (byteAt a0 a4.toNat))).toNat) * 1099511628211)), .i a3, .i (IntKind.i64.wrap (a4 + 1))]) (
 none)) (
 cond (decide (0 ≤ a1)) (
 cond (a1 == a1) (
 cond (decide (a1 ≤ (most : Int))) (
 Lq6 (some 12) [.i a2, .i (IntKind.i64.wrap (a1 - 1)), .l (List.replicate a1.toNat ([.i 0] : List C))]) (
 none)) (
 none)) (
 none)) := (Lim_eq _ _).trans (by kernel_rfl)
theorem eq6_12 (a0 : Int) (a1 : Int) (a2 : Rw) : Lq6 (some 12) [.i a0, .i a1, .l a2] =
 cond (decide (0 ≤ a1)) (
 cond (inb a1 a2.length) (
 Lq6 (some 12) [.i (a0.fdiv (2 ^ 8)), .i (IntKind.i64.wrap (a1 - 1)), .l (wrs a2 a1.toNat 0 ([.i (IntKind.u8.wrap a0)] : List C))]) (
 none)) (
 some [.s (bytesOf a2)]) := (Lim_eq _ _).trans (by kernel_rfl)
theorem kq6 : SigOk Tryz.prog (dq6.sig (Lq6 none)) ∧ (dq6.sig (Lq6 none)).ok = true := sound_lim (known_cons kqb9 (by kernel_rfl) known_nil) (by kernel_rfl) (by kernel_rfl) (by kernel_rfl)
def dqda : FD := { fn := 160, nb := 0, pre := ⟨[.sc (.i .i64 0), .sc (.pt 0 0), .sc (.pt 2 0)], [.rb [.pt 1 0], .rb [.i .i64 1, .i .i64 2, .i .i64 3, .i .i64 4, .fz 90 false 5, .fz 156 false 6, .fz 158 false 7], .rb [.s 8]]⟩, post := ⟨[.sc (.b 0)], []⟩, sh := false, cuts := [] }
noncomputable def Lqda : Option Nat → Lv → Option Lv := Lim Tryz.prog [] dqda Tryz.f160
theorem eqda_i (a0 : Int) (a1 : Int) (a2 : Int) (a3 : Int) (a4 : Int) (a5 : Rw) (a6 : Rw) (a7 : Rw) (a8 : ByteArray) : Lqda none [.i a0, .i a1, .i a2, .i a3, .i a4, .l a5, .l a6, .l a7, .s a8] =
 cond (inb a0 a5.length) (
 some [.b (!slt ((rd a5 a0.toNat 0).str) a8)]) (
 none) := (Lim_eq _ _).trans (by kernel_rfl)
theorem kqda : SigOk Tryz.prog (dqda.sig (Lqda none)) ∧ (dqda.sig (Lqda none)).ok = true := sound_lim known_nil (by kernel_rfl) (by kernel_rfl) (by kernel_rfl)
def dqby : FD := { fn := 159, nb := 0, pre := ⟨[.sc (.i .i64 0), .sc (.fn 160 [(0, 0), (2, 0)])], [.rb [.pt 1 0], .rb [.i .i64 1, .i .i64 2, .i .i64 3, .i .i64 4, .fz 90 false 5, .fz 156 false 6, .fz 158 false 7], .rb [.s 8]]⟩, post := ⟨[.sc (.i .i64 0)], []⟩, sh := false, cuts := [⟨2, [1, 5, 6], ⟨[.sc (.fn 160 [(0, 0), (1, 0)]), .sc (.i .i64 0), .sc (.i .i64 1)], [.rb [.pt 2 0], .rb [.s 2], .rb [.i .i64 3, .i .i64 4, .i .i64 5, .i .i64 6, .fz 90 false 7, .fz 156 false 8, .fz 158 false 9]]⟩⟩] }
noncomputable def Lqby : Option Nat → Lv → Option Lv := Lim Tryz.prog [dqda.sig (Lqda none)] dqby Tryz.f159
theorem eqby_i (a0 : Int) (a1 : Int) (a2 : Int) (a3 : Int) (a4 : Int) (a5 : Rw) (a6 : Rw) (a7 : Rw) (a8 : ByteArray) : Lqby none [.i a0, .i a1, .i a2, .i a3, .i a4, .l a5, .l a6, .l a7, .s a8] =
 Lqby (some 2) [.i 0, .i a0, .s a8, .i a1, .i a2, .i a3, .i a4, .l a5, .l a6, .l a7] := (Lim_eq _ _).trans (by kernel_rfl)
theorem eqby_2 (a0 : Int) (a1 : Int) (a2 : ByteArray) (a3 : Int) (a4 : Int) (a5 : Int) (a6 : Int) (a7 : Rw) (a8 : Rw) (a9 : Rw) : Lqby (some 2) [.i a0, .i a1, .s a2, .i a3, .i a4, .i a5, .i a6, .l a7, .l a8, .l a9] =
 cond (decide (a0 < a1)) (
 (Lqda none [.i (IntKind.i64.wrap ((IntKind.u64.wrap (IntKind.i64.wrap (a0 + a1))).fdiv (2 ^ 1))), .i a3, .i a4, .i a5, .i a6, .l a7, .l a8, .l a9, .s a2]).bind fun y1 =>
 cond (!(g y1 0).bool) (
 Lqby (some 2) [.i (IntKind.i64.wrap ((IntKind.i64.wrap ((IntKind.u64.wrap (IntKind.i64.wrap (a0 + a1))).fdiv (2 ^ 1))) + 1)), .i a1, .s a2, .i a3, .i a4, .i a5, .i a6, .l a7, .l a8, .l a9]) (
 Lqby (some 2) [.i a0, .i (IntKind.i64.wrap ((IntKind.u64.wrap (IntKind.i64.wrap (a0 + a1))).fdiv (2 ^ 1))), .s a2, .i a3, .i a4, .i a5, .i a6, .l a7, .l a8, .l a9])) (
 some [.i a0]) := (Lim_eq _ _).trans (by kernel_rfl)
theorem kqby : SigOk Tryz.prog (dqby.sig (Lqby none)) ∧ (dqby.sig (Lqby none)).ok = true := sound_lim (known_cons kqda (by kernel_rfl) known_nil) (by kernel_rfl) (by kernel_rfl) (by kernel_rfl)
def dqbd : FD := { fn := 96, nb := 0, pre := ⟨[.sc (.pt 0 0), .sc (.s 0)], [.rb [.i .i64 1, .i .i64 2, .i .i64 3, .i .i64 4, .fz 90 false 5, .fz 156 false 6, .fz 158 false 7]]⟩, post := ⟨[.tu [(false, [.i .i64 0]), (false, [.b 1])]], []⟩, sh := false, cuts := [] }
noncomputable def Lqbd : Option Nat → Lv → Option Lv := Lim Tryz.prog [dqby.sig (Lqby none)] dqbd Tryz.f96
theorem eqbd_i (a0 : ByteArray) (a1 : Int) (a2 : Int) (a3 : Int) (a4 : Int) (a5 : Rw) (a6 : Rw) (a7 : Rw) : Lqbd none [.s a0, .i a1, .i a2, .i a3, .i a4, .l a5, .l a6, .l a7] =
 (Lqby none [.i (a5.length : Int), .i a1, .i a2, .i a3, .i a4, .l a5, .l a6, .l a7, .s a0]).bind fun y1 =>
 cond (decide ((g y1 0).int < (a5.length : Int))) (
 cond (inb ((g y1 0).int) a5.length) (
 some [.i ((g y1 0).int), .b (Eng.seq ((rd a5 (((g y1 0).int).toNat) 0).str) a0)]) (
 none)) (
 some [.i ((g y1 0).int), .b false]) := (Lim_eq _ _).trans (by kernel_rfl)
theorem kqbd : SigOk Tryz.prog (dqbd.sig (Lqbd none)) ∧ (dqbd.sig (Lqbd none)).ok = true := sound_lim (known_cons kqby (by kernel_rfl) known_nil) (by kernel_rfl) (by kernel_rfl) (by kernel_rfl)
def dqb6 : FD := { fn := 97, nb := 0, pre := ⟨[.sc (.fz 9 false 0)], []⟩, post := ⟨[.sc (.ow 0)], [.rw 9 true 0]⟩, sh := false, cuts := [] }
noncomputable def Lqb6 : Option Nat → Lv → Option Lv := Lim Tryz.prog [] dqb6 Tryz.f97
theorem eqb6_i (a0 : Rw) : Lqb6 none [.l a0] =
 cond (decide (a0.length ≤ most)) (
 some [.l a0]) (
 none) := (Lim_eq _ _).trans (by kernel_rfl)
theorem kqb6 : SigOk Tryz.prog (dqb6.sig (Lqb6 none)) ∧ (dqb6.sig (Lqb6 none)).ok = true := sound_lim known_nil (by kernel_rfl) (by kernel_rfl) (by kernel_rfl)
def dq7 : FD := { fn := 122, nb := 0, pre := ⟨[.ag [.s 0, .fz 9 false 1]], []⟩, post := ⟨[.sc (.s 0)], []⟩, sh := false, cuts := [⟨3, [1, 3, 13, 14, 15], ⟨[.sc (.pt 0 0), .sc (.s 0), .sc (.fz 9 false 1), .sc (.i .i64 2), .sc (.i .i64 3)], [.bx [.s 4, .fz 9 false 5]]⟩⟩] }
noncomputable def Lq7 : Option Nat → Lv → Option Lv := Lim Tryz.prog [] dq7 Tryz.f122
theorem eq7_i (a0 : ByteArray) (a1 : Rw) : Lq7 none [.s a0, .l a1] =
 Lq7 (some 3) [.s (bytesOf ([[.i (IntKind.u8.wrap (a1.length : Int))]] : Rw)), .l a1, .i (a1.length : Int), .i 0, .s a0, .l a1] := (Lim_eq _ _).trans (by kernel_rfl)
theorem eq7_3 (a0 : ByteArray) (a1 : Rw) (a2 : Int) (a3 : Int) (a4 : ByteArray) (a5 : Rw) : Lq7 (some 3) [.s a0, .l a1, .i a2, .i a3, .s a4, .l a5] =
 cond (decide (a3 < a2)) (
 cond (inb a3 a1.length) (
 cond (decide (a0.size + ((rd a1 a3.toNat 0).str).size ≤ most)) (
 Lq7 (some 3) [.s (a0 ++ ((rd a1 a3.toNat 0).str)), .l a1, .i a2, .i (IntKind.i64.wrap (a3 + 1)), .s a4, .l a5]) (
 none)) (
 none)) (
 cond (decide (a0.size + a4.size ≤ most)) (
 some [.s (a0 ++ a4)]) (
 none)) := (Lim_eq _ _).trans (by kernel_rfl)
theorem kq7 : SigOk Tryz.prog (dq7.sig (Lq7 none)) ∧ (dq7.sig (Lq7 none)).ok = true := sound_lim known_nil (by kernel_rfl) (by kernel_rfl) (by kernel_rfl)
end KV
end
