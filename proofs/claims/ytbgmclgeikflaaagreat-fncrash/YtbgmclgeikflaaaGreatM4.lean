/- Walks of Go functions, printed by a program of ours. -/
import Derived.Test.YtbgmclgeikflaaaGreatProg
import Derived.Test.YtbgmclgeikflaaaGreatM1
import Derived.Test.YtbgmclgeikflaaaGreatM2
import Derived.Test.YtbgmclgeikflaaaGreatM3
set_option linter.unusedSimpArgs false
set_option linter.unusedVariables false
set_option linter.unusedSectionVars false
section
set_option maxRecDepth 100000
namespace KV
open Go Go.Eng Go.Proofs
def d_spec_Hold : FD := { fn := 63, nb := 0, pre := ⟨[.ag [.i .i64 0, .i .i64 1, .fz 9 false 2, .fz 9 false 3, .i .i64 4, .i .i64 5, .i .i64 6, .i .i64 7, .fz 90 false 8, .fz 156 false 9, .fz 158 false 10, .i .i64 11, .fz 9 false 12, .fz 9 false 13, .i .i64 14, .i .i64 15, .i .i64 16], .sc (.s 17), .sc (.s 18)], []⟩, post := ⟨[.ag [.i .i64 0, .i .i64 1, .i .i64 2, .ow 0, .ow 1, .i .i64 3, .i .i64 4, .i .i64 5, .i .i64 6, .ow 2, .ow 3, .ow 4, .i .i64 7, .ow 5, .ow 6, .i .i64 8, .i .i64 9, .i .i64 10, .s 11, .i .i64 12, .s 13, .s 14]], [.rw 9 true 15, .rw 9 true 16, .rw 90 true 17, .rw 156 true 18, .rw 158 true 19, .rw 9 true 20, .rw 9 true 21]⟩, sh := false, cuts := [] }
noncomputable def L_spec_Hold : Option Nat → Lv → Option Lv := Lim Tryz.prog [d_spec_l7Do.sig (L_spec_l7Do none)] d_spec_Hold Tryz.f63
theorem e_spec_Hold_i (a0 : Int) (a1 : Int) (a2 : Rw) (a3 : Rw) (a4 : Int) (a5 : Int) (a6 : Int) (a7 : Int) (a8 : Rw) (a9 : Rw) (a10 : Rw) (a11 : Int) (a12 : Rw) (a13 : Rw) (a14 : Int) (a15 : Int) (a16 : Int) (a17 : ByteArray) (a18 : ByteArray) : L_spec_Hold none [.i a0, .i a1, .l a2, .l a3, .i a4, .i a5, .i a6, .i a7, .l a8, .l a9, .l a10, .i a11, .l a12, .l a13, .i a14, .i a15, .i a16, .s a17, .s a18] =
 (L_spec_l7Do none [.i a0, .i a1, .l a2, .l a3, .i a4, .i a5, .i a6, .i a7, .l a8, .l a9, .l a10, .i a11, .l a12, .l a13, .i a14, .i a15, .i a16, .i 2, .s a18, .s a17, .i 0, .s (⟨#[]⟩ : ByteArray), .l ([])]).bind fun y1 =>
 some [.i ((g y1 0).int), .i ((g y1 1).int), .i ((g y1 2).int), .i ((g y1 3).int), .i ((g y1 4).int), .i ((g y1 5).int), .i ((g y1 6).int), .i ((g y1 7).int), .i ((g y1 8).int), .i ((g y1 9).int), .i ((g y1 10).int), .s ((g y1 11).str), .i ((g y1 12).int), .s ((g y1 13).str), .s ((g y1 14).str), .l ((g y1 15).list), .l ((g y1 16).list), .l ((g y1 17).list), .l ((g y1 18).list), .l ((g y1 19).list), .l ((g y1 20).list), .l ((g y1 21).list)] := (Lim_eq _ _).trans (by kernel_rfl)
theorem k_spec_Hold : SigOk Tryz.prog (d_spec_Hold.sig (L_spec_Hold none)) ∧ (d_spec_Hold.sig (L_spec_Hold none)).ok = true := sound_lim (known_cons k_spec_l7Do (by kernel_rfl) known_nil) (by kernel_rfl) (by kernel_rfl) (by kernel_rfl)
def d_spec_Loosen : FD := { fn := 82, nb := 0, pre := ⟨[.ag [.i .i64 0, .i .i64 1, .fz 9 false 2, .fz 9 false 3, .i .i64 4, .i .i64 5, .i .i64 6, .i .i64 7, .fz 90 false 8, .fz 156 false 9, .fz 158 false 10, .i .i64 11, .fz 9 false 12, .fz 9 false 13, .i .i64 14, .i .i64 15, .i .i64 16], .sc (.s 17)], []⟩, post := ⟨[.ag [.i .i64 0, .i .i64 1, .i .i64 2, .ow 0, .ow 1, .i .i64 3, .i .i64 4, .i .i64 5, .i .i64 6, .ow 2, .ow 3, .ow 4, .i .i64 7, .ow 5, .ow 6, .i .i64 8, .i .i64 9, .i .i64 10, .s 11, .i .i64 12, .s 13, .s 14]], [.rw 9 true 15, .rw 9 true 16, .rw 90 true 17, .rw 156 true 18, .rw 158 true 19, .rw 9 true 20, .rw 9 true 21]⟩, sh := false, cuts := [] }
noncomputable def L_spec_Loosen : Option Nat → Lv → Option Lv := Lim Tryz.prog [d_spec_l7Do.sig (L_spec_l7Do none)] d_spec_Loosen Tryz.f82
theorem e_spec_Loosen_i (a0 : Int) (a1 : Int) (a2 : Rw) (a3 : Rw) (a4 : Int) (a5 : Int) (a6 : Int) (a7 : Int) (a8 : Rw) (a9 : Rw) (a10 : Rw) (a11 : Int) (a12 : Rw) (a13 : Rw) (a14 : Int) (a15 : Int) (a16 : Int) (a17 : ByteArray) : L_spec_Loosen none [.i a0, .i a1, .l a2, .l a3, .i a4, .i a5, .i a6, .i a7, .l a8, .l a9, .l a10, .i a11, .l a12, .l a13, .i a14, .i a15, .i a16, .s a17] =
 (L_spec_l7Do none [.i a0, .i a1, .l a2, .l a3, .i a4, .i a5, .i a6, .i a7, .l a8, .l a9, .l a10, .i a11, .l a12, .l a13, .i a14, .i a15, .i a16, .i 3, .s (⟨#[]⟩ : ByteArray), .s a17, .i 0, .s (⟨#[]⟩ : ByteArray), .l ([])]).bind fun y1 =>
 some [.i ((g y1 0).int), .i ((g y1 1).int), .i ((g y1 2).int), .i ((g y1 3).int), .i ((g y1 4).int), .i ((g y1 5).int), .i ((g y1 6).int), .i ((g y1 7).int), .i ((g y1 8).int), .i ((g y1 9).int), .i ((g y1 10).int), .s ((g y1 11).str), .i ((g y1 12).int), .s ((g y1 13).str), .s ((g y1 14).str), .l ((g y1 15).list), .l ((g y1 16).list), .l ((g y1 17).list), .l ((g y1 18).list), .l ((g y1 19).list), .l ((g y1 20).list), .l ((g y1 21).list)] := (Lim_eq _ _).trans (by kernel_rfl)
theorem k_spec_Loosen : SigOk Tryz.prog (d_spec_Loosen.sig (L_spec_Loosen none)) ∧ (d_spec_Loosen.sig (L_spec_Loosen none)).ok = true := sound_lim (known_cons k_spec_l7Do (by kernel_rfl) known_nil) (by kernel_rfl) (by kernel_rfl) (by kernel_rfl)
def d_spec_Borrow : FD := { fn := 83, nb := 0, pre := ⟨[.ag [.i .i64 0, .i .i64 1, .fz 9 false 2, .fz 9 false 3, .i .i64 4, .i .i64 5, .i .i64 6, .i .i64 7, .fz 90 false 8, .fz 156 false 9, .fz 158 false 10, .i .i64 11, .fz 9 false 12, .fz 9 false 13, .i .i64 14, .i .i64 15, .i .i64 16], .sc (.s 17), .sc (.i .i64 18)], []⟩, post := ⟨[.ag [.i .i64 0, .i .i64 1, .i .i64 2, .ow 0, .ow 1, .i .i64 3, .i .i64 4, .i .i64 5, .i .i64 6, .ow 2, .ow 3, .ow 4, .i .i64 7, .ow 5, .ow 6, .i .i64 8, .i .i64 9, .i .i64 10, .s 11, .i .i64 12, .s 13, .s 14]], [.rw 9 true 15, .rw 9 true 16, .rw 90 true 17, .rw 156 true 18, .rw 158 true 19, .rw 9 true 20, .rw 9 true 21]⟩, sh := false, cuts := [] }
noncomputable def L_spec_Borrow : Option Nat → Lv → Option Lv := Lim Tryz.prog [d_spec_l7Do.sig (L_spec_l7Do none)] d_spec_Borrow Tryz.f83
theorem e_spec_Borrow_i (a0 : Int) (a1 : Int) (a2 : Rw) (a3 : Rw) (a4 : Int) (a5 : Int) (a6 : Int) (a7 : Int) (a8 : Rw) (a9 : Rw) (a10 : Rw) (a11 : Int) (a12 : Rw) (a13 : Rw) (a14 : Int) (a15 : Int) (a16 : Int) (a17 : ByteArray) (a18 : Int) : L_spec_Borrow none [.i a0, .i a1, .l a2, .l a3, .i a4, .i a5, .i a6, .i a7, .l a8, .l a9, .l a10, .i a11, .l a12, .l a13, .i a14, .i a15, .i a16, .s a17, .i a18] =
 (L_spec_l7Do none [.i a0, .i a1, .l a2, .l a3, .i a4, .i a5, .i a6, .i a7, .l a8, .l a9, .l a10, .i a11, .l a12, .l a13, .i a14, .i a15, .i a16, .i 4, .s a17, .s (⟨#[]⟩ : ByteArray), .i a18, .s (⟨#[]⟩ : ByteArray), .l ([])]).bind fun y1 =>
 some [.i ((g y1 0).int), .i ((g y1 1).int), .i ((g y1 2).int), .i ((g y1 3).int), .i ((g y1 4).int), .i ((g y1 5).int), .i ((g y1 6).int), .i ((g y1 7).int), .i ((g y1 8).int), .i ((g y1 9).int), .i ((g y1 10).int), .s ((g y1 11).str), .i ((g y1 12).int), .s ((g y1 13).str), .s ((g y1 14).str), .l ((g y1 15).list), .l ((g y1 16).list), .l ((g y1 17).list), .l ((g y1 18).list), .l ((g y1 19).list), .l ((g y1 20).list), .l ((g y1 21).list)] := (Lim_eq _ _).trans (by kernel_rfl)
theorem k_spec_Borrow : SigOk Tryz.prog (d_spec_Borrow.sig (L_spec_Borrow none)) ∧ (d_spec_Borrow.sig (L_spec_Borrow none)).ok = true := sound_lim (known_cons k_spec_l7Do (by kernel_rfl) known_nil) (by kernel_rfl) (by kernel_rfl) (by kernel_rfl)
def d_spec_GiveBack : FD := { fn := 84, nb := 0, pre := ⟨[.ag [.i .i64 0, .i .i64 1, .fz 9 false 2, .fz 9 false 3, .i .i64 4, .i .i64 5, .i .i64 6, .i .i64 7, .fz 90 false 8, .fz 156 false 9, .fz 158 false 10, .i .i64 11, .fz 9 false 12, .fz 9 false 13, .i .i64 14, .i .i64 15, .i .i64 16], .sc (.i .i64 17)], []⟩, post := ⟨[.ag [.i .i64 0, .i .i64 1, .i .i64 2, .ow 0, .ow 1, .i .i64 3, .i .i64 4, .i .i64 5, .i .i64 6, .ow 2, .ow 3, .ow 4, .i .i64 7, .ow 5, .ow 6, .i .i64 8, .i .i64 9, .i .i64 10, .s 11, .i .i64 12, .s 13, .s 14]], [.rw 9 true 15, .rw 9 true 16, .rw 90 true 17, .rw 156 true 18, .rw 158 true 19, .rw 9 true 20, .rw 9 true 21]⟩, sh := false, cuts := [] }
noncomputable def L_spec_GiveBack : Option Nat → Lv → Option Lv := Lim Tryz.prog [d_spec_l7Do.sig (L_spec_l7Do none)] d_spec_GiveBack Tryz.f84
theorem e_spec_GiveBack_i (a0 : Int) (a1 : Int) (a2 : Rw) (a3 : Rw) (a4 : Int) (a5 : Int) (a6 : Int) (a7 : Int) (a8 : Rw) (a9 : Rw) (a10 : Rw) (a11 : Int) (a12 : Rw) (a13 : Rw) (a14 : Int) (a15 : Int) (a16 : Int) (a17 : Int) : L_spec_GiveBack none [.i a0, .i a1, .l a2, .l a3, .i a4, .i a5, .i a6, .i a7, .l a8, .l a9, .l a10, .i a11, .l a12, .l a13, .i a14, .i a15, .i a16, .i a17] =
 (L_spec_l7Do none [.i a0, .i a1, .l a2, .l a3, .i a4, .i a5, .i a6, .i a7, .l a8, .l a9, .l a10, .i a11, .l a12, .l a13, .i a14, .i a15, .i a16, .i 5, .s (⟨#[]⟩ : ByteArray), .s (⟨#[]⟩ : ByteArray), .i a17, .s (⟨#[]⟩ : ByteArray), .l ([])]).bind fun y1 =>
 some [.i ((g y1 0).int), .i ((g y1 1).int), .i ((g y1 2).int), .i ((g y1 3).int), .i ((g y1 4).int), .i ((g y1 5).int), .i ((g y1 6).int), .i ((g y1 7).int), .i ((g y1 8).int), .i ((g y1 9).int), .i ((g y1 10).int), .s ((g y1 11).str), .i ((g y1 12).int), .s ((g y1 13).str), .s ((g y1 14).str), .l ((g y1 15).list), .l ((g y1 16).list), .l ((g y1 17).list), .l ((g y1 18).list), .l ((g y1 19).list), .l ((g y1 20).list), .l ((g y1 21).list)] := (Lim_eq _ _).trans (by kernel_rfl)
theorem k_spec_GiveBack : SigOk Tryz.prog (d_spec_GiveBack.sig (L_spec_GiveBack none)) ∧ (d_spec_GiveBack.sig (L_spec_GiveBack none)).ok = true := sound_lim (known_cons k_spec_l7Do (by kernel_rfl) known_nil) (by kernel_rfl) (by kernel_rfl) (by kernel_rfl)
def d_spec_Wait : FD := { fn := 85, nb := 0, pre := ⟨[.ag [.i .i64 0, .i .i64 1, .fz 9 false 2, .fz 9 false 3, .i .i64 4, .i .i64 5, .i .i64 6, .i .i64 7, .fz 90 false 8, .fz 156 false 9, .fz 158 false 10, .i .i64 11, .fz 9 false 12, .fz 9 false 13, .i .i64 14, .i .i64 15, .i .i64 16], .sc (.i .i64 17)], []⟩, post := ⟨[.ag [.i .i64 0, .i .i64 1, .i .i64 2, .ow 0, .ow 1, .i .i64 3, .i .i64 4, .i .i64 5, .i .i64 6, .ow 2, .ow 3, .ow 4, .i .i64 7, .ow 5, .ow 6, .i .i64 8, .i .i64 9, .i .i64 10, .s 11, .i .i64 12, .s 13, .s 14]], [.rw 9 true 15, .rw 9 true 16, .rw 90 true 17, .rw 156 true 18, .rw 158 true 19, .rw 9 true 20, .rw 9 true 21]⟩, sh := false, cuts := [] }
noncomputable def L_spec_Wait : Option Nat → Lv → Option Lv := Lim Tryz.prog [d_spec_l7Do.sig (L_spec_l7Do none)] d_spec_Wait Tryz.f85
theorem e_spec_Wait_i (a0 : Int) (a1 : Int) (a2 : Rw) (a3 : Rw) (a4 : Int) (a5 : Int) (a6 : Int) (a7 : Int) (a8 : Rw) (a9 : Rw) (a10 : Rw) (a11 : Int) (a12 : Rw) (a13 : Rw) (a14 : Int) (a15 : Int) (a16 : Int) (a17 : Int) : L_spec_Wait none [.i a0, .i a1, .l a2, .l a3, .i a4, .i a5, .i a6, .i a7, .l a8, .l a9, .l a10, .i a11, .l a12, .l a13, .i a14, .i a15, .i a16, .i a17] =
 (L_spec_l7Do none [.i a0, .i a1, .l a2, .l a3, .i a4, .i a5, .i a6, .i a7, .l a8, .l a9, .l a10, .i a11, .l a12, .l a13, .i a14, .i a15, .i a16, .i 6, .s (⟨#[]⟩ : ByteArray), .s (⟨#[]⟩ : ByteArray), .i a17, .s (⟨#[]⟩ : ByteArray), .l ([])]).bind fun y1 =>
 some [.i ((g y1 0).int), .i ((g y1 1).int), .i ((g y1 2).int), .i ((g y1 3).int), .i ((g y1 4).int), .i ((g y1 5).int), .i ((g y1 6).int), .i ((g y1 7).int), .i ((g y1 8).int), .i ((g y1 9).int), .i ((g y1 10).int), .s ((g y1 11).str), .i ((g y1 12).int), .s ((g y1 13).str), .s ((g y1 14).str), .l ((g y1 15).list), .l ((g y1 16).list), .l ((g y1 17).list), .l ((g y1 18).list), .l ((g y1 19).list), .l ((g y1 20).list), .l ((g y1 21).list)] := (Lim_eq _ _).trans (by kernel_rfl)
theorem k_spec_Wait : SigOk Tryz.prog (d_spec_Wait.sig (L_spec_Wait none)) ∧ (d_spec_Wait.sig (L_spec_Wait none)).ok = true := sound_lim (known_cons k_spec_l7Do (by kernel_rfl) known_nil) (by kernel_rfl) (by kernel_rfl) (by kernel_rfl)
def d_spec_l5Roots : FD := { fn := 95, nb := 0, pre := ⟨[.ag [.i .i64 0, .i .i64 1, .i .i64 2, .i .i64 3, .fz 90 false 4, .fz 156 false 5, .fz 158 false 6]], []⟩, post := ⟨[.sc (.ow 0)], [.rw 9 true 0]⟩, sh := false, cuts := [⟨3, [1, 3, 4], ⟨[.sc (.pt 0 0), .sc (.ow 1), .sc (.i .i64 0)], [.bx [.i .i64 1, .i .i64 2, .i .i64 3, .i .i64 4, .fz 90 false 5, .fz 156 false 6, .fz 158 false 7], .rw 9 true 8]⟩⟩, ⟨8, [1, 3, 5], ⟨[.sc (.pt 0 0), .sc (.ow 1), .sc (.i .i64 0)], [.bx [.i .i64 1, .i .i64 2, .i .i64 3, .i .i64 4, .fz 90 false 5, .fz 156 false 6, .fz 158 false 7], .rw 9 true 8]⟩⟩] }
noncomputable def L_spec_l5Roots : Option Nat → Lv → Option Lv := Lim Tryz.prog [d_spec_l4Has.sig (L_spec_l4Has none)] d_spec_l5Roots Tryz.f95
theorem e_spec_l5Roots_i (a0 : Int) (a1 : Int) (a2 : Int) (a3 : Int) (a4 : Rw) (a5 : Rw) (a6 : Rw) : L_spec_l5Roots none [.i a0, .i a1, .i a2, .i a3, .l a4, .l a5, .l a6] =
 L_spec_l5Roots (some 3) [.i 0, .i a0, .i a1, .i a2, .i a3, .l a4, .l a5, .l a6, .l ([] : Rw)] := (Lim_eq _ _).trans (by kernel_rfl)
theorem e_spec_l5Roots_3 (a0 : Int) (a1 : Int) (a2 : Int) (a3 : Int) (a4 : Int) (a5 : Rw) (a6 : Rw) (a7 : Rw) (a8 : Rw) : L_spec_l5Roots (some 3) [.i a0, .i a1, .i a2, .i a3, .i a4, .l a5, .l a6, .l a7, .l a8] =
 cond (decide (a0 < (a6.length : Int))) (
 cond (inb a0 a6.length) (
 (L_spec_l4Has none [.l a8, .s ((rd a6 a0.toNat 1).str)]).bind fun y1 =>
 cond (!(g y1 0).bool) (
 cond (inb a0 a6.length) (
 cond (decide (a8.length + ([[.s ((rd a6 a0.toNat 1).str)]] : Rw).length ≤ most)) (
 L_spec_l5Roots (some 3) [.i (IntKind.i64.wrap (a0 + 1)), .i a1, .i a2, .i a3, .i a4, .l a5, .l a6, .l a7, .l (a8 ++ ([[.s ((rd a6 a0.toNat 1).str)]] : Rw))]) (
 none)) (
 none)) (
 L_spec_l5Roots (some 3) [.i (IntKind.i64.wrap (a0 + 1)), .i a1, .i a2, .i a3, .i a4, .l a5, .l a6, .l a7, .l a8])) (
 none)) (
 L_spec_l5Roots (some 8) [.i 0, .i a1, .i a2, .i a3, .i a4, .l a5, .l a6, .l a7, .l a8]) := (Lim_eq _ _).trans (by kernel_rfl)
theorem e_spec_l5Roots_8 (a0 : Int) (a1 : Int) (a2 : Int) (a3 : Int) (a4 : Int) (a5 : Rw) (a6 : Rw) (a7 : Rw) (a8 : Rw) : L_spec_l5Roots (some 8) [.i a0, .i a1, .i a2, .i a3, .i a4, .l a5, .l a6, .l a7, .l a8] =
 cond (decide (a0 < (a7.length : Int))) (
 cond (inb a0 a7.length) (
 (L_spec_l4Has none [.l a8, .s ((rd a7 a0.toNat 1).str)]).bind fun y1 =>
 cond (!(g y1 0).bool) (
 cond (inb a0 a7.length) (
 cond (decide (a8.length + ([[.s ((rd a7 a0.toNat 1).str)]] : Rw).length ≤ most)) (
 L_spec_l5Roots (some 8) [.i (IntKind.i64.wrap (a0 + 1)), .i a1, .i a2, .i a3, .i a4, .l a5, .l a6, .l a7, .l (a8 ++ ([[.s ((rd a7 a0.toNat 1).str)]] : Rw))]) (
 none)) (
 none)) (
 L_spec_l5Roots (some 8) [.i (IntKind.i64.wrap (a0 + 1)), .i a1, .i a2, .i a3, .i a4, .l a5, .l a6, .l a7, .l a8])) (
 none)) (
 some [.l a8]) := (Lim_eq _ _).trans (by kernel_rfl)
theorem k_spec_l5Roots : SigOk Tryz.prog (d_spec_l5Roots.sig (L_spec_l5Roots none)) ∧ (d_spec_l5Roots.sig (L_spec_l5Roots none)).ok = true := sound_lim (known_cons k_spec_l4Has (by kernel_rfl) known_nil) (by kernel_rfl) (by kernel_rfl) (by kernel_rfl)
def d_spec_l6Next : FD := { fn := 208, nb := 0, pre := ⟨[.ag [.i .i64 0, .i .i64 1, .i .i64 2, .i .i64 3, .fz 90 false 4, .fz 156 false 5, .fz 158 false 6], .sc (.i .i64 7)], []⟩, post := ⟨[.sc (.i .i64 0)], []⟩, sh := false, cuts := [⟨3, [1, 2, 5, 6], ⟨[.sc (.i .i64 0), .sc (.pt 0 0), .sc (.i .i64 1), .sc (.i .i64 2)], [.bx [.i .i64 3, .i .i64 4, .i .i64 5, .i .i64 6, .fz 90 false 7, .fz 156 false 8, .fz 158 false 9]]⟩⟩] }
noncomputable def L_spec_l6Next : Option Nat → Lv → Option Lv := Lim Tryz.prog [] d_spec_l6Next Tryz.f208
theorem e_spec_l6Next_i (a0 : Int) (a1 : Int) (a2 : Int) (a3 : Int) (a4 : Rw) (a5 : Rw) (a6 : Rw) (a7 : Int) : L_spec_l6Next none [.i a0, .i a1, .i a2, .i a3, .l a4, .l a5, .l a6, .i a7] =
 L_spec_l6Next (some 3) [.i a7, .i (-1), .i 0, .i a0, .i a1, .i a2, .i a3, .l a4, .l a5, .l a6] := (Lim_eq _ _).trans (by kernel_rfl)
theorem e_spec_l6Next_3 (a0 : Int) (a1 : Int) (a2 : Int) (a3 : Int) (a4 : Int) (a5 : Int) (a6 : Int) (a7 : Rw) (a8 : Rw) (a9 : Rw) : L_spec_l6Next (some 3) [.i a0, .i a1, .i a2, .i a3, .i a4, .i a5, .i a6, .l a7, .l a8, .l a9] =
 cond (decide (a2 < (a7.length : Int))) (
 cond (inb a2 a7.length) (
 cond (decide ((rd a7 a2.toNat 1).int < a0)) (
 cond (decide (a1 < 0)) (
 L_spec_l6Next (some 3) [.i a0, .i a2, .i (IntKind.i64.wrap (a2 + 1)), .i a3, .i a4, .i a5, .i a6, .l a7, .l a8, .l a9]) (
 cond (inb a2 a7.length) (
 cond (inb a1 a7.length) (
 cond (decide ((rd a7 a1.toNat 1).int < (rd a7 a2.toNat 1).int)) (
 L_spec_l6Next (some 3) [.i a0, .i a2, .i (IntKind.i64.wrap (a2 + 1)), .i a3, .i a4, .i a5, .i a6, .l a7, .l a8, .l a9]) (
 L_spec_l6Next (some 3) [.i a0, .i a1, .i (IntKind.i64.wrap (a2 + 1)), .i a3, .i a4, .i a5, .i a6, .l a7, .l a8, .l a9])) (
 none)) (
 none))) (
 L_spec_l6Next (some 3) [.i a0, .i a1, .i (IntKind.i64.wrap (a2 + 1)), .i a3, .i a4, .i a5, .i a6, .l a7, .l a8, .l a9])) (
 none)) (
 some [.i a1]) := (Lim_eq _ _).trans (by kernel_rfl)
theorem k_spec_l6Next : SigOk Tryz.prog (d_spec_l6Next.sig (L_spec_l6Next none)) ∧ (d_spec_l6Next.sig (L_spec_l6Next none)).ok = true := sound_lim known_nil (by kernel_rfl) (by kernel_rfl) (by kernel_rfl)
def d_spec_l4Drop__plain : FD := { fn := 183, nb := 0, pre := ⟨[.ag [.i .i64 0, .i .i64 1, .i .i64 2, .i .i64 3, .fz 90 false 4, .fz 156 false 5, .fz 158 false 6], .sc (.s 7)], []⟩, post := ⟨[.ag [.i .i64 0, .i .i64 1, .i .i64 2, .i .i64 3, .i .i64 4, .ow 0, .fz 156 false 5, .fz 158 false 6, .s 7, .i .i64 8, .s 9, .s 10]], [.rw 90 false 11]⟩, sh := true, cuts := [⟨7, [1, 2, 4, 5, 6], ⟨[.sc (.s 0), .sc (.pt 0 0), .sc (.pt 1 0), .sc (.ow 2), .sc (.i .i64 1)], [.bx [.i .i64 2, .i .i64 3, .i .i64 4, .i .i64 5, .fz 90 false 6, .fz 156 false 7, .fz 158 false 8], .bx [.i .i64 9, .i .i64 10, .i .i64 11, .i .i64 12, .i .i64 13, .ow 3, .ow 4, .ow 5, .s 14, .i .i64 15, .s 16, .s 17], .rw 90 false 18, .rw 90 true 19, .rw 156 true 20, .rw 158 true 21]⟩⟩] }
noncomputable def L_spec_l4Drop__plain : Option Nat → Lv → Option Lv := Lim Tryz.prog [d_spec_l4Find.sig (L_spec_l4Find none), d_spec_l4Has.sig (L_spec_l4Has none), d_spec_l4Held.sig (L_spec_l4Held none)] d_spec_l4Drop__plain Tryz.f183
theorem e_spec_l4Drop__plain_i (a0 : Int) (a1 : Int) (a2 : Int) (a3 : Int) (a4 : Rw) (a5 : Rw) (a6 : Rw) (a7 : ByteArray) : L_spec_l4Drop__plain none [.i a0, .i a1, .i a2, .i a3, .l a4, .l a5, .l a6, .s a7] =
 (L_spec_l4Find none [.i a0, .i a1, .i a2, .i a3, .l a4, .l a5, .l a6, .s a7]).bind fun y1 =>
 cond (decide ((g y1 0).int < 0)) (
 some [.i 2, .i 0, .i 0, .i 0, .i 0, .l ([]), .l ([]), .s (⟨#[]⟩ : ByteArray), .i 0, .s (⟨#[]⟩ : ByteArray), .s (⟨#[]⟩ : ByteArray), .l []]) (
 (L_spec_l4Held none [.i a0, .i a1, .i a2, .i a3, .l a4, .l a5, .l a6, .s a7]).bind fun y2 =>
 cond ((g y2 0).bool) (
 some [.i 6, .i 0, .i 0, .i 0, .i 0, .l ([]), .l ([]), .s (⟨#[]⟩ : ByteArray), .i 0, .s (⟨#[]⟩ : ByteArray), .s (⟨#[]⟩ : ByteArray), .l []]) (
 L_spec_l4Drop__plain (some 7) [.s a7, .i 0, .i a0, .i a1, .i a2, .i a3, .l a4, .l a5, .l a6, .i 0, .i 0, .i 0, .i 0, .i 0, .s (⟨#[]⟩ : ByteArray), .i 0, .s (⟨#[]⟩ : ByteArray), .s (⟨#[]⟩ : ByteArray), .l ([] : Rw), .l [], .l [], .l []])) := (Lim_eq _ _).trans (by kernel_rfl)
theorem e_spec_l4Drop__plain_7 (a0 : ByteArray) (a1 : Int) (a2 : Int) (a3 : Int) (a4 : Int) (a5 : Int) (a6 : Rw) (a7 : Rw) (a8 : Rw) (a9 : Int) (a10 : Int) (a11 : Int) (a12 : Int) (a13 : Int) (a14 : ByteArray) (a15 : Int) (a16 : ByteArray) (a17 : ByteArray) (a18 : Rw) (a19 : Rw) (a20 : Rw) (a21 : Rw) : L_spec_l4Drop__plain (some 7) [.s a0, .i a1, .i a2, .i a3, .i a4, .i a5, .l a6, .l a7, .l a8, .i a9, .i a10, .i a11, .i a12, .i a13, .s a14, .i a15, .s a16, .s a17, .l a18, .l a19, .l a20, .l a21] =
 cond (decide (a1 < (a6.length : Int))) (
 cond (inb a1 a6.length) (
 (L_spec_l4Has none [.l ((rd a6 a1.toNat 3).list), .s a0]).bind fun y1 =>
 cond ((g y1 0).bool) (
 some [.i 6, .i 0, .i 0, .i 0, .i 0, .l ([]), .l ([]), .s (⟨#[]⟩ : ByteArray), .i 0, .s (⟨#[]⟩ : ByteArray), .s (⟨#[]⟩ : ByteArray), .l []]) (
 cond (inb a1 a6.length) (
 cond (!Eng.seq ((rd a6 a1.toNat 0).str) a0) (
 cond (inb a1 a6.length) (
 cond (decide (a18.length + ([[.s ((rd a6 a1.toNat 0).str), .i ((rd a6 a1.toNat 1).int), .s ((rd a6 a1.toNat 2).str), .l ((rd a6 a1.toNat 3).list)]] : Rw).length ≤ most)) (
 L_spec_l4Drop__plain (some 7) [.s a0, .i (IntKind.i64.wrap (a1 + 1)), .i a2, .i a3, .i a4, .i a5, .l a6, .l a7, .l a8, .i a9, .i a10, .i a11, .i a12, .i a13, .s a14, .i a15, .s a16, .s a17, .l (a18 ++ ([[.s ((rd a6 a1.toNat 0).str), .i ((rd a6 a1.toNat 1).int), .s ((rd a6 a1.toNat 2).str), .l ((rd a6 a1.toNat 3).list)]] : Rw)), .l a19, .l a20, .l a21]) (
 none)) (
 none)) (
 L_spec_l4Drop__plain (some 7) [.s a0, .i (IntKind.i64.wrap (a1 + 1)), .i a2, .i a3, .i a4, .i a5, .l a6, .l a7, .l a8, .i a9, .i a10, .i a11, .i a12, .i a13, .s a14, .i a15, .s a16, .s a17, .l a18, .l a19, .l a20, .l a21])) (
 none))) (
 none)) (
 some [.i 0, .i a2, .i a3, .i a4, .i a5, .l a7, .l a8, .s (⟨#[]⟩ : ByteArray), .i 0, .s (⟨#[]⟩ : ByteArray), .s (⟨#[]⟩ : ByteArray), .l a18]) := (Lim_eq _ _).trans (by kernel_rfl)
theorem k_spec_l4Drop__plain : SigOk Tryz.prog (d_spec_l4Drop__plain.sig (L_spec_l4Drop__plain none)) ∧ (d_spec_l4Drop__plain.sig (L_spec_l4Drop__plain none)).ok = true := sound_lim (known_cons k_spec_l4Find (by kernel_rfl) (known_cons k_spec_l4Has (by kernel_rfl) (known_cons k_spec_l4Held (by kernel_rfl) known_nil))) (by kernel_rfl) (by kernel_rfl) (by kernel_rfl)
def d_spec_l6Unit : FD := { fn := 157, nb := 0, pre := ⟨[.ag [.i .i64 0, .i .i64 1, .i .i64 2, .i .i64 3, .fz 90 false 4, .fz 156 false 5, .fz 158 false 6], .ag [.i .i64 7, .fz 9 false 8, .fz 9 false 9, .i .i64 10, .i .i64 11, .i .i64 12]], []⟩, post := ⟨[.ag [.i .i64 0, .i .i64 1, .i .i64 2, .i .i64 3, .i .i64 4, .fz 90 false 5, .fz 156 false 6, .fz 158 false 7, .i .i64 8, .fz 9 false 9, .fz 9 false 10, .i .i64 11, .i .i64 12, .i .i64 13, .ow 0]], [.rw 9 true 14]⟩, sh := true, cuts := [⟨15, [2, 3, 4, 6, 8, 9], ⟨[.sc (.pt 0 0), .sc (.pt 1 0), .sc (.pt 2 0), .sc (.ow 3), .sc (.fz 9 false 0), .sc (.i .i64 1)], [.bx [.i .i64 2, .i .i64 3, .i .i64 4, .i .i64 5, .fz 90 false 6, .fz 156 false 7, .fz 158 false 8], .bx [.i .i64 9, .fz 9 false 10, .ow 4, .i .i64 11, .i .i64 12, .i .i64 13], .bx [.i .i64 14, .i .i64 15, .i .i64 16, .i .i64 17, .i .i64 18, .ow 5, .ow 6, .ow 7, .i .i64 19, .ow 8, .ow 9, .i .i64 20, .i .i64 21, .i .i64 22, .ow 10], .rw 9 true 23, .rw 9 true 24, .rw 90 true 25, .rw 156 true 26, .rw 158 true 27, .rw 9 true 28, .rw 9 true 29, .rw 9 true 30]⟩⟩] }
noncomputable def L_spec_l6Unit : Option Nat → Lv → Option Lv := Lim Tryz.prog [d_spec_l4Find.sig (L_spec_l4Find none), d_spec_l4Has.sig (L_spec_l4Has none), d_spec_l5Roots.sig (L_spec_l5Roots none), d_spec_l6Next.sig (L_spec_l6Next none), d_spec_l4Drop__plain.sig (L_spec_l4Drop__plain none)] d_spec_l6Unit Tryz.f157
theorem e_spec_l6Unit_i (a0 : Int) (a1 : Int) (a2 : Int) (a3 : Int) (a4 : Rw) (a5 : Rw) (a6 : Rw) (a7 : Int) (a8 : Rw) (a9 : Rw) (a10 : Int) (a11 : Int) (a12 : Int) : L_spec_l6Unit none [.i a0, .i a1, .i a2, .i a3, .l a4, .l a5, .l a6, .i a7, .l a8, .l a9, .i a10, .i a11, .i a12] =
 cond (a7 == 0) (
 (L_spec_l5Roots none [.i a0, .i a1, .i a2, .i a3, .l a4, .l a5, .l a6]).bind fun y1 =>
 some [.i 0, .i a0, .i a1, .i a2, .i a3, .l a4, .l a5, .l a6, .i 1, .l ((g y1 0).list), .l a9, .i a3, .i (IntKind.i64.wrap (a3 + 1)), .i a12, .l []]) (
 cond (decide (0 < (a8.length : Int))) (
 cond (inb 0 a8.length) (
 cond (decide (1 ≤ (a8.length : Int))) (
 cond (decide (([] : Rw).length + (Eng.sub a8 1 a8.length).length ≤ most)) (
 (L_spec_l4Find none [.i a0, .i a1, .i a2, .i a3, .l a4, .l a5, .l a6, .s ((rd a8 0 0).str)]).bind fun y2 =>
 cond (decide (0 ≤ (g y2 0).int)) (
 (L_spec_l4Has none [.l a9, .s ((rd a8 0 0).str)]).bind fun y3 =>
 cond (!(g y3 0).bool) (
 cond (decide (([] : Rw).length + a9.length ≤ most)) (
 cond (decide ((([] : Rw) ++ a9).length + ([[.s ((rd a8 0 0).str)]] : Rw).length ≤ most)) (
 cond (inb ((g y2 0).int) a4.length) (
 L_spec_l6Unit (some 15) [.l ((rd a4 (((g y2 0).int).toNat) 3).list), .i 0, .i a0, .i a1, .i a2, .i a3, .l a4, .l a5, .l a6, .i a7, .l a8, .i a10, .i a11, .i a12, .i 0, .i 0, .i 0, .i 0, .i 0, .i 0, .i 0, .i 0, .i 0, .l (([] : Rw) ++ (Eng.sub a8 1 a8.length)), .l ((([] : Rw) ++ a9) ++ ([[.s ((rd a8 0 0).str)]] : Rw)), .l [], .l [], .l [], .l [], .l [], .l []]) (
 none)) (
 none)) (
 none)) (
 some [.i 0, .i a0, .i a1, .i a2, .i a3, .l a4, .l a5, .l a6, .i a7, .l (([] : Rw) ++ (Eng.sub a8 1 a8.length)), .l a9, .i a10, .i a11, .i a12, .l []])) (
 some [.i 0, .i a0, .i a1, .i a2, .i a3, .l a4, .l a5, .l a6, .i a7, .l (([] : Rw) ++ (Eng.sub a8 1 a8.length)), .l a9, .i a10, .i a11, .i a12, .l []])) (
 none)) (
 none)) (
 none)) (
 (L_spec_l6Next none [.i a0, .i a1, .i a2, .i a3, .l a4, .l a5, .l a6, .i a11]).bind fun y4 =>
 cond (decide ((g y4 0).int < 0)) (
 some [.i 0, .i a0, .i a1, .i a2, .i a3, .l a4, .l a5, .l a6, .i 0, .l ([]), .l ([]), .i 0, .i 0, .i (IntKind.i64.wrap (a12 + 1)), .l []]) (
 cond (inb ((g y4 0).int) a4.length) (
 cond (inb ((g y4 0).int) a4.length) (
 (L_spec_l4Has none [.l a9, .s ((rd a4 (((g y4 0).int).toNat) 0).str)]).bind fun y5 =>
 cond ((g y5 0).bool) (
 some [.i 0, .i a0, .i a1, .i a2, .i a3, .l a4, .l a5, .l a6, .i 2, .l a8, .l a9, .i a10, .i ((rd a4 (((g y4 0).int).toNat) 1).int), .i a12, .l []]) (
 (L_spec_l4Drop__plain none [.i a0, .i a1, .i a2, .i a3, .l a4, .l a5, .l a6, .s ((rd a4 (((g y4 0).int).toNat) 0).str)]).bind fun y6 =>
 cond ((g y6 0).int != 0) (
 some [.i 0, .i a0, .i a1, .i a2, .i a3, .l a4, .l a5, .l a6, .i 2, .l a8, .l a9, .i a10, .i ((rd a4 (((g y4 0).int).toNat) 1).int), .i a12, .l []]) (
 some [.i 0, .i ((g y6 1).int), .i ((g y6 2).int), .i ((g y6 3).int), .i ((g y6 4).int), .l ((g y6 11).list), .l ((g y6 5).list), .l ((g y6 6).list), .i 2, .l a8, .l a9, .i a10, .i ((rd a4 (((g y4 0).int).toNat) 1).int), .i a12, .l ([[.s ((rd a4 (((g y4 0).int).toNat) 0).str)]] : Rw)]))) (
 none)) (
 none)))) := (Lim_eq _ _).trans (by kernel_rfl)
theorem e_spec_l6Unit_15 (a0 : Rw) (a1 : Int) (a2 : Int) (a3 : Int) (a4 : Int) (a5 : Int) (a6 : Rw) (a7 : Rw) (a8 : Rw) (a9 : Int) (a10 : Rw) (a11 : Int) (a12 : Int) (a13 : Int) (a14 : Int) (a15 : Int) (a16 : Int) (a17 : Int) (a18 : Int) (a19 : Int) (a20 : Int) (a21 : Int) (a22 : Int) (a23 : Rw) (a24 : Rw) (a25 : Rw) (a26 : Rw) (a27 : Rw) (a28 : Rw) (a29 : Rw) (a30 : Rw) : L_spec_l6Unit (some 15) [.l a0, .i a1, .i a2, .i a3, .i a4, .i a5, .l a6, .l a7, .l a8, .i a9, .l a10, .i a11, .i a12, .i a13, .i a14, .i a15, .i a16, .i a17, .i a18, .i a19, .i a20, .i a21, .i a22, .l a23, .l a24, .l a25, .l a26, .l a27, .l a28, .l a29, .l a30] =
 cond (decide (a1 < (a0.length : Int))) (
 cond (inb a1 a0.length) (
 (L_spec_l4Has none [.l a24, .s ((rd a0 a1.toNat 0).str)]).bind fun y1 =>
 cond (!(g y1 0).bool) (
 cond (inb a1 a0.length) (
 cond (decide (a23.length + ([[.s ((rd a0 a1.toNat 0).str)]] : Rw).length ≤ most)) (
 L_spec_l6Unit (some 15) [.l a0, .i (IntKind.i64.wrap (a1 + 1)), .i a2, .i a3, .i a4, .i a5, .l a6, .l a7, .l a8, .i a9, .l a10, .i a11, .i a12, .i a13, .i a14, .i a15, .i a16, .i a17, .i a18, .i a19, .i a20, .i a21, .i a22, .l (a23 ++ ([[.s ((rd a0 a1.toNat 0).str)]] : Rw)), .l a24, .l a25, .l a26, .l a27, .l a28, .l a29, .l a30]) (
 none)) (
 none)) (
 L_spec_l6Unit (some 15) [.l a0, .i (IntKind.i64.wrap (a1 + 1)), .i a2, .i a3, .i a4, .i a5, .l a6, .l a7, .l a8, .i a9, .l a10, .i a11, .i a12, .i a13, .i a14, .i a15, .i a16, .i a17, .i a18, .i a19, .i a20, .i a21, .i a22, .l a23, .l a24, .l a25, .l a26, .l a27, .l a28, .l a29, .l a30])) (
 none)) (
 some [.i 0, .i a2, .i a3, .i a4, .i a5, .l a6, .l a7, .l a8, .i a9, .l a23, .l a24, .i a11, .i a12, .i a13, .l []]) := (Lim_eq _ _).trans (by kernel_rfl)
theorem k_spec_l6Unit : SigOk Tryz.prog (d_spec_l6Unit.sig (L_spec_l6Unit none)) ∧ (d_spec_l6Unit.sig (L_spec_l6Unit none)).ok = true := sound_lim (known_cons k_spec_l4Find (by kernel_rfl) (known_cons k_spec_l4Has (by kernel_rfl) (known_cons k_spec_l5Roots (by kernel_rfl) (known_cons k_spec_l6Next (by kernel_rfl) (known_cons k_spec_l4Drop__plain (by kernel_rfl) known_nil))))) (by kernel_rfl) (by kernel_rfl) (by kernel_rfl)
def d_spec_Clear : FD := { fn := 93, nb := 0, pre := ⟨[.ag [.i .i64 0, .i .i64 1, .fz 9 false 2, .fz 9 false 3, .i .i64 4, .i .i64 5, .i .i64 6, .i .i64 7, .fz 90 false 8, .fz 156 false 9, .fz 158 false 10, .i .i64 11, .fz 9 false 12, .fz 9 false 13, .i .i64 14, .i .i64 15, .i .i64 16], .sc (.i .i64 17)], []⟩, post := ⟨[.ag [.i .i64 0, .i .i64 1, .i .i64 2, .ow 0, .ow 1, .i .i64 3, .i .i64 4, .i .i64 5, .i .i64 6, .ow 2, .ow 3, .ow 4, .i .i64 7, .ow 5, .ow 6, .i .i64 8, .i .i64 9, .i .i64 10, .i .i64 11, .ow 7]], [.rw 9 true 12, .rw 9 true 13, .rw 90 true 14, .rw 156 true 15, .rw 158 true 16, .rw 9 true 17, .rw 9 true 18, .rw 9 true 19]⟩, sh := false, cuts := [⟨4, [1, 2, 4, 5], ⟨[.sc (.i .i64 0), .sc (.pt 0 0), .sc (.pt 1 0), .sc (.pt 2 0)], [.bx [.i .i64 1, .i .i64 2, .fz 9 false 3, .fz 9 false 4, .i .i64 5, .i .i64 6, .i .i64 7, .i .i64 8, .fz 90 false 9, .fz 156 false 10, .fz 158 false 11, .i .i64 12, .fz 9 false 13, .fz 9 false 14, .i .i64 15, .i .i64 16, .i .i64 17], .bx [.i .i64 18, .i .i64 19, .i .i64 20, .ow 3, .ow 4, .i .i64 21, .i .i64 22, .i .i64 23, .i .i64 24, .ow 5, .ow 6, .ow 7, .i .i64 25, .ow 8, .ow 9, .i .i64 26, .i .i64 27, .i .i64 28, .i .i64 29, .ow 10], .bx [.i .i64 30, .i .i64 31, .i .i64 32, .ow 11, .ow 12, .i .i64 33, .i .i64 34, .i .i64 35, .i .i64 36, .fz 90 true 37, .fz 156 true 38, .fz 158 true 39, .i .i64 40, .fz 9 true 41, .fz 9 true 42, .i .i64 43, .i .i64 44, .i .i64 45, .i .i64 46, .ow 13], .rw 9 true 47, .rw 9 true 48, .rw 90 true 49, .rw 156 true 50, .rw 158 true 51, .rw 9 true 52, .rw 9 true 53, .rw 9 true 54, .rw 9 true 55, .rw 9 true 56, .rw 9 true 57]⟩⟩] }
noncomputable def L_spec_Clear : Option Nat → Lv → Option Lv := Lim Tryz.prog [d_spec_FormEntry.sig (L_spec_FormEntry none), d_spec_l4Range.sig (L_spec_l4Range none), d_spec_ValidVault.sig (L_spec_ValidVault none), d_spec_l7Copy.sig (L_spec_l7Copy none), d_spec_l6Unit.sig (L_spec_l6Unit none)] d_spec_Clear Tryz.f93
theorem e_spec_Clear_i (a0 : Int) (a1 : Int) (a2 : Rw) (a3 : Rw) (a4 : Int) (a5 : Int) (a6 : Int) (a7 : Int) (a8 : Rw) (a9 : Rw) (a10 : Rw) (a11 : Int) (a12 : Rw) (a13 : Rw) (a14 : Int) (a15 : Int) (a16 : Int) (a17 : Int) : L_spec_Clear none [.i a0, .i a1, .l a2, .l a3, .i a4, .i a5, .i a6, .i a7, .l a8, .l a9, .l a10, .i a11, .l a12, .l a13, .i a14, .i a15, .i a16, .i a17] =
 (L_spec_ValidVault none [.i a0, .i a1, .l a2, .l a3, .i a4, .i a5, .i a6, .i a7, .l a8, .l a9, .l a10, .i a11, .l a12, .l a13, .i a14, .i a15, .i a16]).bind fun y1 =>
 cond (!(g y1 0).bool) (
 some [.i 1, .i 0, .i 0, .i 0, .i 0, .i 0, .i 0, .i 0, .i 0, .i 0, .i 0, .i 0, .l [], .l [], .l [], .l [], .l [], .l [], .l [], .l []]) (
 (L_spec_l4Range none [.i a17, .i 0, .i 10000]).bind fun y2 =>
 cond (!(g y2 0).bool) (
 some [.i 1, .i 0, .i 0, .i 0, .i 0, .i 0, .i 0, .i 0, .i 0, .i 0, .i 0, .i 0, .l [], .l [], .l [], .l [], .l [], .l [], .l [], .l []]) (
 (L_spec_l7Copy none [.i a0, .i a1, .l a2, .l a3, .i a4, .i a5, .i a6, .i a7, .l a8, .l a9, .l a10, .i a11, .l a12, .l a13, .i a14, .i a15, .i a16]).bind fun y3 =>
 L_spec_Clear (some 4) [.i a17, .i a0, .i a1, .l a2, .l a3, .i a4, .i a5, .i a6, .i a7, .l a8, .l a9, .l a10, .i a11, .l a12, .l a13, .i a14, .i a15, .i a16, .i 0, .i 0, .i 0, .i 0, .i 0, .i 0, .i 0, .i 0, .i 0, .i 0, .i 0, .i 0, .i 0, .i ((g y3 0).int), .i ((g y3 1).int), .i ((g y3 2).int), .i ((g y3 3).int), .i ((g y3 4).int), .i ((g y3 5).int), .l ((g y3 12).list), .l ((g y3 13).list), .l ((g y3 14).list), .i ((g y3 6).int), .l ((g y3 15).list), .l ((g y3 16).list), .i ((g y3 7).int), .i ((g y3 8).int), .i ((g y3 9).int), .i 0, .l [], .l [], .l [], .l [], .l [], .l [], .l [], .l [], .l ((g y3 10).list), .l ((g y3 11).list), .l []])) := (Lim_eq _ _).trans (by kernel_rfl)
theorem e_spec_Clear_4 (a0 : Int) (a1 : Int) (a2 : Int) (a3 : Rw) (a4 : Rw) (a5 : Int) (a6 : Int) (a7 : Int) (a8 : Int) (a9 : Rw) (a10 : Rw) (a11 : Rw) (a12 : Int) (a13 : Rw) (a14 : Rw) (a15 : Int) (a16 : Int) (a17 : Int) (a18 : Int) (a19 : Int) (a20 : Int) (a21 : Int) (a22 : Int) (a23 : Int) (a24 : Int) (a25 : Int) (a26 : Int) (a27 : Int) (a28 : Int) (a29 : Int) (a30 : Int) (a31 : Int) (a32 : Int) (a33 : Int) (a34 : Int) (a35 : Int) (a36 : Int) (a37 : Rw) (a38 : Rw) (a39 : Rw) (a40 : Int) (a41 : Rw) (a42 : Rw) (a43 : Int) (a44 : Int) (a45 : Int) (a46 : Int) (a47 : Rw) (a48 : Rw) (a49 : Rw) (a50 : Rw) (a51 : Rw) (a52 : Rw) (a53 : Rw) (a54 : Rw) (a55 : Rw) (a56 : Rw) (a57 : Rw) : L_spec_Clear (some 4) [.i a0, .i a1, .i a2, .l a3, .l a4, .i a5, .i a6, .i a7, .i a8, .l a9, .l a10, .l a11, .i a12, .l a13, .l a14, .i a15, .i a16, .i a17, .i a18, .i a19, .i a20, .i a21, .i a22, .i a23, .i a24, .i a25, .i a26, .i a27, .i a28, .i a29, .i a30, .i a31, .i a32, .i a33, .i a34, .i a35, .i a36, .l a37, .l a38, .l a39, .i a40, .l a41, .l a42, .i a43, .i a44, .i a45, .i a46, .l a47, .l a48, .l a49, .l a50, .l a51, .l a52, .l a53, .l a54, .l a55, .l a56, .l a57] =
 cond (decide (a46 < a0)) (
 cond (decide (1000000000 ≤ a45)) (
 some [.i 1, .i 0, .i 0, .i 0, .i 0, .i 0, .i 0, .i 0, .i 0, .i 0, .i 0, .i 0, .l [], .l [], .l [], .l [], .l [], .l [], .l [], .l []]) (
 (L_spec_l6Unit none [.i a33, .i a34, .i a35, .i a36, .l a37, .l a38, .l a39, .i a40, .l a41, .l a42, .i a43, .i a44, .i a45]).bind fun y1 =>
 cond (decide (23200 < (((g y1 9).list).length : Int))) (
 some [.i 1, .i 0, .i 0, .i 0, .i 0, .i 0, .i 0, .i 0, .i 0, .i 0, .i 0, .i 0, .l [], .l [], .l [], .l [], .l [], .l [], .l [], .l []]) (
 cond (decide (600 < (((g y1 10).list).length : Int))) (
 some [.i 1, .i 0, .i 0, .i 0, .i 0, .i 0, .i 0, .i 0, .i 0, .i 0, .i 0, .i 0, .l [], .l [], .l [], .l [], .l [], .l [], .l [], .l []]) (
 cond (decide (0 < (((g y1 14).list).length : Int))) (
 cond (decide (4000 ≤ (IntKind.i64.wrap ((a55.length : Int) + (a56.length : Int))))) (
 (L_spec_l7Copy none [.i a31, .i a32, .l a55, .l a56, .i a33, .i a34, .i a35, .i a36, .l a37, .l a38, .l a39, .i a40, .l a41, .l a42, .i a43, .i a44, .i a45]).bind fun y2 =>
 some [.i a30, .i ((g y2 0).int), .i ((g y2 1).int), .i ((g y2 2).int), .i ((g y2 3).int), .i ((g y2 4).int), .i ((g y2 5).int), .i ((g y2 6).int), .i ((g y2 7).int), .i ((g y2 8).int), .i ((g y2 9).int), .i a46, .l ((g y2 10).list), .l ((g y2 11).list), .l ((g y2 12).list), .l ((g y2 13).list), .l ((g y2 14).list), .l ((g y2 15).list), .l ((g y2 16).list), .l a57]) (
 cond (inb 0 (((g y1 14).list).length)) (
 (L_spec_FormEntry none [.i 7, .s ((rd ((g y1 14).list) 0 0).str), .s (⟨#[]⟩ : ByteArray), .i 0, .s (⟨#[]⟩ : ByteArray), .l ([]), .i a1]).bind fun y3 =>
 cond (decide (a56.length + ([[.s ((g y3 0).str)]] : Rw).length ≤ most)) (
 cond (inb 0 (((g y1 14).list).length)) (
 cond (decide (a57.length + ([[.s ((rd ((g y1 14).list) 0 0).str)]] : Rw).length ≤ most)) (
 L_spec_Clear (some 4) [.i a0, .i a1, .i a2, .l a3, .l a4, .i a5, .i a6, .i a7, .i a8, .l a9, .l a10, .l a11, .i a12, .l a13, .l a14, .i a15, .i a16, .i a17, .i a18, .i a19, .i a20, .i a21, .i a22, .i a23, .i a24, .i a25, .i a26, .i a27, .i a28, .i a29, .i a30, .i a31, .i a32, .i ((g y1 1).int), .i ((g y1 2).int), .i ((g y1 3).int), .i ((g y1 4).int), .l ((g y1 5).list), .l ((g y1 6).list), .l ((g y1 7).list), .i ((g y1 8).int), .l ((g y1 9).list), .l ((g y1 10).list), .i ((g y1 11).int), .i ((g y1 12).int), .i ((g y1 13).int), .i (IntKind.i64.wrap (a46 + 1)), .l a47, .l a48, .l a49, .l a50, .l a51, .l a52, .l a53, .l a54, .l a55, .l (a56 ++ ([[.s ((g y3 0).str)]] : Rw)), .l (a57 ++ ([[.s ((rd ((g y1 14).list) 0 0).str)]] : Rw))]) (
 none)) (
 none)) (
 none)) (
 none))) (
 L_spec_Clear (some 4) [.i a0, .i a1, .i a2, .l a3, .l a4, .i a5, .i a6, .i a7, .i a8, .l a9, .l a10, .l a11, .i a12, .l a13, .l a14, .i a15, .i a16, .i a17, .i a18, .i a19, .i a20, .i a21, .i a22, .i a23, .i a24, .i a25, .i a26, .i a27, .i a28, .i a29, .i a30, .i a31, .i a32, .i ((g y1 1).int), .i ((g y1 2).int), .i ((g y1 3).int), .i ((g y1 4).int), .l ((g y1 5).list), .l ((g y1 6).list), .l ((g y1 7).list), .i ((g y1 8).int), .l ((g y1 9).list), .l ((g y1 10).list), .i ((g y1 11).int), .i ((g y1 12).int), .i ((g y1 13).int), .i (IntKind.i64.wrap (a46 + 1)), .l a47, .l a48, .l a49, .l a50, .l a51, .l a52, .l a53, .l a54, .l a55, .l a56, .l a57]))))) (
 (L_spec_l7Copy none [.i a31, .i a32, .l a55, .l a56, .i a33, .i a34, .i a35, .i a36, .l a37, .l a38, .l a39, .i a40, .l a41, .l a42, .i a43, .i a44, .i a45]).bind fun y4 =>
 some [.i a30, .i ((g y4 0).int), .i ((g y4 1).int), .i ((g y4 2).int), .i ((g y4 3).int), .i ((g y4 4).int), .i ((g y4 5).int), .i ((g y4 6).int), .i ((g y4 7).int), .i ((g y4 8).int), .i ((g y4 9).int), .i a46, .l ((g y4 10).list), .l ((g y4 11).list), .l ((g y4 12).list), .l ((g y4 13).list), .l ((g y4 14).list), .l ((g y4 15).list), .l ((g y4 16).list), .l a57]) := (Lim_eq _ _).trans (by kernel_rfl)
theorem k_spec_Clear : SigOk Tryz.prog (d_spec_Clear.sig (L_spec_Clear none)) ∧ (d_spec_Clear.sig (L_spec_Clear none)).ok = true := sound_lim (known_cons k_spec_FormEntry (by kernel_rfl) (known_cons k_spec_l4Range (by kernel_rfl) (known_cons k_spec_ValidVault (by kernel_rfl) (known_cons k_spec_l7Copy (by kernel_rfl) (known_cons k_spec_l6Unit (by kernel_rfl) known_nil))))) (by kernel_rfl) (by kernel_rfl) (by kernel_rfl)
def d_spec_Sync : FD := { fn := 230, nb := 0, pre := ⟨[.ag [.fz 9 false 0, .fz 9 false 1]], []⟩, post := ⟨[.ag [.ow 0, .ow 1]], [.rw 9 true 0, .rw 9 true 1]⟩, sh := false, cuts := [] }
noncomputable def L_spec_Sync : Option Nat → Lv → Option Lv := Lim Tryz.prog [d_spec_ValidLog.sig (L_spec_ValidLog none)] d_spec_Sync Tryz.f230
theorem e_spec_Sync_i (a0 : Rw) (a1 : Rw) : L_spec_Sync none [.l a0, .l a1] =
 (L_spec_ValidLog none [.l a0, .l a1]).bind fun y1 =>
 cond (!(g y1 0).bool) (
 some [.l [], .l []]) (
 cond (decide (([] : Rw).length + a0.length ≤ most)) (
 cond (decide ((([] : Rw) ++ a0).length + a1.length ≤ most)) (
 some [.l ((([] : Rw) ++ a0) ++ a1), .l []]) (
 none)) (
 none)) := (Lim_eq _ _).trans (by kernel_rfl)
theorem k_spec_Sync : SigOk Tryz.prog (d_spec_Sync.sig (L_spec_Sync none)) ∧ (d_spec_Sync.sig (L_spec_Sync none)).ok = true := sound_lim (known_cons k_spec_ValidLog (by kernel_rfl) known_nil) (by kernel_rfl) (by kernel_rfl) (by kernel_rfl)
def d_spec_Flush : FD := { fn := 218, nb := 0, pre := ⟨[.ag [.i .i64 0, .i .i64 1, .fz 9 false 2, .fz 9 false 3, .i .i64 4, .i .i64 5, .i .i64 6, .i .i64 7, .fz 90 false 8, .fz 156 false 9, .fz 158 false 10, .i .i64 11, .fz 9 false 12, .fz 9 false 13, .i .i64 14, .i .i64 15, .i .i64 16]], []⟩, post := ⟨[.ag [.i .i64 0, .i .i64 1, .ow 0, .ow 1, .i .i64 2, .i .i64 3, .i .i64 4, .i .i64 5, .ow 2, .ow 3, .ow 4, .i .i64 6, .ow 5, .ow 6, .i .i64 7, .i .i64 8, .i .i64 9]], [.rw 9 true 10, .rw 9 true 11, .rw 90 true 12, .rw 156 true 13, .rw 158 true 14, .rw 9 true 15, .rw 9 true 16]⟩, sh := false, cuts := [] }
noncomputable def L_spec_Flush : Option Nat → Lv → Option Lv := Lim Tryz.prog [d_spec_ValidVault.sig (L_spec_ValidVault none), d_spec_l7Copy.sig (L_spec_l7Copy none), d_spec_Sync.sig (L_spec_Sync none)] d_spec_Flush Tryz.f218
theorem e_spec_Flush_i (a0 : Int) (a1 : Int) (a2 : Rw) (a3 : Rw) (a4 : Int) (a5 : Int) (a6 : Int) (a7 : Int) (a8 : Rw) (a9 : Rw) (a10 : Rw) (a11 : Int) (a12 : Rw) (a13 : Rw) (a14 : Int) (a15 : Int) (a16 : Int) : L_spec_Flush none [.i a0, .i a1, .l a2, .l a3, .i a4, .i a5, .i a6, .i a7, .l a8, .l a9, .l a10, .i a11, .l a12, .l a13, .i a14, .i a15, .i a16] =
 (L_spec_ValidVault none [.i a0, .i a1, .l a2, .l a3, .i a4, .i a5, .i a6, .i a7, .l a8, .l a9, .l a10, .i a11, .l a12, .l a13, .i a14, .i a15, .i a16]).bind fun y1 =>
 cond (!(g y1 0).bool) (
 some [.i 0, .i 0, .i 0, .i 0, .i 0, .i 0, .i 0, .i 0, .i 0, .i 0, .l [], .l [], .l [], .l [], .l [], .l [], .l []]) (
 (L_spec_l7Copy none [.i a0, .i a1, .l a2, .l a3, .i a4, .i a5, .i a6, .i a7, .l a8, .l a9, .l a10, .i a11, .l a12, .l a13, .i a14, .i a15, .i a16]).bind fun y2 =>
 (L_spec_Sync none [.l a2, .l a3]).bind fun y3 =>
 some [.i ((g y2 0).int), .i ((g y2 1).int), .i ((g y2 2).int), .i ((g y2 3).int), .i ((g y2 4).int), .i ((g y2 5).int), .i ((g y2 6).int), .i ((g y2 7).int), .i ((g y2 8).int), .i ((g y2 9).int), .l ((g y3 0).list), .l ((g y3 1).list), .l ((g y2 12).list), .l ((g y2 13).list), .l ((g y2 14).list), .l ((g y2 15).list), .l ((g y2 16).list)]) := (Lim_eq _ _).trans (by kernel_rfl)
theorem k_spec_Flush : SigOk Tryz.prog (d_spec_Flush.sig (L_spec_Flush none)) ∧ (d_spec_Flush.sig (L_spec_Flush none)).ok = true := sound_lim (known_cons k_spec_ValidVault (by kernel_rfl) (known_cons k_spec_l7Copy (by kernel_rfl) (known_cons k_spec_Sync (by kernel_rfl) known_nil))) (by kernel_rfl) (by kernel_rfl) (by kernel_rfl)
def d_spec_Crash : FD := { fn := 231, nb := 0, pre := ⟨[.ag [.fz 9 false 0, .fz 9 false 1], .sc (.i .i64 2)], []⟩, post := ⟨[.ag [.ow 0, .fz 9 true 0]], [.rw 9 true 1]⟩, sh := false, cuts := [] }
noncomputable def L_spec_Crash : Option Nat → Lv → Option Lv := Lim Tryz.prog [d_spec_ValidLog.sig (L_spec_ValidLog none)] d_spec_Crash Tryz.f231
theorem e_spec_Crash_i (a0 : Rw) (a1 : Rw) (a2 : Int) : L_spec_Crash none [.l a0, .l a1, .i a2] =
 (L_spec_ValidLog none [.l a0, .l a1]).bind fun y1 =>
 cond (!(g y1 0).bool) (
 some [.l ([]), .l []]) (
 cond (decide (a2 < 0)) (
 cond (decide ((a1.length : Int) < 0)) (
 cond (decide (([] : Rw).length + a0.length ≤ most)) (
 cond (decide (0 ≤ (a1.length : Int))) (
 cond (decide ((a1.length : Int) ≤ (a1.length : Int))) (
 cond (decide ((([] : Rw) ++ a0).length + (Eng.sub a1 0 ((a1.length : Int).toNat)).length ≤ most)) (
 some [.l ([]), .l ((([] : Rw) ++ a0) ++ (Eng.sub a1 0 ((a1.length : Int).toNat)))]) (
 none)) (
 none)) (
 none)) (
 none)) (
 cond (decide (([] : Rw).length + a0.length ≤ most)) (
 cond (decide (0 ≤ (a1.length : Int))) (
 cond (decide ((([] : Rw) ++ a0).length + (Eng.sub a1 0 0).length ≤ most)) (
 some [.l ([]), .l ((([] : Rw) ++ a0) ++ (Eng.sub a1 0 0))]) (
 none)) (
 none)) (
 none))) (
 cond (decide ((a1.length : Int) < a2)) (
 cond (decide (([] : Rw).length + a0.length ≤ most)) (
 cond (decide (0 ≤ (a1.length : Int))) (
 cond (decide ((a1.length : Int) ≤ (a1.length : Int))) (
 cond (decide ((([] : Rw) ++ a0).length + (Eng.sub a1 0 ((a1.length : Int).toNat)).length ≤ most)) (
 some [.l ([]), .l ((([] : Rw) ++ a0) ++ (Eng.sub a1 0 ((a1.length : Int).toNat)))]) (
 none)) (
 none)) (
 none)) (
 none)) (
 cond (decide (([] : Rw).length + a0.length ≤ most)) (
 cond (decide (0 ≤ a2)) (
 cond (decide (a2 ≤ (a1.length : Int))) (
 cond (decide ((([] : Rw) ++ a0).length + (Eng.sub a1 0 a2.toNat).length ≤ most)) (
 some [.l ([]), .l ((([] : Rw) ++ a0) ++ (Eng.sub a1 0 a2.toNat))]) (
 none)) (
 none)) (
 none)) (
 none)))) := (Lim_eq _ _).trans (by kernel_rfl)
theorem k_spec_Crash : SigOk Tryz.prog (d_spec_Crash.sig (L_spec_Crash none)) ∧ (d_spec_Crash.sig (L_spec_Crash none)).ok = true := sound_lim (known_cons k_spec_ValidLog (by kernel_rfl) known_nil) (by kernel_rfl) (by kernel_rfl) (by kernel_rfl)
def d_spec_Lose : FD := { fn := 219, nb := 0, pre := ⟨[.ag [.i .i64 0, .i .i64 1, .fz 9 false 2, .fz 9 false 3, .i .i64 4, .i .i64 5, .i .i64 6, .i .i64 7, .fz 90 false 8, .fz 156 false 9, .fz 158 false 10, .i .i64 11, .fz 9 false 12, .fz 9 false 13, .i .i64 14, .i .i64 15, .i .i64 16], .sc (.i .i64 17)], []⟩, post := ⟨[.ag [.i .i64 0, .i .i64 1, .ow 0, .ow 1, .i .i64 2, .i .i64 3, .i .i64 4, .i .i64 5, .ow 2, .ow 3, .ow 4, .i .i64 6, .fz 9 true 7, .fz 9 true 8, .i .i64 9, .i .i64 10, .i .i64 11]], [.rw 9 true 12, .rw 9 true 13, .rw 90 true 14, .rw 156 true 15, .rw 158 true 16]⟩, sh := false, cuts := [] }
noncomputable def L_spec_Lose : Option Nat → Lv → Option Lv := Lim Tryz.prog [d_spec_ValidVault.sig (L_spec_ValidVault none), d_spec_Open.sig (L_spec_Open none), d_spec_Crash.sig (L_spec_Crash none)] d_spec_Lose Tryz.f219
theorem e_spec_Lose_i (a0 : Int) (a1 : Int) (a2 : Rw) (a3 : Rw) (a4 : Int) (a5 : Int) (a6 : Int) (a7 : Int) (a8 : Rw) (a9 : Rw) (a10 : Rw) (a11 : Int) (a12 : Rw) (a13 : Rw) (a14 : Int) (a15 : Int) (a16 : Int) (a17 : Int) : L_spec_Lose none [.i a0, .i a1, .l a2, .l a3, .i a4, .i a5, .i a6, .i a7, .l a8, .l a9, .l a10, .i a11, .l a12, .l a13, .i a14, .i a15, .i a16, .i a17] =
 (L_spec_ValidVault none [.i a0, .i a1, .l a2, .l a3, .i a4, .i a5, .i a6, .i a7, .l a8, .l a9, .l a10, .i a11, .l a12, .l a13, .i a14, .i a15, .i a16]).bind fun y1 =>
 cond (!(g y1 0).bool) (
 some [.i 0, .i 0, .i 0, .i 0, .i 0, .i 0, .i 0, .l ([]), .l ([]), .i 0, .i 0, .i 0, .l [], .l [], .l [], .l [], .l []]) (
 (L_spec_Crash none [.l a2, .l a3, .i a17]).bind fun y2 =>
 (L_spec_Open none [.i a0, .i a1, .l ((g y2 1).list), .l ((g y2 0).list)]).bind fun y3 =>
 some [.i ((g y3 0).int), .i ((g y3 1).int), .i ((g y3 2).int), .i ((g y3 3).int), .i ((g y3 4).int), .i ((g y3 5).int), .i ((g y3 6).int), .l ((g y3 7).list), .l ((g y3 8).list), .i ((g y3 9).int), .i ((g y3 10).int), .i ((g y3 11).int), .l ((g y3 13).list), .l ((g y3 14).list), .l ((g y3 15).list), .l ((g y3 16).list), .l ((g y3 17).list)]) := (Lim_eq _ _).trans (by kernel_rfl)
theorem k_spec_Lose : SigOk Tryz.prog (d_spec_Lose.sig (L_spec_Lose none)) ∧ (d_spec_Lose.sig (L_spec_Lose none)).ok = true := sound_lim (known_cons k_spec_ValidVault (by kernel_rfl) (known_cons k_spec_Open (by kernel_rfl) (known_cons k_spec_Crash (by kernel_rfl) known_nil))) (by kernel_rfl) (by kernel_rfl) (by kernel_rfl)
end KV
end
section
set_option maxRecDepth 100000
namespace KV
open Go Go.Eng Go.Proofs
def d_spec_l7Done : FD := { fn := 175, nb := 0, pre := ⟨[.ag [.i .i64 0, .i .i64 1, .fz 9 false 2, .ow 0, .i .i64 3, .i .i64 4, .i .i64 5, .i .i64 6, .fz 90 false 7, .ow 1, .ow 2, .i .i64 8, .fz 9 false 9, .fz 9 false 10, .i .i64 11, .i .i64 12, .i .i64 13], .ag [.i .i64 14, .s 15, .i .i64 16, .s 17, .i .i64 18, .i .i64 19]], [.rw 9 false 20, .rw 156 false 21, .rw 158 false 22]⟩, post := ⟨[.ag [.i .i64 0, .i .i64 1, .fz 9 false 2, .ow 0, .i .i64 3, .i .i64 4, .i .i64 5, .i .i64 6, .fz 90 false 7, .ow 1, .ow 2, .i .i64 8, .fz 9 false 9, .fz 9 false 10, .i .i64 11, .i .i64 12, .i .i64 13]], [.rw 9 false 14, .rw 156 false 15, .rw 158 false 16]⟩, sh := true, cuts := [⟨21, [2, 4, 5], ⟨[.sc (.pt 0 0), .sc (.pt 1 0), .sc (.pt 2 0)], [.bx [.i .i64 0, .i .i64 1, .fz 9 false 2, .ow 3, .i .i64 3, .i .i64 4, .i .i64 5, .i .i64 6, .fz 90 false 7, .ow 4, .ow 5, .i .i64 8, .fz 9 false 9, .fz 9 false 10, .i .i64 11, .i .i64 12, .i .i64 13], .bx [.i .i64 14, .i .i64 15, .ow 13, .ow 14, .i .i64 16, .i .i64 17, .i .i64 18, .i .i64 19, .ow 15, .ow 16, .ow 17, .i .i64 20, .ow 18, .ow 19, .i .i64 21, .i .i64 22, .i .i64 23], .bx [.i .i64 24, .i .i64 25, .i .i64 26, .ow 6, .ow 7, .i .i64 27, .i .i64 28, .i .i64 29, .i .i64 30, .ow 8, .ow 9, .ow 10, .i .i64 31, .ow 11, .ow 12, .i .i64 32, .i .i64 33, .i .i64 34, .s 35, .i .i64 36, .s 37, .s 38], .rw 9 false 39, .rw 156 false 40, .rw 158 false 41, .rw 9 true 42, .rw 9 true 43, .rw 90 true 44, .rw 156 true 45, .rw 158 true 46, .rw 9 true 47, .rw 9 true 48, .rw 9 true 49, .rw 9 true 50, .rw 90 true 51, .rw 156 true 52, .rw 158 true 53, .rw 9 true 54, .rw 9 true 55]⟩⟩] }
noncomputable def L_spec_l7Done : Option Nat → Lv → Option Lv := Lim Tryz.prog [d_spec_Act_Thing.sig (L_spec_Act_Thing none), d_spec_Act_Sum.sig (L_spec_Act_Sum none), d_spec_Act_Lease.sig (L_spec_Act_Lease none), d_spec_Put.sig (L_spec_Put none), d_spec_Hold.sig (L_spec_Hold none), d_spec_Loosen.sig (L_spec_Loosen none), d_spec_Borrow.sig (L_spec_Borrow none), d_spec_GiveBack.sig (L_spec_GiveBack none), d_spec_Wait.sig (L_spec_Wait none), d_spec_Clear.sig (L_spec_Clear none), d_spec_Flush.sig (L_spec_Flush none), d_spec_Lose.sig (L_spec_Lose none)] d_spec_l7Done Tryz.f175
theorem e_spec_l7Done_i (a0 : Int) (a1 : Int) (a2 : Rw) (a3 : Int) (a4 : Int) (a5 : Int) (a6 : Int) (a7 : Rw) (a8 : Int) (a9 : Rw) (a10 : Rw) (a11 : Int) (a12 : Int) (a13 : Int) (a14 : Int) (a15 : ByteArray) (a16 : Int) (a17 : ByteArray) (a18 : Int) (a19 : Int) (a20 : Rw) (a21 : Rw) (a22 : Rw) : L_spec_l7Done none [.i a0, .i a1, .l a2, .i a3, .i a4, .i a5, .i a6, .l a7, .i a8, .l a9, .l a10, .i a11, .i a12, .i a13, .i a14, .s a15, .i a16, .s a17, .i a18, .i a19, .l a20, .l a21, .l a22] =
 cond (a14 == 1) (
 (L_spec_Act_Thing none [.i a14, .s a15, .i a16, .s a17, .i a18, .i a19, .i a3, .i a4, .i a5, .i a6, .l a7, .l a21, .l a22]).bind fun y1 =>
 (L_spec_Put none [.i a0, .i a1, .l a2, .l a20, .i a3, .i a4, .i a5, .i a6, .l a7, .l a21, .l a22, .i a8, .l a9, .l a10, .i a11, .i a12, .i a13, .s ((g y1 0).str), .l ((g y1 1).list), .i a19]).bind fun y2 =>
 L_spec_l7Done (some 21) [.i a0, .i a1, .l a2, .i a3, .i a4, .i a5, .i a6, .l a7, .i a8, .l a9, .l a10, .i a11, .i a12, .i a13, .i 0, .i 0, .i 0, .i 0, .i 0, .i 0, .i 0, .i 0, .i 0, .i 0, .i ((g y2 0).int), .i ((g y2 1).int), .i ((g y2 2).int), .i ((g y2 3).int), .i ((g y2 4).int), .i ((g y2 5).int), .i ((g y2 6).int), .i ((g y2 7).int), .i ((g y2 8).int), .i ((g y2 9).int), .i ((g y2 10).int), .s ((g y2 11).str), .i ((g y2 12).int), .s ((g y2 13).str), .s ((g y2 14).str), .l a20, .l a21, .l a22, .l ((g y2 15).list), .l ((g y2 16).list), .l ((g y2 17).list), .l ((g y2 18).list), .l ((g y2 19).list), .l ((g y2 20).list), .l ((g y2 21).list), .l [], .l [], .l [], .l [], .l [], .l [], .l []]) (
 cond (a14 == 2) (
 (L_spec_Act_Sum none [.i a14, .s a15, .i a16, .s a17, .i a18, .i a19, .i a3, .i a4, .i a5, .i a6, .l a7, .l a21, .l a22]).bind fun y3 =>
 (L_spec_Hold none [.i a0, .i a1, .l a2, .l a20, .i a3, .i a4, .i a5, .i a6, .l a7, .l a21, .l a22, .i a8, .l a9, .l a10, .i a11, .i a12, .i a13, .s a17, .s ((g y3 0).str)]).bind fun y4 =>
 L_spec_l7Done (some 21) [.i a0, .i a1, .l a2, .i a3, .i a4, .i a5, .i a6, .l a7, .i a8, .l a9, .l a10, .i a11, .i a12, .i a13, .i 0, .i 0, .i 0, .i 0, .i 0, .i 0, .i 0, .i 0, .i 0, .i 0, .i ((g y4 0).int), .i ((g y4 1).int), .i ((g y4 2).int), .i ((g y4 3).int), .i ((g y4 4).int), .i ((g y4 5).int), .i ((g y4 6).int), .i ((g y4 7).int), .i ((g y4 8).int), .i ((g y4 9).int), .i ((g y4 10).int), .s ((g y4 11).str), .i ((g y4 12).int), .s ((g y4 13).str), .s ((g y4 14).str), .l a20, .l a21, .l a22, .l ((g y4 15).list), .l ((g y4 16).list), .l ((g y4 17).list), .l ((g y4 18).list), .l ((g y4 19).list), .l ((g y4 20).list), .l ((g y4 21).list), .l [], .l [], .l [], .l [], .l [], .l [], .l []]) (
 cond (a14 == 3) (
 (L_spec_Loosen none [.i a0, .i a1, .l a2, .l a20, .i a3, .i a4, .i a5, .i a6, .l a7, .l a21, .l a22, .i a8, .l a9, .l a10, .i a11, .i a12, .i a13, .s a17]).bind fun y5 =>
 L_spec_l7Done (some 21) [.i a0, .i a1, .l a2, .i a3, .i a4, .i a5, .i a6, .l a7, .i a8, .l a9, .l a10, .i a11, .i a12, .i a13, .i 0, .i 0, .i 0, .i 0, .i 0, .i 0, .i 0, .i 0, .i 0, .i 0, .i ((g y5 0).int), .i ((g y5 1).int), .i ((g y5 2).int), .i ((g y5 3).int), .i ((g y5 4).int), .i ((g y5 5).int), .i ((g y5 6).int), .i ((g y5 7).int), .i ((g y5 8).int), .i ((g y5 9).int), .i ((g y5 10).int), .s ((g y5 11).str), .i ((g y5 12).int), .s ((g y5 13).str), .s ((g y5 14).str), .l a20, .l a21, .l a22, .l ((g y5 15).list), .l ((g y5 16).list), .l ((g y5 17).list), .l ((g y5 18).list), .l ((g y5 19).list), .l ((g y5 20).list), .l ((g y5 21).list), .l [], .l [], .l [], .l [], .l [], .l [], .l []]) (
 cond (a14 == 4) (
 (L_spec_Act_Sum none [.i a14, .s a15, .i a16, .s a17, .i a18, .i a19, .i a3, .i a4, .i a5, .i a6, .l a7, .l a21, .l a22]).bind fun y6 =>
 (L_spec_Borrow none [.i a0, .i a1, .l a2, .l a20, .i a3, .i a4, .i a5, .i a6, .l a7, .l a21, .l a22, .i a8, .l a9, .l a10, .i a11, .i a12, .i a13, .s ((g y6 0).str), .i a19]).bind fun y7 =>
 L_spec_l7Done (some 21) [.i a0, .i a1, .l a2, .i a3, .i a4, .i a5, .i a6, .l a7, .i a8, .l a9, .l a10, .i a11, .i a12, .i a13, .i 0, .i 0, .i 0, .i 0, .i 0, .i 0, .i 0, .i 0, .i 0, .i 0, .i ((g y7 0).int), .i ((g y7 1).int), .i ((g y7 2).int), .i ((g y7 3).int), .i ((g y7 4).int), .i ((g y7 5).int), .i ((g y7 6).int), .i ((g y7 7).int), .i ((g y7 8).int), .i ((g y7 9).int), .i ((g y7 10).int), .s ((g y7 11).str), .i ((g y7 12).int), .s ((g y7 13).str), .s ((g y7 14).str), .l a20, .l a21, .l a22, .l ((g y7 15).list), .l ((g y7 16).list), .l ((g y7 17).list), .l ((g y7 18).list), .l ((g y7 19).list), .l ((g y7 20).list), .l ((g y7 21).list), .l [], .l [], .l [], .l [], .l [], .l [], .l []]) (
 cond (a14 == 5) (
 (L_spec_Act_Lease none [.i a14, .s a15, .i a16, .s a17, .i a18, .i a19, .i a3, .i a4, .i a5, .i a6, .l a7, .l a21, .l a22]).bind fun y8 =>
 (L_spec_GiveBack none [.i a0, .i a1, .l a2, .l a20, .i a3, .i a4, .i a5, .i a6, .l a7, .l a21, .l a22, .i a8, .l a9, .l a10, .i a11, .i a12, .i a13, .i ((g y8 0).int)]).bind fun y9 =>
 L_spec_l7Done (some 21) [.i a0, .i a1, .l a2, .i a3, .i a4, .i a5, .i a6, .l a7, .i a8, .l a9, .l a10, .i a11, .i a12, .i a13, .i 0, .i 0, .i 0, .i 0, .i 0, .i 0, .i 0, .i 0, .i 0, .i 0, .i ((g y9 0).int), .i ((g y9 1).int), .i ((g y9 2).int), .i ((g y9 3).int), .i ((g y9 4).int), .i ((g y9 5).int), .i ((g y9 6).int), .i ((g y9 7).int), .i ((g y9 8).int), .i ((g y9 9).int), .i ((g y9 10).int), .s ((g y9 11).str), .i ((g y9 12).int), .s ((g y9 13).str), .s ((g y9 14).str), .l a20, .l a21, .l a22, .l ((g y9 15).list), .l ((g y9 16).list), .l ((g y9 17).list), .l ((g y9 18).list), .l ((g y9 19).list), .l ((g y9 20).list), .l ((g y9 21).list), .l [], .l [], .l [], .l [], .l [], .l [], .l []]) (
 cond (a14 == 6) (
 (L_spec_Wait none [.i a0, .i a1, .l a2, .l a20, .i a3, .i a4, .i a5, .i a6, .l a7, .l a21, .l a22, .i a8, .l a9, .l a10, .i a11, .i a12, .i a13, .i a19]).bind fun y10 =>
 L_spec_l7Done (some 21) [.i a0, .i a1, .l a2, .i a3, .i a4, .i a5, .i a6, .l a7, .i a8, .l a9, .l a10, .i a11, .i a12, .i a13, .i 0, .i 0, .i 0, .i 0, .i 0, .i 0, .i 0, .i 0, .i 0, .i 0, .i ((g y10 0).int), .i ((g y10 1).int), .i ((g y10 2).int), .i ((g y10 3).int), .i ((g y10 4).int), .i ((g y10 5).int), .i ((g y10 6).int), .i ((g y10 7).int), .i ((g y10 8).int), .i ((g y10 9).int), .i ((g y10 10).int), .s ((g y10 11).str), .i ((g y10 12).int), .s ((g y10 13).str), .s ((g y10 14).str), .l a20, .l a21, .l a22, .l ((g y10 15).list), .l ((g y10 16).list), .l ((g y10 17).list), .l ((g y10 18).list), .l ((g y10 19).list), .l ((g y10 20).list), .l ((g y10 21).list), .l [], .l [], .l [], .l [], .l [], .l [], .l []]) (
 cond (a14 == 8) (
 (L_spec_Flush none [.i a0, .i a1, .l a2, .l a20, .i a3, .i a4, .i a5, .i a6, .l a7, .l a21, .l a22, .i a8, .l a9, .l a10, .i a11, .i a12, .i a13]).bind fun y11 =>
 some [.i ((g y11 0).int), .i ((g y11 1).int), .l ((g y11 10).list), .i ((g y11 2).int), .i ((g y11 3).int), .i ((g y11 4).int), .i ((g y11 5).int), .l ((g y11 12).list), .i ((g y11 6).int), .l ((g y11 15).list), .l ((g y11 16).list), .i ((g y11 7).int), .i ((g y11 8).int), .i ((g y11 9).int), .l ((g y11 11).list), .l ((g y11 13).list), .l ((g y11 14).list)]) (
 cond (a14 == 9) (
 (L_spec_Lose none [.i a0, .i a1, .l a2, .l a20, .i a3, .i a4, .i a5, .i a6, .l a7, .l a21, .l a22, .i a8, .l a9, .l a10, .i a11, .i a12, .i a13, .i (a18.tmod 6)]).bind fun y12 =>
 some [.i ((g y12 0).int), .i ((g y12 1).int), .l ((g y12 12).list), .i ((g y12 2).int), .i ((g y12 3).int), .i ((g y12 4).int), .i ((g y12 5).int), .l ((g y12 14).list), .i ((g y12 6).int), .l ((g y12 7).list), .l ((g y12 8).list), .i ((g y12 9).int), .i ((g y12 10).int), .i ((g y12 11).int), .l ((g y12 13).list), .l ((g y12 15).list), .l ((g y12 16).list)]) (
 cond (a14 == 10) (
 (L_spec_Clear none [.i a0, .i a1, .l a2, .l a20, .i a3, .i a4, .i a5, .i a6, .l a7, .l a21, .l a22, .i a8, .l a9, .l a10, .i a11, .i a12, .i a13, .i a18]).bind fun y13 =>
 some [.i ((g y13 1).int), .i ((g y13 2).int), .l ((g y13 12).list), .i ((g y13 3).int), .i ((g y13 4).int), .i ((g y13 5).int), .i ((g y13 6).int), .l ((g y13 14).list), .i ((g y13 7).int), .l ((g y13 17).list), .l ((g y13 18).list), .i ((g y13 8).int), .i ((g y13 9).int), .i ((g y13 10).int), .l ((g y13 13).list), .l ((g y13 15).list), .l ((g y13 16).list)]) (
 L_spec_l7Done (some 21) [.i a0, .i a1, .l a2, .i a3, .i a4, .i a5, .i a6, .l a7, .i a8, .l a9, .l a10, .i a11, .i a12, .i a13, .i 0, .i 0, .i 0, .i 0, .i 0, .i 0, .i 0, .i 0, .i 0, .i 0, .i 1, .i 0, .i 0, .i 0, .i 0, .i 0, .i 0, .i 0, .i 0, .i 0, .i 0, .s (⟨#[]⟩ : ByteArray), .i 0, .s (⟨#[]⟩ : ByteArray), .s (⟨#[]⟩ : ByteArray), .l a20, .l a21, .l a22, .l [], .l [], .l [], .l [], .l [], .l [], .l [], .l [], .l [], .l [], .l [], .l [], .l [], .l []]))))))))) := (Lim_eq _ _).trans (by kernel_rfl)
theorem e_spec_l7Done_21 (a0 : Int) (a1 : Int) (a2 : Rw) (a3 : Int) (a4 : Int) (a5 : Int) (a6 : Int) (a7 : Rw) (a8 : Int) (a9 : Rw) (a10 : Rw) (a11 : Int) (a12 : Int) (a13 : Int) (a14 : Int) (a15 : Int) (a16 : Int) (a17 : Int) (a18 : Int) (a19 : Int) (a20 : Int) (a21 : Int) (a22 : Int) (a23 : Int) (a24 : Int) (a25 : Int) (a26 : Int) (a27 : Int) (a28 : Int) (a29 : Int) (a30 : Int) (a31 : Int) (a32 : Int) (a33 : Int) (a34 : Int) (a35 : ByteArray) (a36 : Int) (a37 : ByteArray) (a38 : ByteArray) (a39 : Rw) (a40 : Rw) (a41 : Rw) (a42 : Rw) (a43 : Rw) (a44 : Rw) (a45 : Rw) (a46 : Rw) (a47 : Rw) (a48 : Rw) (a49 : Rw) (a50 : Rw) (a51 : Rw) (a52 : Rw) (a53 : Rw) (a54 : Rw) (a55 : Rw) : L_spec_l7Done (some 21) [.i a0, .i a1, .l a2, .i a3, .i a4, .i a5, .i a6, .l a7, .i a8, .l a9, .l a10, .i a11, .i a12, .i a13, .i a14, .i a15, .i a16, .i a17, .i a18, .i a19, .i a20, .i a21, .i a22, .i a23, .i a24, .i a25, .i a26, .i a27, .i a28, .i a29, .i a30, .i a31, .i a32, .i a33, .i a34, .s a35, .i a36, .s a37, .s a38, .l a39, .l a40, .l a41, .l a42, .l a43, .l a44, .l a45, .l a46, .l a47, .l a48, .l a49, .l a50, .l a51, .l a52, .l a53, .l a54, .l a55] =
 cond (a24 == 0) (
 some [.i a25, .i a26, .l a42, .i a27, .i a28, .i a29, .i a30, .l a44, .i a31, .l a47, .l a48, .i a32, .i a33, .i a34, .l a43, .l a45, .l a46]) (
 some [.i a0, .i a1, .l a2, .i a3, .i a4, .i a5, .i a6, .l a7, .i a8, .l a9, .l a10, .i a11, .i a12, .i a13, .l a39, .l a40, .l a41]) := (Lim_eq _ _).trans (by kernel_rfl)
theorem k_spec_l7Done : SigOk Tryz.prog (d_spec_l7Done.sig (L_spec_l7Done none)) ∧ (d_spec_l7Done.sig (L_spec_l7Done none)).ok = true := sound_lim (known_cons k_spec_Act_Thing (by kernel_rfl) (known_cons k_spec_Act_Sum (by kernel_rfl) (known_cons k_spec_Act_Lease (by kernel_rfl) (known_cons k_spec_Put (by kernel_rfl) (known_cons k_spec_Hold (by kernel_rfl) (known_cons k_spec_Loosen (by kernel_rfl) (known_cons k_spec_Borrow (by kernel_rfl) (known_cons k_spec_GiveBack (by kernel_rfl) (known_cons k_spec_Wait (by kernel_rfl) (known_cons k_spec_Clear (by kernel_rfl) (known_cons k_spec_Flush (by kernel_rfl) (known_cons k_spec_Lose (by kernel_rfl) known_nil)))))))))))) (by kernel_rfl) (by kernel_rfl) (by kernel_rfl)
def d_spec_l7Reached : FD := { fn := 109, nb := 1, pre := ⟨[.sc (.pt 0 0)], [.bx [.fz 5 false 0, .i .i64 1]]⟩, post := ⟨[.ag [.i .i64 0, .i .i64 1, .fz 9 true 2, .ow 1, .i .i64 3, .i .i64 4, .i .i64 5, .i .i64 6, .fz 90 true 7, .ow 2, .ow 3, .i .i64 8, .fz 9 true 9, .fz 9 true 10, .i .i64 11, .i .i64 12, .i .i64 13]], [.bx [.fz 5 false 14, .i .i64 15], .rw 9 true 16, .rw 156 true 17, .rw 158 true 18]⟩, sh := true, cuts := [⟨8, [0, 2, 4, 6], ⟨[.sc (.pt 0 0), .sc (.pt 1 0), .sc (.pt 2 0), .sc (.i .i64 0)], [.bx [.fz 5 false 1, .i .i64 2], .bx [.i .i64 3, .i .i64 4, .ow 3, .ow 4, .i .i64 5, .i .i64 6, .i .i64 7, .i .i64 8, .ow 5, .ow 6, .ow 7, .i .i64 9, .ow 8, .ow 9, .i .i64 10, .i .i64 11, .i .i64 12], .bx [.i .i64 13, .i .i64 14, .fz 9 true 15, .ow 10, .i .i64 16, .i .i64 17, .i .i64 18, .i .i64 19, .fz 90 true 20, .ow 11, .ow 12, .i .i64 21, .fz 9 true 22, .fz 9 true 23, .i .i64 24, .i .i64 25, .i .i64 26], .rw 9 true 27, .rw 9 true 28, .rw 90 true 29, .rw 156 true 30, .rw 158 true 31, .rw 9 true 32, .rw 9 true 33, .rw 9 true 34, .rw 156 true 35, .rw 158 true 36]⟩⟩] }
noncomputable def L_spec_l7Reached : Option Nat → Lv → Option Lv := Lim Tryz.prog [d_spec_l1Rd_pick.sig (L_spec_l1Rd_pick none), d_spec_l1DrawWidth.sig (L_spec_l1DrawWidth none), d_spec_l7Act.sig (L_spec_l7Act none), d_spec_Open.sig (L_spec_Open none), d_spec_l7Done.sig (L_spec_l7Done none)] d_spec_l7Reached Tryz.f109
theorem e_spec_l7Reached_i (a0 : Rw) (a1 : Int) : L_spec_l7Reached none [.l a0, .i a1] =
 (L_spec_l1Rd_pick none [.i 6, .l a0, .i a1]).bind fun y1 =>
 cond ((g y1 0).int == 0) (
 (L_spec_l1Rd_pick none [.i 60, .l ((g y1 1).list), .i ((g y1 2).int)]).bind fun y2 =>
 (L_spec_l1DrawWidth none [.l ((g y2 1).list), .i ((g y2 2).int)]).bind fun y3 =>
 (L_spec_Open none [.i ((g y3 0).int), .i (IntKind.i64.wrap (20 + (g y2 0).int)), .l ([]), .l ([])]).bind fun y4 =>
 (L_spec_l1Rd_pick none [.i 14, .l ((g y3 1).list), .i ((g y3 2).int)]).bind fun y5 =>
 (L_spec_l1Rd_pick none [.i 6, .l ((g y5 1).list), .i ((g y5 2).int)]).bind fun y6 =>
 cond ((g y6 0).int == 0) (
 L_spec_l7Reached (some 8) [.i (IntKind.i64.wrap ((g y5 0).int + 12)), .l ((g y6 1).list), .i ((g y6 2).int), .i 0, .i 0, .i 0, .i 0, .i 0, .i 0, .i 0, .i 0, .i 0, .i 0, .i ((g y4 0).int), .i ((g y4 1).int), .l ((g y4 13).list), .i ((g y4 2).int), .i ((g y4 3).int), .i ((g y4 4).int), .i ((g y4 5).int), .l ((g y4 15).list), .i ((g y4 6).int), .l ((g y4 7).list), .l ((g y4 8).list), .i ((g y4 9).int), .i ((g y4 10).int), .i ((g y4 11).int), .l [], .l [], .l [], .l [], .l [], .l [], .l [], .l ((g y4 14).list), .l ((g y4 16).list), .l ((g y4 17).list)]) (
 L_spec_l7Reached (some 8) [.i ((g y5 0).int), .l ((g y6 1).list), .i ((g y6 2).int), .i 0, .i 0, .i 0, .i 0, .i 0, .i 0, .i 0, .i 0, .i 0, .i 0, .i ((g y4 0).int), .i ((g y4 1).int), .l ((g y4 13).list), .i ((g y4 2).int), .i ((g y4 3).int), .i ((g y4 4).int), .i ((g y4 5).int), .l ((g y4 15).list), .i ((g y4 6).int), .l ((g y4 7).list), .l ((g y4 8).list), .i ((g y4 9).int), .i ((g y4 10).int), .i ((g y4 11).int), .l [], .l [], .l [], .l [], .l [], .l [], .l [], .l ((g y4 14).list), .l ((g y4 16).list), .l ((g y4 17).list)])) (
 (L_spec_l1DrawWidth none [.l ((g y1 1).list), .i ((g y1 2).int)]).bind fun y7 =>
 (L_spec_Open none [.i ((g y7 0).int), .i 1000000, .l ([]), .l ([])]).bind fun y8 =>
 (L_spec_l1Rd_pick none [.i 14, .l ((g y7 1).list), .i ((g y7 2).int)]).bind fun y9 =>
 (L_spec_l1Rd_pick none [.i 6, .l ((g y9 1).list), .i ((g y9 2).int)]).bind fun y10 =>
 cond ((g y10 0).int == 0) (
 L_spec_l7Reached (some 8) [.i (IntKind.i64.wrap ((g y9 0).int + 12)), .l ((g y10 1).list), .i ((g y10 2).int), .i 0, .i 0, .i 0, .i 0, .i 0, .i 0, .i 0, .i 0, .i 0, .i 0, .i ((g y8 0).int), .i ((g y8 1).int), .l ((g y8 13).list), .i ((g y8 2).int), .i ((g y8 3).int), .i ((g y8 4).int), .i ((g y8 5).int), .l ((g y8 15).list), .i ((g y8 6).int), .l ((g y8 7).list), .l ((g y8 8).list), .i ((g y8 9).int), .i ((g y8 10).int), .i ((g y8 11).int), .l [], .l [], .l [], .l [], .l [], .l [], .l [], .l ((g y8 14).list), .l ((g y8 16).list), .l ((g y8 17).list)]) (
 L_spec_l7Reached (some 8) [.i ((g y9 0).int), .l ((g y10 1).list), .i ((g y10 2).int), .i 0, .i 0, .i 0, .i 0, .i 0, .i 0, .i 0, .i 0, .i 0, .i 0, .i ((g y8 0).int), .i ((g y8 1).int), .l ((g y8 13).list), .i ((g y8 2).int), .i ((g y8 3).int), .i ((g y8 4).int), .i ((g y8 5).int), .l ((g y8 15).list), .i ((g y8 6).int), .l ((g y8 7).list), .l ((g y8 8).list), .i ((g y8 9).int), .i ((g y8 10).int), .i ((g y8 11).int), .l [], .l [], .l [], .l [], .l [], .l [], .l [], .l ((g y8 14).list), .l ((g y8 16).list), .l ((g y8 17).list)])) := (Lim_eq _ _).trans (by kernel_rfl)
theorem e_spec_l7Reached_8 (a0 : Int) (a1 : Rw) (a2 : Int) (a3 : Int) (a4 : Int) (a5 : Int) (a6 : Int) (a7 : Int) (a8 : Int) (a9 : Int) (a10 : Int) (a11 : Int) (a12 : Int) (a13 : Int) (a14 : Int) (a15 : Rw) (a16 : Int) (a17 : Int) (a18 : Int) (a19 : Int) (a20 : Rw) (a21 : Int) (a22 : Rw) (a23 : Rw) (a24 : Int) (a25 : Int) (a26 : Int) (a27 : Rw) (a28 : Rw) (a29 : Rw) (a30 : Rw) (a31 : Rw) (a32 : Rw) (a33 : Rw) (a34 : Rw) (a35 : Rw) (a36 : Rw) : L_spec_l7Reached (some 8) [.i a0, .l a1, .i a2, .i a3, .i a4, .i a5, .i a6, .i a7, .i a8, .i a9, .i a10, .i a11, .i a12, .i a13, .i a14, .l a15, .i a16, .i a17, .i a18, .i a19, .l a20, .i a21, .l a22, .l a23, .i a24, .i a25, .i a26, .l a27, .l a28, .l a29, .l a30, .l a31, .l a32, .l a33, .l a34, .l a35, .l a36] =
 cond (decide (0 < a0)) (
 (L_spec_l7Act none [.l a1, .i a2]).bind fun y1 =>
 (L_spec_l7Done none [.i a13, .i a14, .l a15, .i a16, .i a17, .i a18, .i a19, .l a20, .i a21, .l a22, .l a23, .i a24, .i a25, .i a26, .i ((g y1 0).int), .s ((g y1 1).str), .i ((g y1 2).int), .s ((g y1 3).str), .i ((g y1 4).int), .i ((g y1 5).int), .l a34, .l a35, .l a36]).bind fun y2 =>
 L_spec_l7Reached (some 8) [.i (IntKind.i64.wrap (a0 - 1)), .l ((g y1 6).list), .i ((g y1 7).int), .i a3, .i a4, .i a5, .i a6, .i a7, .i a8, .i a9, .i a10, .i a11, .i a12, .i ((g y2 0).int), .i ((g y2 1).int), .l ((g y2 2).list), .i ((g y2 3).int), .i ((g y2 4).int), .i ((g y2 5).int), .i ((g y2 6).int), .l ((g y2 7).list), .i ((g y2 8).int), .l ((g y2 9).list), .l ((g y2 10).list), .i ((g y2 11).int), .i ((g y2 12).int), .i ((g y2 13).int), .l a27, .l a28, .l a29, .l a30, .l a31, .l a32, .l a33, .l ((g y2 14).list), .l ((g y2 15).list), .l ((g y2 16).list)]) (
 some [.i a13, .i a14, .l a15, .i a16, .i a17, .i a18, .i a19, .l a20, .i a21, .l a22, .l a23, .i a24, .i a25, .i a26, .l a1, .i a2, .l a34, .l a35, .l a36]) := (Lim_eq _ _).trans (by kernel_rfl)
theorem k_spec_l7Reached : SigOk Tryz.prog (d_spec_l7Reached.sig (L_spec_l7Reached none)) ∧ (d_spec_l7Reached.sig (L_spec_l7Reached none)).ok = true := sound_lim (known_cons k_spec_l1Rd_pick (by kernel_rfl) (known_cons k_spec_l1DrawWidth (by kernel_rfl) (known_cons k_spec_l7Act (by kernel_rfl) (known_cons k_spec_Open (by kernel_rfl) (known_cons k_spec_l7Done (by kernel_rfl) known_nil))))) (by kernel_rfl) (by kernel_rfl) (by kernel_rfl)
def d_spec_l1Many : FD := { fn := 201, nb := 0, pre := ⟨[.sc (.s 0), .sc (.i .i64 1)], []⟩, post := ⟨[.sc (.s 0)], []⟩, sh := false, cuts := [⟨2, [0, 1, 5], ⟨[.sc (.s 0), .sc (.i .i64 1), .sc (.s 2)], []⟩⟩] }
noncomputable def L_spec_l1Many : Option Nat → Lv → Option Lv := Lim Tryz.prog [] d_spec_l1Many Tryz.f201
theorem e_spec_l1Many_i (a0 : ByteArray) (a1 : Int) : L_spec_l1Many none [.s a0, .i a1] =
 L_spec_l1Many (some 2) [.s a0, .i a1, .s (⟨#[]⟩ : ByteArray)] := (Lim_eq _ _).trans (by kernel_rfl)
theorem e_spec_l1Many_2 (a0 : ByteArray) (a1 : Int) (a2 : ByteArray) : L_spec_l1Many (some 2) [.s a0, .i a1, .s a2] =
 cond (decide (0 < a1)) (
 cond ((a1.tmod 2) == 1) (
 cond (decide (a2.size + a0.size ≤ most)) (
 cond (decide (a0.size + a0.size ≤ most)) (
 L_spec_l1Many (some 2) [.s (a0 ++ a0), .i (IntKind.i64.wrap (a1.tdiv 2)), .s (a2 ++ a0)]) (
 none)) (
 none)) (
 cond (decide (a0.size + a0.size ≤ most)) (
 L_spec_l1Many (some 2) [.s (a0 ++ a0), .i (IntKind.i64.wrap (a1.tdiv 2)), .s a2]) (
 none))) (
 some [.s a2]) := (Lim_eq _ _).trans (by kernel_rfl)
theorem k_spec_l1Many : SigOk Tryz.prog (d_spec_l1Many.sig (L_spec_l1Many none)) ∧ (d_spec_l1Many.sig (L_spec_l1Many none)).ok = true := sound_lim known_nil (by kernel_rfl) (by kernel_rfl) (by kernel_rfl)
def d_spec_l1SpoilThing : FD := { fn := 145, nb := 1, pre := ⟨[.sc (.pt 0 0), .ag [.s 0, .fz 9 false 1]], [.bx [.fz 5 false 2, .i .i64 3]]⟩, post := ⟨[.ag [.s 0, .ow 1]], [.bx [.fz 5 false 1, .i .i64 2], .rw 9 true 3]⟩, sh := true, cuts := [⟨15, [4, 5, 6, 7], ⟨[.sc (.pt 1 0), .sc (.pt 2 0), .sc (.i .i64 0), .sc (.i .i64 1)], [.bx [.fz 5 false 2, .i .i64 3], .bx [.s 4, .ow 3], .bx [.s 5, .ow 4], .rw 9 true 6, .rw 9 true 7]⟩⟩] }
noncomputable def L_spec_l1SpoilThing : Option Nat → Lv → Option Lv := Lim Tryz.prog [d_spec_l1Rd_pick.sig (L_spec_l1Rd_pick none), d_spec_l1Thing.sig (L_spec_l1Thing none), d_spec_l1Many.sig (L_spec_l1Many none)] d_spec_l1SpoilThing Tryz.f145
theorem e_spec_l1SpoilThing_i (a0 : ByteArray) (a1 : Rw) (a2 : Rw) (a3 : Int) : L_spec_l1SpoilThing none [.s a0, .l a1, .l a2, .i a3] =
 (L_spec_l1Thing none [.s a0, .l a1]).bind fun y1 =>
 (L_spec_l1Rd_pick none [.i 5, .l a2, .i a3]).bind fun y2 =>
 cond ((g y2 0).int == 0) (
 (L_spec_l1Rd_pick none [.i 2, .l ((g y2 1).list), .i ((g y2 2).int)]).bind fun y3 =>
 (L_spec_l1Many none [.s (⟨#[116]⟩ : ByteArray), .i (IntKind.i64.wrap (2000 + (g y3 0).int))]).bind fun y4 =>
 some [.s ((g y4 0).str), .l ((g y3 1).list), .i ((g y3 2).int), .l ((g y1 1).list)]) (
 cond ((g y2 0).int == 1) (
 cond (decide (((g y1 1).list).length + ([[.s (⟨#[120]⟩ : ByteArray)]] : Rw).length ≤ most)) (
 some [.s ((g y1 0).str), .l ((g y2 1).list), .i ((g y2 2).int), .l ((g y1 1).list ++ ([[.s (⟨#[120]⟩ : ByteArray)]] : Rw))]) (
 none)) (
 cond ((g y2 0).int == 2) (
 cond (decide (0 < (((g y1 1).list).length : Int))) (
 cond (inb 0 (((g y1 1).list).length)) (
 cond (decide (((g y1 1).list).length + ([[.s ((rd ((g y1 1).list) 0 0).str)]] : Rw).length ≤ most)) (
 some [.s ((g y1 0).str), .l ((g y2 1).list), .i ((g y2 2).int), .l ((g y1 1).list ++ ([[.s ((rd ((g y1 1).list) 0 0).str)]] : Rw))]) (
 none)) (
 none)) (
 some [.s ((g y1 0).str), .l ((g y2 1).list), .i ((g y2 2).int), .l ((g y1 1).list)])) (
 cond ((g y2 0).int == 3) (
 (L_spec_l1Rd_pick none [.i 2, .l ((g y2 1).list), .i ((g y2 2).int)]).bind fun y5 =>
 L_spec_l1SpoilThing (some 15) [.i (IntKind.i64.wrap (30 + (g y5 0).int)), .i 0, .l ((g y5 1).list), .i ((g y5 2).int), .s (⟨#[]⟩ : ByteArray), .s ((g y1 0).str), .l [], .l ([] : Rw)]) (
 cond (decide (((g y1 0).str).size + (⟨#[122]⟩ : ByteArray).size ≤ most)) (
 some [.s (((g y1 0).str) ++ (⟨#[122]⟩ : ByteArray)), .l ((g y2 1).list), .i ((g y2 2).int), .l ((g y1 1).list)]) (
 none))))) := (Lim_eq _ _).trans (by kernel_rfl)
theorem e_spec_l1SpoilThing_15 (a0 : Int) (a1 : Int) (a2 : Rw) (a3 : Int) (a4 : ByteArray) (a5 : ByteArray) (a6 : Rw) (a7 : Rw) : L_spec_l1SpoilThing (some 15) [.i a0, .i a1, .l a2, .i a3, .s a4, .s a5, .l a6, .l a7] =
 cond (decide (a1 < a0)) (
 cond (decide (a7.length + ([[.s (bytesOf ([[.i (IntKind.u8.wrap (IntKind.i64.wrap (33 + a1)))]] : Rw))]] : Rw).length ≤ most)) (
 L_spec_l1SpoilThing (some 15) [.i a0, .i (IntKind.i64.wrap (a1 + 1)), .l a2, .i a3, .s a4, .s a5, .l a6, .l (a7 ++ ([[.s (bytesOf ([[.i (IntKind.u8.wrap (IntKind.i64.wrap (33 + a1)))]] : Rw))]] : Rw))]) (
 none)) (
 some [.s a5, .l a2, .i a3, .l a7]) := (Lim_eq _ _).trans (by kernel_rfl)
theorem k_spec_l1SpoilThing : SigOk Tryz.prog (d_spec_l1SpoilThing.sig (L_spec_l1SpoilThing none)) ∧ (d_spec_l1SpoilThing.sig (L_spec_l1SpoilThing none)).ok = true := sound_lim (known_cons k_spec_l1Rd_pick (by kernel_rfl) (known_cons k_spec_l1Thing (by kernel_rfl) (known_cons k_spec_l1Many (by kernel_rfl) known_nil))) (by kernel_rfl) (by kernel_rfl) (by kernel_rfl)
def d_spec_l8Dec : FD := { fn := 223, nb := 0, pre := ⟨[.sc (.i .i64 0)], []⟩, post := ⟨[.sc (.s 0)], []⟩, sh := false, cuts := [] }
noncomputable def R_spec_l8Dec (n : Nat) : Option Nat → Lv → Option Lv := Nat.rec (fun _ _ => none) (fun _ r => Lim Tryz.prog [d_spec_l8Dec.sig (r none)] d_spec_l8Dec Tryz.f223) n
theorem e_spec_l8Dec_i (m : Nat) (a0 : Int) : R_spec_l8Dec (m + 1) none [.i a0] =
 cond (decide (a0 < 10)) (
 some [.s (bytesOf ([[.i (IntKind.u8.wrap (IntKind.i64.wrap (48 + a0)))]] : Rw))]) (
 (R_spec_l8Dec m none [.i (IntKind.i64.wrap (a0.tdiv 10))]).bind fun y1 =>
 cond (decide (((g y1 0).str).size + (bytesOf ([[.i (IntKind.u8.wrap (IntKind.i64.wrap (48 + (a0.tmod 10))))]] : Rw)).size ≤ most)) (
 some [.s (((g y1 0).str) ++ (bytesOf ([[.i (IntKind.u8.wrap (IntKind.i64.wrap (48 + (a0.tmod 10))))]] : Rw)))]) (
 none)) := (Lim_eq _ _).trans (by kernel_rfl)
theorem kR_spec_l8Dec : ∀ n, SigOk Tryz.prog (d_spec_l8Dec.sig (R_spec_l8Dec n none)) ∧ (d_spec_l8Dec.sig (R_spec_l8Dec n none)).ok = true
 | 0 => ⟨(fun w args x y X0 h1 h2 h3 h4 h5 h6 => nomatch h6), by kernel_rfl⟩
 | n + 1 => sound_lim (known_cons (kR_spec_l8Dec n) (by kernel_rfl) known_nil) (by kernel_rfl) (by kernel_rfl) (by kernel_rfl)
noncomputable def L_spec_l8Dec : Option Nat → Lv → Option Lv := R_spec_l8Dec 20
theorem k_spec_l8Dec : SigOk Tryz.prog (d_spec_l8Dec.sig (L_spec_l8Dec none)) ∧ (d_spec_l8Dec.sig (L_spec_l8Dec none)).ok = true := kR_spec_l8Dec 20
def d_spec_l7Many : FD := { fn := 196, nb := 0, pre := ⟨[.sc (.i .i64 0), .sc (.b 1)], []⟩, post := ⟨[.ag [.i .i64 0, .i .i64 1, .i .i64 2, .i .i64 3, .ow 0, .ow 1, .ow 2]], [.rw 90 true 4, .rw 156 true 5, .rw 158 true 6]⟩, sh := false, cuts := [⟨4, [0, 1, 4, 5, 6, 7], ⟨[.sc (.i .i64 0), .sc (.b 1), .sc (.pt 0 0), .sc (.pt 1 0), .sc (.s 2), .sc (.i .i64 3)], [.bx [.i .i64 4, .i .i64 5, .i .i64 6, .i .i64 7, .ow 2, .ow 3, .ow 4], .bx [.i .i64 8, .i .i64 9, .i .i64 10, .i .i64 11, .ow 5, .ow 6, .ow 7], .rw 90 true 12, .rw 156 true 13, .rw 158 true 14, .rw 90 true 15, .rw 156 true 16, .rw 158 true 17]⟩⟩, ⟨11, [0, 1, 4, 5, 6, 7, 8, 9], ⟨[.sc (.i .i64 0), .sc (.b 1), .sc (.pt 0 0), .sc (.pt 1 0), .sc (.s 2), .sc (.i .i64 3), .sc (.pt 2 0), .sc (.i .i64 4)], [.bx [.i .i64 5, .i .i64 6, .i .i64 7, .i .i64 8, .ow 3, .ow 4, .ow 5], .bx [.i .i64 9, .i .i64 10, .i .i64 11, .i .i64 12, .ow 6, .ow 7, .ow 8], .bx [.s 13, .ow 9], .rw 90 true 14, .rw 156 true 15, .rw 158 true 16, .rw 90 true 17, .rw 156 true 18, .rw 158 true 19, .rw 9 true 20]⟩⟩] }
noncomputable def L_spec_l7Many : Option Nat → Lv → Option Lv := Lim Tryz.prog [d_spec_FormThing.sig (L_spec_FormThing none), d_spec_Sum.sig (L_spec_Sum none), d_spec_l8Dec.sig (L_spec_l8Dec none)] d_spec_l7Many Tryz.f196
theorem e_spec_l7Many_i (a0 : Int) (a1 : Bool) : L_spec_l7Many none [.i a0, .b a1] =
 L_spec_l7Many (some 4) [.i a0, .b a1, .s (⟨#[]⟩ : ByteArray), .i 1, .i 0, .i 0, .i 0, .i 0, .i 8, .i 0, .i 0, .i a0, .l [], .l [], .l [], .l [], .l [], .l []] := (Lim_eq _ _).trans (by kernel_rfl)
theorem e_spec_l7Many_4 (a0 : Int) (a1 : Bool) (a2 : ByteArray) (a3 : Int) (a4 : Int) (a5 : Int) (a6 : Int) (a7 : Int) (a8 : Int) (a9 : Int) (a10 : Int) (a11 : Int) (a12 : Rw) (a13 : Rw) (a14 : Rw) (a15 : Rw) (a16 : Rw) (a17 : Rw) : L_spec_l7Many (some 4) [.i a0, .b a1, .s a2, .i a3, .i a4, .i a5, .i a6, .i a7, .i a8, .i a9, .i a10, .i a11, .l a12, .l a13, .l a14, .l a15, .l a16, .l a17] =
 cond (decide (a3 ≤ a0)) (
 (L_spec_l8Dec none [.i a3]).bind fun y1 =>
 cond (!a1) (
 cond (!Eng.seq a2 (⟨#[]⟩ : ByteArray)) (
 (L_spec_FormThing none [.s ((g y1 0).str), .l ([[.s a2]] : Rw), .i 8]).bind fun y2 =>
 (L_spec_Sum none [.s ((g y2 0).str), .i 8]).bind fun y3 =>
 L_spec_l7Many (some 11) [.i a0, .b a1, .s ((g y3 0).str), .i a3, .i 0, .i a4, .i a5, .i a6, .i a7, .i a8, .i a9, .i a10, .i a11, .s ((g y1 0).str), .l a12, .l a13, .l a14, .l a15, .l a16, .l a17, .l ([[.s a2]] : Rw)]) (
 (L_spec_FormThing none [.s ((g y1 0).str), .l ([]), .i 8]).bind fun y4 =>
 (L_spec_Sum none [.s ((g y4 0).str), .i 8]).bind fun y5 =>
 L_spec_l7Many (some 11) [.i a0, .b a1, .s ((g y5 0).str), .i a3, .i 0, .i a4, .i a5, .i a6, .i a7, .i a8, .i a9, .i a10, .i a11, .s ((g y1 0).str), .l a12, .l a13, .l a14, .l a15, .l a16, .l a17, .l []])) (
 (L_spec_FormThing none [.s ((g y1 0).str), .l ([]), .i 8]).bind fun y6 =>
 (L_spec_Sum none [.s ((g y6 0).str), .i 8]).bind fun y7 =>
 L_spec_l7Many (some 11) [.i a0, .b a1, .s ((g y7 0).str), .i a3, .i 0, .i a4, .i a5, .i a6, .i a7, .i a8, .i a9, .i a10, .i a11, .s ((g y1 0).str), .l a12, .l a13, .l a14, .l a15, .l a16, .l a17, .l []])) (
 some [.i a8, .i a9, .i a10, .i a11, .l a15, .l a16, .l a17]) := (Lim_eq _ _).trans (by kernel_rfl)
theorem e_spec_l7Many_11 (a0 : Int) (a1 : Bool) (a2 : ByteArray) (a3 : Int) (a4 : Int) (a5 : Int) (a6 : Int) (a7 : Int) (a8 : Int) (a9 : Int) (a10 : Int) (a11 : Int) (a12 : Int) (a13 : ByteArray) (a14 : Rw) (a15 : Rw) (a16 : Rw) (a17 : Rw) (a18 : Rw) (a19 : Rw) (a20 : Rw) : L_spec_l7Many (some 11) [.i a0, .b a1, .s a2, .i a3, .i a4, .i a5, .i a6, .i a7, .i a8, .i a9, .i a10, .i a11, .i a12, .s a13, .l a14, .l a15, .l a16, .l a17, .l a18, .l a19, .l a20] =
 cond (decide (a4 < (a17.length : Int))) (
 cond (inb a4 a17.length) (
 cond (slt ((rd a17 a4.toNat 0).str) a2) (
 L_spec_l7Many (some 11) [.i a0, .b a1, .s a2, .i a3, .i (IntKind.i64.wrap (a4 + 1)), .i a5, .i a6, .i a7, .i a8, .i a9, .i a10, .i a11, .i a12, .s a13, .l a14, .l a15, .l a16, .l a17, .l a18, .l a19, .l a20]) (
 cond (decide (0 ≤ a4)) (
 cond (decide (a4 ≤ (a17.length : Int))) (
 cond (decide (([] : Rw).length + (Eng.sub a17 0 a4.toNat).length ≤ most)) (
 cond (decide ((([] : Rw) ++ (Eng.sub a17 0 a4.toNat)).length + ([[.s a2, .i a3, .s a13, .l a20]] : Rw).length ≤ most)) (
 cond (decide (0 ≤ a4)) (
 cond (decide (a4 ≤ (a17.length : Int))) (
 cond (decide (((([] : Rw) ++ (Eng.sub a17 0 a4.toNat)) ++ ([[.s a2, .i a3, .s a13, .l a20]] : Rw)).length + (Eng.sub a17 a4.toNat a17.length).length ≤ most)) (
 L_spec_l7Many (some 4) [.i a0, .b a1, .s a2, .i (IntKind.i64.wrap (a3 + 1)), .i a5, .i a6, .i a7, .i a8, .i a9, .i a10, .i a11, .i a12, .l a14, .l a15, .l a16, .l (((([] : Rw) ++ (Eng.sub a17 0 a4.toNat)) ++ ([[.s a2, .i a3, .s a13, .l a20]] : Rw)) ++ (Eng.sub a17 a4.toNat a17.length)), .l a18, .l a19]) (
 none)) (
 none)) (
 none)) (
 none)) (
 none)) (
 none)) (
 none))) (
 none)) (
 cond (decide (0 ≤ a4)) (
 cond (decide (a4 ≤ (a17.length : Int))) (
 cond (decide (([] : Rw).length + (Eng.sub a17 0 a4.toNat).length ≤ most)) (
 cond (decide ((([] : Rw) ++ (Eng.sub a17 0 a4.toNat)).length + ([[.s a2, .i a3, .s a13, .l a20]] : Rw).length ≤ most)) (
 cond (decide (0 ≤ a4)) (
 cond (decide (a4 ≤ (a17.length : Int))) (
 cond (decide (((([] : Rw) ++ (Eng.sub a17 0 a4.toNat)) ++ ([[.s a2, .i a3, .s a13, .l a20]] : Rw)).length + (Eng.sub a17 a4.toNat a17.length).length ≤ most)) (
 L_spec_l7Many (some 4) [.i a0, .b a1, .s a2, .i (IntKind.i64.wrap (a3 + 1)), .i a5, .i a6, .i a7, .i a8, .i a9, .i a10, .i a11, .i a12, .l a14, .l a15, .l a16, .l (((([] : Rw) ++ (Eng.sub a17 0 a4.toNat)) ++ ([[.s a2, .i a3, .s a13, .l a20]] : Rw)) ++ (Eng.sub a17 a4.toNat a17.length)), .l a18, .l a19]) (
 none)) (
 none)) (
 none)) (
 none)) (
 none)) (
 none)) (
 none)) := (Lim_eq _ _).trans (by kernel_rfl)
theorem k_spec_l7Many : SigOk Tryz.prog (d_spec_l7Many.sig (L_spec_l7Many none)) ∧ (d_spec_l7Many.sig (L_spec_l7Many none)).ok = true := sound_lim (known_cons k_spec_FormThing (by kernel_rfl) (known_cons k_spec_Sum (by kernel_rfl) (known_cons k_spec_l8Dec (by kernel_rfl) known_nil))) (by kernel_rfl) (by kernel_rfl) (by kernel_rfl)
def d_spec_l4Spoil : FD := { fn := 195, nb := 1, pre := ⟨[.sc (.pt 0 0), .ag [.i .i64 0, .i .i64 1, .i .i64 2, .i .i64 3, .fz 90 false 4, .fz 156 false 5, .fz 158 false 6]], [.bx [.fz 5 false 7, .i .i64 8]]⟩, post := ⟨[.ag [.i .i64 0, .i .i64 1, .i .i64 2, .i .i64 3, .ow 1, .ow 2, .ow 3]], [.bx [.fz 5 false 4, .i .i64 5], .rw 90 true 6, .rw 156 true 7, .rw 158 true 8]⟩, sh := true, cuts := [] }
noncomputable def L_spec_l4Spoil : Option Nat → Lv → Option Lv := Lim Tryz.prog [d_spec_l1Rd_pick.sig (L_spec_l1Rd_pick none), d_spec_l1SpoilThing.sig (L_spec_l1SpoilThing none), d_spec_Sum.sig (L_spec_Sum none), d_spec_l4Copy.sig (L_spec_l4Copy none), d_spec_l7Many.sig (L_spec_l7Many none)] d_spec_l4Spoil Tryz.f195
theorem e_spec_l4Spoil_i (a0 : Int) (a1 : Int) (a2 : Int) (a3 : Int) (a4 : Rw) (a5 : Rw) (a6 : Rw) (a7 : Rw) (a8 : Int) : L_spec_l4Spoil none [.i a0, .i a1, .i a2, .i a3, .l a4, .l a5, .l a6, .l a7, .i a8] =
 (L_spec_l4Copy none [.i a0, .i a1, .i a2, .i a3, .l a4, .l a5, .l a6]).bind fun y1 =>
 (L_spec_l1Rd_pick none [.i (((g y1 4).list).length : Int), .l a7, .i a8]).bind fun y2 =>
 (L_spec_l1Rd_pick none [.i 12, .l ((g y2 1).list), .i ((g y2 2).int)]).bind fun y3 =>
 cond ((g y3 0).int == 0) (
 (L_spec_l1Rd_pick none [.i 11, .l ((g y3 1).list), .i ((g y3 2).int)]).bind fun y4 =>
 some [.i (IntKind.i64.wrap ((g y4 0).int - 1)), .i ((g y1 1).int), .i ((g y1 2).int), .i ((g y1 3).int), .l ((g y4 1).list), .i ((g y4 2).int), .l ((g y1 4).list), .l ((g y1 5).list), .l ((g y1 6).list)]) (
 cond ((g y3 0).int == 1) (
 (L_spec_l1Rd_pick none [.i 3, .l ((g y3 1).list), .i ((g y3 2).int)]).bind fun y5 =>
 cond (inb ((g y5 0).int) (([[.i (-1)], [.i 1000000000], [.i 1000000001]] : Rw).length)) (
 some [.i ((g y1 0).int), .i ((rd ([[.i (-1)], [.i 1000000000], [.i 1000000001]] : Rw) (((g y5 0).int).toNat) 0).int), .i ((g y1 2).int), .i ((g y1 3).int), .l ((g y5 1).list), .i ((g y5 2).int), .l ((g y1 4).list), .l ((g y1 5).list), .l ((g y1 6).list)]) (
 none)) (
 cond ((g y3 0).int == 2) (
 (L_spec_l1Rd_pick none [.i 5, .l ((g y3 1).list), .i ((g y3 2).int)]).bind fun y6 =>
 cond (inb ((g y6 0).int) (([[.i (-1)], [.i 0], [.i 1], [.i 1000000000], [.i 1000000001]] : Rw).length)) (
 some [.i ((g y1 0).int), .i ((g y1 1).int), .i ((g y1 2).int), .i ((rd ([[.i (-1)], [.i 0], [.i 1], [.i 1000000000], [.i 1000000001]] : Rw) (((g y6 0).int).toNat) 0).int), .l ((g y6 1).list), .i ((g y6 2).int), .l ((g y1 4).list), .l ((g y1 5).list), .l ((g y1 6).list)]) (
 none)) (
 cond ((g y3 0).int == 3) (
 (L_spec_l1Rd_pick none [.i 4, .l ((g y3 1).list), .i ((g y3 2).int)]).bind fun y7 =>
 cond (inb ((g y7 0).int) (([[.i (-1)], [.i 0], [.i 1000000000], [.i 1000000001]] : Rw).length)) (
 some [.i ((g y1 0).int), .i ((g y1 1).int), .i ((rd ([[.i (-1)], [.i 0], [.i 1000000000], [.i 1000000001]] : Rw) (((g y7 0).int).toNat) 0).int), .i ((g y1 3).int), .l ((g y7 1).list), .i ((g y7 2).int), .l ((g y1 4).list), .l ((g y1 5).list), .l ((g y1 6).list)]) (
 none)) (
 cond ((g y3 0).int == 4) (
 cond (decide (0 < (((g y1 4).list).length : Int))) (
 cond (inb ((g y2 0).int) (((g y1 4).list).length)) (
 (L_spec_l1SpoilThing none [.s ((rd ((g y1 4).list) (((g y2 0).int).toNat) 2).str), .l ((rd ((g y1 4).list) (((g y2 0).int).toNat) 3).list), .l ((g y3 1).list), .i ((g y3 2).int)]).bind fun y8 =>
 cond (inb ((g y2 0).int) (((g y1 4).list).length)) (
 some [.i ((g y1 0).int), .i ((g y1 1).int), .i ((g y1 2).int), .i ((g y1 3).int), .l ((g y8 1).list), .i ((g y8 2).int), .l (wrs ((g y1 4).list) (((g y2 0).int).toNat) 2 ([.s ((g y8 0).str), .l ((g y8 3).list)] : List C)), .l ((g y1 5).list), .l ((g y1 6).list)]) (
 none)) (
 none)) (
 some [.i ((g y1 0).int), .i ((g y1 1).int), .i ((g y1 2).int), .i ((g y1 3).int), .l ((g y3 1).list), .i ((g y3 2).int), .l ((g y1 4).list), .l ((g y1 5).list), .l ((g y1 6).list)])) (
 cond ((g y3 0).int == 5) (
 cond (decide (1 < (((g y1 4).list).length : Int))) (
 cond (inb 1 (((g y1 4).list).length)) (
 cond (inb 0 (((g y1 4).list).length)) (
 some [.i ((g y1 0).int), .i ((g y1 1).int), .i ((g y1 2).int), .i ((g y1 3).int), .l ((g y3 1).list), .i ((g y3 2).int), .l (wrs ((g y1 4).list) 0 1 ([.i ((rd ((g y1 4).list) 1 1).int)] : List C)), .l ((g y1 5).list), .l ((g y1 6).list)]) (
 none)) (
 none)) (
 some [.i ((g y1 0).int), .i ((g y1 1).int), .i ((g y1 2).int), .i ((g y1 3).int), .l ((g y3 1).list), .i ((g y3 2).int), .l ((g y1 4).list), .l ((g y1 5).list), .l ((g y1 6).list)])) (
 cond ((g y3 0).int == 6) (
 cond (decide (0 < (((g y1 4).list).length : Int))) (
 cond (decide (0 ≤ (g y2 0).int)) (
 cond (decide ((g y2 0).int ≤ (((g y1 4).list).length : Int))) (
 cond (decide (([] : Rw).length + (Eng.sub ((g y1 4).list) 0 ((g y2 0).int).toNat).length ≤ most)) (
 cond (decide (0 ≤ (IntKind.i64.wrap ((g y2 0).int + 1)))) (
 cond (decide ((IntKind.i64.wrap ((g y2 0).int + 1)) ≤ (((g y1 4).list).length : Int))) (
 cond (decide ((([] : Rw) ++ (Eng.sub ((g y1 4).list) 0 ((g y2 0).int).toNat)).length + (Eng.sub ((g y1 4).list) (IntKind.i64.wrap ((g y2 0).int + 1)).toNat ((g y1 4).list).length).length ≤ most)) (
 some [.i ((g y1 0).int), .i ((g y1 1).int), .i ((g y1 2).int), .i ((g y1 3).int), .l ((g y3 1).list), .i ((g y3 2).int), .l ((([] : Rw) ++ (Eng.sub ((g y1 4).list) 0 ((g y2 0).int).toNat)) ++ (Eng.sub ((g y1 4).list) (IntKind.i64.wrap ((g y2 0).int + 1)).toNat ((g y1 4).list).length)), .l ((g y1 5).list), .l ((g y1 6).list)]) (
 none)) (
 none)) (
 none)) (
 none)) (
 none)) (
 none)) (
 some [.i ((g y1 0).int), .i ((g y1 1).int), .i ((g y1 2).int), .i ((g y1 3).int), .l ((g y3 1).list), .i ((g y3 2).int), .l ((g y1 4).list), .l ((g y1 5).list), .l ((g y1 6).list)])) (
 cond ((g y3 0).int == 7) (
 (L_spec_l1Rd_pick none [.i 4, .l ((g y3 1).list), .i ((g y3 2).int)]).bind fun y9 =>
 cond (inb ((g y9 0).int) (([[.s (⟨#[112]⟩ : ByteArray)], [.s (⟨#[122]⟩ : ByteArray)], [.s (⟨#[]⟩ : ByteArray)], [.s (⟨#[120, 32, 121]⟩ : ByteArray)]] : Rw).length)) (
 (L_spec_Sum none [.s (⟨#[113]⟩ : ByteArray), .i a0]).bind fun y10 =>
 cond (decide (((g y1 5).list).length + ([[.s ((rd ([[.s (⟨#[112]⟩ : ByteArray)], [.s (⟨#[122]⟩ : ByteArray)], [.s (⟨#[]⟩ : ByteArray)], [.s (⟨#[120, 32, 121]⟩ : ByteArray)]] : Rw) (((g y9 0).int).toNat) 0).str), .s ((g y10 0).str)]] : Rw).length ≤ most)) (
 some [.i ((g y1 0).int), .i ((g y1 1).int), .i ((g y1 2).int), .i ((g y1 3).int), .l ((g y9 1).list), .i ((g y9 2).int), .l ((g y1 4).list), .l ((g y1 5).list ++ ([[.s ((rd ([[.s (⟨#[112]⟩ : ByteArray)], [.s (⟨#[122]⟩ : ByteArray)], [.s (⟨#[]⟩ : ByteArray)], [.s (⟨#[120, 32, 121]⟩ : ByteArray)]] : Rw) (((g y9 0).int).toNat) 0).str), .s ((g y10 0).str)]] : Rw)), .l ((g y1 6).list)]) (
 none)) (
 none)) (
 cond ((g y3 0).int == 8) (
 cond (decide (0 < (((g y1 4).list).length : Int))) (
 (L_spec_l1Rd_pick none [.i 2, .l ((g y3 1).list), .i ((g y3 2).int)]).bind fun y11 =>
 cond (inb ((g y11 0).int) (([[.s (⟨#[97]⟩ : ByteArray)], [.s (⟨#[122]⟩ : ByteArray)]] : Rw).length)) (
 cond (inb ((g y2 0).int) (((g y1 4).list).length)) (
 cond (decide (((g y1 5).list).length + ([[.s ((rd ([[.s (⟨#[97]⟩ : ByteArray)], [.s (⟨#[122]⟩ : ByteArray)]] : Rw) (((g y11 0).int).toNat) 0).str), .s ((rd ((g y1 4).list) (((g y2 0).int).toNat) 0).str)]] : Rw).length ≤ most)) (
 some [.i ((g y1 0).int), .i ((g y1 1).int), .i ((g y1 2).int), .i ((g y1 3).int), .l ((g y11 1).list), .i ((g y11 2).int), .l ((g y1 4).list), .l ((g y1 5).list ++ ([[.s ((rd ([[.s (⟨#[97]⟩ : ByteArray)], [.s (⟨#[122]⟩ : ByteArray)]] : Rw) (((g y11 0).int).toNat) 0).str), .s ((rd ((g y1 4).list) (((g y2 0).int).toNat) 0).str)]] : Rw)), .l ((g y1 6).list)]) (
 none)) (
 none)) (
 none)) (
 some [.i ((g y1 0).int), .i ((g y1 1).int), .i ((g y1 2).int), .i ((g y1 3).int), .l ((g y3 1).list), .i ((g y3 2).int), .l ((g y1 4).list), .l ((g y1 5).list), .l ((g y1 6).list)])) (
 cond ((g y3 0).int == 9) (
 cond (decide (0 < (((g y1 6).list).length : Int))) (
 (L_spec_l1Rd_pick none [.i 4, .l ((g y3 1).list), .i ((g y3 2).int)]).bind fun y12 =>
 cond (inb ((g y12 0).int) (([[.i 0], [.i 1], [.i 100000], [.i 100001]] : Rw).length)) (
 cond (inb 0 (((g y1 6).list).length)) (
 some [.i ((g y1 0).int), .i ((g y1 1).int), .i ((g y1 2).int), .i ((g y1 3).int), .l ((g y12 1).list), .i ((g y12 2).int), .l ((g y1 4).list), .l ((g y1 5).list), .l (wrs ((g y1 6).list) 0 2 ([.i (IntKind.i64.wrap ((g y1 1).int + (rd ([[.i 0], [.i 1], [.i 100000], [.i 100001]] : Rw) (((g y12 0).int).toNat) 0).int))] : List C))]) (
 none)) (
 none)) (
 some [.i ((g y1 0).int), .i ((g y1 1).int), .i ((g y1 2).int), .i ((g y1 3).int), .l ((g y3 1).list), .i ((g y3 2).int), .l ((g y1 4).list), .l ((g y1 5).list), .l ((g y1 6).list)])) (
 cond ((g y3 0).int == 10) (
 cond (decide (0 < (((g y1 6).list).length : Int))) (
 (L_spec_l1Rd_pick none [.i 3, .l ((g y3 1).list), .i ((g y3 2).int)]).bind fun y13 =>
 cond (inb ((g y13 0).int) (([[.i 0], [.i ((g y1 2).int)], [.i (IntKind.i64.wrap ((g y1 2).int + 1))]] : Rw).length)) (
 cond (inb 0 (((g y1 6).list).length)) (
 some [.i ((g y1 0).int), .i ((g y1 1).int), .i ((g y1 2).int), .i ((g y1 3).int), .l ((g y13 1).list), .i ((g y13 2).int), .l ((g y1 4).list), .l ((g y1 5).list), .l (wrs ((g y1 6).list) 0 0 ([.i ((rd ([[.i 0], [.i ((g y1 2).int)], [.i (IntKind.i64.wrap ((g y1 2).int + 1))]] : Rw) (((g y13 0).int).toNat) 0).int)] : List C))]) (
 none)) (
 none)) (
 some [.i ((g y1 0).int), .i ((g y1 1).int), .i ((g y1 2).int), .i ((g y1 3).int), .l ((g y3 1).list), .i ((g y3 2).int), .l ((g y1 4).list), .l ((g y1 5).list), .l ((g y1 6).list)])) (
 (L_spec_l1Rd_pick none [.i 2, .l ((g y3 1).list), .i ((g y3 2).int)]).bind fun y14 =>
 (L_spec_l1Rd_pick none [.i 2, .l ((g y14 1).list), .i ((g y14 2).int)]).bind fun y15 =>
 (L_spec_l7Many none [.i (IntKind.i64.wrap (600 + (g y14 0).int)), .b ((g y15 0).int == 0)]).bind fun y16 =>
 some [.i ((g y16 0).int), .i ((g y16 1).int), .i ((g y16 2).int), .i ((g y16 3).int), .l ((g y15 1).list), .i ((g y15 2).int), .l ((g y16 4).list), .l ((g y16 5).list), .l ((g y16 6).list)]))))))))))) := (Lim_eq _ _).trans (by kernel_rfl)
theorem k_spec_l4Spoil : SigOk Tryz.prog (d_spec_l4Spoil.sig (L_spec_l4Spoil none)) ∧ (d_spec_l4Spoil.sig (L_spec_l4Spoil none)).ok = true := sound_lim (known_cons k_spec_l1Rd_pick (by kernel_rfl) (known_cons k_spec_l1SpoilThing (by kernel_rfl) (known_cons k_spec_Sum (by kernel_rfl) (known_cons k_spec_l4Copy (by kernel_rfl) (known_cons k_spec_l7Many (by kernel_rfl) known_nil))))) (by kernel_rfl) (by kernel_rfl) (by kernel_rfl)
def d_spec_l4ThingsOk : FD := { fn := 126, nb := 0, pre := ⟨[.ag [.i .i64 0, .i .i64 1, .i .i64 2, .i .i64 3, .fz 90 false 4, .fz 156 false 5, .fz 158 false 6]], []⟩, post := ⟨[.sc (.b 0)], []⟩, sh := false, cuts := [⟨4, [1, 3, 4, 5], ⟨[.sc (.pt 0 0), .sc (.ow 1), .sc (.ow 2), .sc (.i .i64 0)], [.bx [.i .i64 1, .i .i64 2, .i .i64 3, .i .i64 4, .fz 90 false 5, .fz 156 false 6, .fz 158 false 7], .rw 4 true 8, .rw 3 true 9]⟩⟩, ⟨14, [1, 3, 4, 5, 6, 7], ⟨[.sc (.pt 0 0), .sc (.ow 1), .sc (.ow 2), .sc (.i .i64 0), .sc (.pt 3 0), .sc (.i .i64 1)], [.bx [.i .i64 2, .i .i64 3, .i .i64 4, .i .i64 5, .fz 90 false 6, .fz 156 false 7, .fz 158 false 8], .rw 4 true 9, .rw 3 true 10, .bx [.s 11, .i .i64 12, .s 13, .fz 9 false 14]]⟩⟩, ⟨20, [1, 8], ⟨[.sc (.pt 0 0), .sc (.i .i64 0)], [.bx [.i .i64 1, .i .i64 2, .i .i64 3, .i .i64 4, .fz 90 false 5, .fz 156 false 6, .fz 158 false 7]]⟩⟩, ⟨23, [1, 8, 9], ⟨[.sc (.pt 0 0), .sc (.i .i64 0), .sc (.i .i64 1)], [.bx [.i .i64 2, .i .i64 3, .i .i64 4, .i .i64 5, .fz 90 false 6, .fz 156 false 7, .fz 158 false 8]]⟩⟩] }
noncomputable def L_spec_l4ThingsOk : Option Nat → Lv → Option Lv := Lim Tryz.prog [d_spec_l1ThingOk.sig (L_spec_l1ThingOk none), d_spec_FormThing.sig (L_spec_FormThing none), d_spec_Sum.sig (L_spec_Sum none), d_spec_l4Find.sig (L_spec_l4Find none), d_spec_l4Range.sig (L_spec_l4Range none)] d_spec_l4ThingsOk Tryz.f126
theorem e_spec_l4ThingsOk_i (a0 : Int) (a1 : Int) (a2 : Int) (a3 : Int) (a4 : Rw) (a5 : Rw) (a6 : Rw) : L_spec_l4ThingsOk none [.i a0, .i a1, .i a2, .i a3, .l a4, .l a5, .l a6] =
 L_spec_l4ThingsOk (some 4) [.i 0, .i a0, .i a1, .i a2, .i a3, .l a4, .l a5, .l a6, .l (List.replicate 601 ([.b false] : List C)), .l ([] : Rw)] := (Lim_eq _ _).trans (by kernel_rfl)
theorem e_spec_l4ThingsOk_4 (a0 : Int) (a1 : Int) (a2 : Int) (a3 : Int) (a4 : Int) (a5 : Rw) (a6 : Rw) (a7 : Rw) (a8 : Rw) (a9 : Rw) : L_spec_l4ThingsOk (some 4) [.i a0, .i a1, .i a2, .i a3, .i a4, .l a5, .l a6, .l a7, .l a8, .l a9] =
 cond (decide (a0 < (a5.length : Int))) (
 cond (inb a0 a5.length) (
 (L_spec_l1ThingOk none [.s ((rd a5 a0.toNat 2).str), .l ((rd a5 a0.toNat 3).list), .i a1]).bind fun y1 =>
 cond (!(g y1 0).bool) (
 some [.b false]) (
 (L_spec_FormThing none [.s ((rd a5 a0.toNat 2).str), .l ((rd a5 a0.toNat 3).list), .i a1]).bind fun y2 =>
 (L_spec_Sum none [.s ((g y2 0).str), .i a1]).bind fun y3 =>
 cond (!Eng.seq ((rd a5 a0.toNat 0).str) ((g y3 0).str)) (
 some [.b false]) (
 cond (decide (0 < a0)) (
 cond (inb (IntKind.i64.wrap (a0 - 1)) a5.length) (
 cond (!slt ((rd a5 ((IntKind.i64.wrap (a0 - 1)).toNat) 0).str) ((rd a5 a0.toNat 0).str)) (
 some [.b false]) (
 (L_spec_l4Range none [.i ((rd a5 a0.toNat 1).int), .i 1, .i a4]).bind fun y4 =>
 cond (!(g y4 0).bool) (
 some [.b false]) (
 cond (decide ((rd a5 a0.toNat 1).int ≤ 600)) (
 cond (inb ((rd a5 a0.toNat 1).int) a8.length) (
 cond ((rd a8 (((rd a5 a0.toNat 1).int).toNat) 0).bool) (
 some [.b false]) (
 cond (inb ((rd a5 a0.toNat 1).int) a8.length) (
 L_spec_l4ThingsOk (some 4) [.i (IntKind.i64.wrap (a0 + 1)), .i a1, .i a2, .i a3, .i a4, .l a5, .l a6, .l a7, .l (wrs a8 (((rd a5 a0.toNat 1).int).toNat) 0 ([.b true] : List C)), .l a9]) (
 none))) (
 none)) (
 L_spec_l4ThingsOk (some 14) [.i a0, .i 0, .i a1, .i a2, .i a3, .i a4, .l a5, .l a6, .l a7, .l a8, .l a9, .s ((rd a5 a0.toNat 0).str), .i ((rd a5 a0.toNat 1).int), .s ((rd a5 a0.toNat 2).str), .l ((rd a5 a0.toNat 3).list)])))) (
 none)) (
 (L_spec_l4Range none [.i ((rd a5 a0.toNat 1).int), .i 1, .i a4]).bind fun y5 =>
 cond (!(g y5 0).bool) (
 some [.b false]) (
 cond (decide ((rd a5 a0.toNat 1).int ≤ 600)) (
 cond (inb ((rd a5 a0.toNat 1).int) a8.length) (
 cond ((rd a8 (((rd a5 a0.toNat 1).int).toNat) 0).bool) (
 some [.b false]) (
 cond (inb ((rd a5 a0.toNat 1).int) a8.length) (
 L_spec_l4ThingsOk (some 4) [.i (IntKind.i64.wrap (a0 + 1)), .i a1, .i a2, .i a3, .i a4, .l a5, .l a6, .l a7, .l (wrs a8 (((rd a5 a0.toNat 1).int).toNat) 0 ([.b true] : List C)), .l a9]) (
 none))) (
 none)) (
 L_spec_l4ThingsOk (some 14) [.i a0, .i 0, .i a1, .i a2, .i a3, .i a4, .l a5, .l a6, .l a7, .l a8, .l a9, .s ((rd a5 a0.toNat 0).str), .i ((rd a5 a0.toNat 1).int), .s ((rd a5 a0.toNat 2).str), .l ((rd a5 a0.toNat 3).list)])))))) (
 none)) (
 L_spec_l4ThingsOk (some 20) [.i 0, .i a1, .i a2, .i a3, .i a4, .l a5, .l a6, .l a7]) := (Lim_eq _ _).trans (by kernel_rfl)
theorem e_spec_l4ThingsOk_14 (a0 : Int) (a1 : Int) (a2 : Int) (a3 : Int) (a4 : Int) (a5 : Int) (a6 : Rw) (a7 : Rw) (a8 : Rw) (a9 : Rw) (a10 : Rw) (a11 : ByteArray) (a12 : Int) (a13 : ByteArray) (a14 : Rw) : L_spec_l4ThingsOk (some 14) [.i a0, .i a1, .i a2, .i a3, .i a4, .i a5, .l a6, .l a7, .l a8, .l a9, .l a10, .s a11, .i a12, .s a13, .l a14] =
 cond (decide (a1 < (a10.length : Int))) (
 cond (inb a1 a10.length) (
 cond ((rd a10 a1.toNat 0).int == a12) (
 some [.b false]) (
 L_spec_l4ThingsOk (some 14) [.i a0, .i (IntKind.i64.wrap (a1 + 1)), .i a2, .i a3, .i a4, .i a5, .l a6, .l a7, .l a8, .l a9, .l a10, .s a11, .i a12, .s a13, .l a14])) (
 none)) (
 cond (decide (a10.length + ([[.i a12]] : Rw).length ≤ most)) (
 L_spec_l4ThingsOk (some 4) [.i (IntKind.i64.wrap (a0 + 1)), .i a2, .i a3, .i a4, .i a5, .l a6, .l a7, .l a8, .l a9, .l (a10 ++ ([[.i a12]] : Rw))]) (
 none)) := (Lim_eq _ _).trans (by kernel_rfl)
theorem e_spec_l4ThingsOk_20 (a0 : Int) (a1 : Int) (a2 : Int) (a3 : Int) (a4 : Int) (a5 : Rw) (a6 : Rw) (a7 : Rw) : L_spec_l4ThingsOk (some 20) [.i a0, .i a1, .i a2, .i a3, .i a4, .l a5, .l a6, .l a7] =
 cond (decide (a0 < (a5.length : Int))) (
 L_spec_l4ThingsOk (some 23) [.i a0, .i 0, .i a1, .i a2, .i a3, .i a4, .l a5, .l a6, .l a7]) (
 some [.b true]) := (Lim_eq _ _).trans (by kernel_rfl)
theorem e_spec_l4ThingsOk_23 (a0 : Int) (a1 : Int) (a2 : Int) (a3 : Int) (a4 : Int) (a5 : Int) (a6 : Rw) (a7 : Rw) (a8 : Rw) : L_spec_l4ThingsOk (some 23) [.i a0, .i a1, .i a2, .i a3, .i a4, .i a5, .l a6, .l a7, .l a8] =
 cond (inb a0 a6.length) (
 cond (decide (a1 < (((rd a6 a0.toNat 3).list).length : Int))) (
 cond (inb a0 a6.length) (
 cond (inb a1 (((rd a6 a0.toNat 3).list).length)) (
 (L_spec_l4Find none [.i a2, .i a3, .i a4, .i a5, .l a6, .l a7, .l a8, .s ((rd ((rd a6 a0.toNat 3).list) a1.toNat 0).str)]).bind fun y1 =>
 cond (decide ((g y1 0).int < 0)) (
 some [.b false]) (
 cond (inb ((g y1 0).int) a6.length) (
 cond (inb a0 a6.length) (
 cond (decide ((rd a6 a0.toNat 1).int ≤ (rd a6 (((g y1 0).int).toNat) 1).int)) (
 some [.b false]) (
 L_spec_l4ThingsOk (some 23) [.i a0, .i (IntKind.i64.wrap (a1 + 1)), .i a2, .i a3, .i a4, .i a5, .l a6, .l a7, .l a8])) (
 none)) (
 none))) (
 none)) (
 none)) (
 L_spec_l4ThingsOk (some 20) [.i (IntKind.i64.wrap (a0 + 1)), .i a2, .i a3, .i a4, .i a5, .l a6, .l a7, .l a8])) (
 none) := (Lim_eq _ _).trans (by kernel_rfl)
theorem k_spec_l4ThingsOk : SigOk Tryz.prog (d_spec_l4ThingsOk.sig (L_spec_l4ThingsOk none)) ∧ (d_spec_l4ThingsOk.sig (L_spec_l4ThingsOk none)).ok = true := sound_lim (known_cons k_spec_l1ThingOk (by kernel_rfl) (known_cons k_spec_FormThing (by kernel_rfl) (known_cons k_spec_Sum (by kernel_rfl) (known_cons k_spec_l4Find (by kernel_rfl) (known_cons k_spec_l4Range (by kernel_rfl) known_nil))))) (by kernel_rfl) (by kernel_rfl) (by kernel_rfl)
def d_spec_ValidState : FD := { fn := 42, nb := 0, pre := ⟨[.ag [.i .i64 0, .i .i64 1, .i .i64 2, .i .i64 3, .fz 90 false 4, .fz 156 false 5, .fz 158 false 6]], []⟩, post := ⟨[.sc (.b 0)], []⟩, sh := false, cuts := [⟨6, [1, 3], ⟨[.sc (.pt 0 0), .sc (.i .i64 0)], [.bx [.i .i64 1, .i .i64 2, .i .i64 3, .i .i64 4, .fz 90 false 5, .fz 156 false 6, .fz 158 false 7]]⟩⟩, ⟨11, [1, 4], ⟨[.sc (.pt 0 0), .sc (.i .i64 0)], [.bx [.i .i64 1, .i .i64 2, .i .i64 3, .i .i64 4, .fz 90 false 5, .fz 156 false 6, .fz 158 false 7]]⟩⟩] }
noncomputable def L_spec_ValidState : Option Nat → Lv → Option Lv := Lim Tryz.prog [d_spec_l1Width.sig (L_spec_l1Width none), d_spec_l3NameOk.sig (L_spec_l3NameOk none), d_spec_l4Find.sig (L_spec_l4Find none), d_spec_l4Range.sig (L_spec_l4Range none), d_spec_l4ThingsOk.sig (L_spec_l4ThingsOk none)] d_spec_ValidState Tryz.f42
theorem e_spec_ValidState_i (a0 : Int) (a1 : Int) (a2 : Int) (a3 : Int) (a4 : Rw) (a5 : Rw) (a6 : Rw) : L_spec_ValidState none [.i a0, .i a1, .i a2, .i a3, .l a4, .l a5, .l a6] =
 (L_spec_l1Width none [.i a0]).bind fun y1 =>
 cond (!(g y1 0).bool) (
 some [.b false]) (
 (L_spec_l4Range none [.i a1, .i 0, .i 1000000000]).bind fun y2 =>
 cond (!(g y2 0).bool) (
 some [.b false]) (
 (L_spec_l4Range none [.i a2, .i 0, .i 1000000000]).bind fun y3 =>
 cond (!(g y3 0).bool) (
 some [.b false]) (
 (L_spec_l4Range none [.i a3, .i 0, .i 1000000000]).bind fun y4 =>
 cond (!(g y4 0).bool) (
 some [.b false]) (
 cond (decide (600 < (a4.length : Int))) (
 some [.b false]) (
 cond (decide (100 < (a5.length : Int))) (
 some [.b false]) (
 cond (decide (200 < (a6.length : Int))) (
 some [.b false]) (
 (L_spec_l4ThingsOk none [.i a0, .i a1, .i a2, .i a3, .l a4, .l a5, .l a6]).bind fun y5 =>
 cond (!(g y5 0).bool) (
 some [.b false]) (
 L_spec_ValidState (some 6) [.i 0, .i a0, .i a1, .i a2, .i a3, .l a4, .l a5, .l a6])))))))) := (Lim_eq _ _).trans (by kernel_rfl)
theorem e_spec_ValidState_6 (a0 : Int) (a1 : Int) (a2 : Int) (a3 : Int) (a4 : Int) (a5 : Rw) (a6 : Rw) (a7 : Rw) : L_spec_ValidState (some 6) [.i a0, .i a1, .i a2, .i a3, .i a4, .l a5, .l a6, .l a7] =
 cond (decide (a0 < (a6.length : Int))) (
 cond (inb a0 a6.length) (
 (L_spec_l3NameOk none [.s ((rd a6 a0.toNat 0).str)]).bind fun y1 =>
 cond (!(g y1 0).bool) (
 some [.b false]) (
 cond (decide (0 < a0)) (
 cond (inb (IntKind.i64.wrap (a0 - 1)) a6.length) (
 cond (inb a0 a6.length) (
 cond (!slt ((rd a6 ((IntKind.i64.wrap (a0 - 1)).toNat) 0).str) ((rd a6 a0.toNat 0).str)) (
 some [.b false]) (
 cond (inb a0 a6.length) (
 (L_spec_l4Find none [.i a1, .i a2, .i a3, .i a4, .l a5, .l a6, .l a7, .s ((rd a6 a0.toNat 1).str)]).bind fun y2 =>
 cond (decide ((g y2 0).int < 0)) (
 some [.b false]) (
 L_spec_ValidState (some 6) [.i (IntKind.i64.wrap (a0 + 1)), .i a1, .i a2, .i a3, .i a4, .l a5, .l a6, .l a7])) (
 none))) (
 none)) (
 none)) (
 cond (inb a0 a6.length) (
 (L_spec_l4Find none [.i a1, .i a2, .i a3, .i a4, .l a5, .l a6, .l a7, .s ((rd a6 a0.toNat 1).str)]).bind fun y3 =>
 cond (decide ((g y3 0).int < 0)) (
 some [.b false]) (
 L_spec_ValidState (some 6) [.i (IntKind.i64.wrap (a0 + 1)), .i a1, .i a2, .i a3, .i a4, .l a5, .l a6, .l a7])) (
 none)))) (
 none)) (
 L_spec_ValidState (some 11) [.i 0, .i a1, .i a2, .i a3, .i a4, .l a5, .l a6, .l a7]) := (Lim_eq _ _).trans (by kernel_rfl)
theorem e_spec_ValidState_11 (a0 : Int) (a1 : Int) (a2 : Int) (a3 : Int) (a4 : Int) (a5 : Rw) (a6 : Rw) (a7 : Rw) : L_spec_ValidState (some 11) [.i a0, .i a1, .i a2, .i a3, .i a4, .l a5, .l a6, .l a7] =
 cond (decide (a0 < (a7.length : Int))) (
 cond (inb a0 a7.length) (
 (L_spec_l4Range none [.i ((rd a7 a0.toNat 0).int), .i 1, .i a3]).bind fun y1 =>
 cond (!(g y1 0).bool) (
 some [.b false]) (
 cond (decide (0 < a0)) (
 cond (inb (IntKind.i64.wrap (a0 - 1)) a7.length) (
 cond (decide ((rd a7 a0.toNat 0).int ≤ (rd a7 ((IntKind.i64.wrap (a0 - 1)).toNat) 0).int)) (
 some [.b false]) (
 (L_spec_l4Find none [.i a1, .i a2, .i a3, .i a4, .l a5, .l a6, .l a7, .s ((rd a7 a0.toNat 1).str)]).bind fun y2 =>
 cond (decide ((g y2 0).int < 0)) (
 some [.b false]) (
 cond (decide ((rd a7 a0.toNat 2).int ≤ a2)) (
 some [.b false]) (
 cond (decide ((IntKind.i64.wrap (a2 + 100000)) < (rd a7 a0.toNat 2).int)) (
 some [.b false]) (
 L_spec_ValidState (some 11) [.i (IntKind.i64.wrap (a0 + 1)), .i a1, .i a2, .i a3, .i a4, .l a5, .l a6, .l a7]))))) (
 none)) (
 (L_spec_l4Find none [.i a1, .i a2, .i a3, .i a4, .l a5, .l a6, .l a7, .s ((rd a7 a0.toNat 1).str)]).bind fun y3 =>
 cond (decide ((g y3 0).int < 0)) (
 some [.b false]) (
 cond (decide ((rd a7 a0.toNat 2).int ≤ a2)) (
 some [.b false]) (
 cond (decide ((IntKind.i64.wrap (a2 + 100000)) < (rd a7 a0.toNat 2).int)) (
 some [.b false]) (
 L_spec_ValidState (some 11) [.i (IntKind.i64.wrap (a0 + 1)), .i a1, .i a2, .i a3, .i a4, .l a5, .l a6, .l a7])))))) (
 none)) (
 some [.b true]) := (Lim_eq _ _).trans (by kernel_rfl)
theorem k_spec_ValidState : SigOk Tryz.prog (d_spec_ValidState.sig (L_spec_ValidState none)) ∧ (d_spec_ValidState.sig (L_spec_ValidState none)).ok = true := sound_lim (known_cons k_spec_l1Width (by kernel_rfl) (known_cons k_spec_l3NameOk (by kernel_rfl) (known_cons k_spec_l4Find (by kernel_rfl) (known_cons k_spec_l4Range (by kernel_rfl) (known_cons k_spec_l4ThingsOk (by kernel_rfl) known_nil))))) (by kernel_rfl) (by kernel_rfl) (by kernel_rfl)
def d_spec_ValidRound : FD := { fn := 232, nb := 0, pre := ⟨[.ag [.i .i64 0, .i .i64 1, .i .i64 2, .i .i64 3, .fz 90 false 4, .fz 156 false 5, .fz 158 false 6], .ag [.i .i64 7, .fz 9 false 8, .fz 9 false 9, .i .i64 10, .i .i64 11, .i .i64 12]], []⟩, post := ⟨[.sc (.b 0)], []⟩, sh := false, cuts := [] }
noncomputable def L_spec_ValidRound : Option Nat → Lv → Option Lv := Lim Tryz.prog [d_spec_l6Ok.sig (L_spec_l6Ok none), d_spec_ValidState.sig (L_spec_ValidState none)] d_spec_ValidRound Tryz.f232
theorem e_spec_ValidRound_i (a0 : Int) (a1 : Int) (a2 : Int) (a3 : Int) (a4 : Rw) (a5 : Rw) (a6 : Rw) (a7 : Int) (a8 : Rw) (a9 : Rw) (a10 : Int) (a11 : Int) (a12 : Int) : L_spec_ValidRound none [.i a0, .i a1, .i a2, .i a3, .l a4, .l a5, .l a6, .i a7, .l a8, .l a9, .i a10, .i a11, .i a12] =
 (L_spec_ValidState none [.i a0, .i a1, .i a2, .i a3, .l a4, .l a5, .l a6]).bind fun y1 =>
 cond ((g y1 0).bool) (
 (L_spec_l6Ok none [.i a0, .i a1, .i a2, .i a3, .l a4, .l a5, .l a6, .i a7, .l a8, .l a9, .i a10, .i a11, .i a12]).bind fun y2 =>
 some [.b ((g y2 0).bool)]) (
 some [.b false]) := (Lim_eq _ _).trans (by kernel_rfl)
theorem k_spec_ValidRound : SigOk Tryz.prog (d_spec_ValidRound.sig (L_spec_ValidRound none)) ∧ (d_spec_ValidRound.sig (L_spec_ValidRound none)).ok = true := sound_lim (known_cons k_spec_l6Ok (by kernel_rfl) (known_cons k_spec_ValidState (by kernel_rfl) known_nil)) (by kernel_rfl) (by kernel_rfl) (by kernel_rfl)
end KV
end
section
set_option maxRecDepth 100000
namespace KV
open Go Go.Eng Go.Proofs
def d_spec_Unit : FD := { fn := 224, nb := 0, pre := ⟨[.ag [.i .i64 0, .i .i64 1, .i .i64 2, .i .i64 3, .fz 90 false 4, .fz 156 false 5, .fz 158 false 6], .ag [.i .i64 7, .fz 9 false 8, .fz 9 false 9, .i .i64 10, .i .i64 11, .i .i64 12]], []⟩, post := ⟨[.ag [.i .i64 0, .i .i64 1, .i .i64 2, .i .i64 3, .i .i64 4, .ow 0, .ow 1, .ow 2, .i .i64 5, .fz 9 true 6, .fz 9 true 7, .i .i64 8, .i .i64 9, .i .i64 10, .ow 3]], [.rw 90 true 11, .rw 156 true 12, .rw 158 true 13, .rw 9 true 14]⟩, sh := false, cuts := [] }
noncomputable def L_spec_Unit : Option Nat → Lv → Option Lv := Lim Tryz.prog [d_spec_l4Copy.sig (L_spec_l4Copy none), d_spec_l6Round.sig (L_spec_l6Round none), d_spec_l6Unit.sig (L_spec_l6Unit none), d_spec_ValidRound.sig (L_spec_ValidRound none)] d_spec_Unit Tryz.f224
theorem e_spec_Unit_i (a0 : Int) (a1 : Int) (a2 : Int) (a3 : Int) (a4 : Rw) (a5 : Rw) (a6 : Rw) (a7 : Int) (a8 : Rw) (a9 : Rw) (a10 : Int) (a11 : Int) (a12 : Int) : L_spec_Unit none [.i a0, .i a1, .i a2, .i a3, .l a4, .l a5, .l a6, .i a7, .l a8, .l a9, .i a10, .i a11, .i a12] =
 (L_spec_ValidRound none [.i a0, .i a1, .i a2, .i a3, .l a4, .l a5, .l a6, .i a7, .l a8, .l a9, .i a10, .i a11, .i a12]).bind fun y1 =>
 cond (!(g y1 0).bool) (
 some [.i 1, .i 0, .i 0, .i 0, .i 0, .i 0, .l ([]), .l ([]), .i 0, .i 0, .i 0, .l [], .l [], .l [], .l []]) (
 cond (decide (1000000000 ≤ a12)) (
 some [.i 1, .i 0, .i 0, .i 0, .i 0, .i 0, .l ([]), .l ([]), .i 0, .i 0, .i 0, .l [], .l [], .l [], .l []]) (
 (L_spec_l4Copy none [.i a0, .i a1, .i a2, .i a3, .l a4, .l a5, .l a6]).bind fun y2 =>
 (L_spec_l6Round none [.i a7, .l a8, .l a9, .i a10, .i a11, .i a12]).bind fun y3 =>
 (L_spec_l6Unit none [.i ((g y2 0).int), .i ((g y2 1).int), .i ((g y2 2).int), .i ((g y2 3).int), .l ((g y2 4).list), .l ((g y2 5).list), .l ((g y2 6).list), .i ((g y3 0).int), .l ((g y3 4).list), .l ((g y3 5).list), .i ((g y3 1).int), .i ((g y3 2).int), .i ((g y3 3).int)]).bind fun y4 =>
 (L_spec_l4Copy none [.i ((g y4 1).int), .i ((g y4 2).int), .i ((g y4 3).int), .i ((g y4 4).int), .l ((g y4 5).list), .l ((g y4 6).list), .l ((g y4 7).list)]).bind fun y5 =>
 some [.i ((g y4 0).int), .i ((g y5 0).int), .i ((g y5 1).int), .i ((g y5 2).int), .i ((g y5 3).int), .i ((g y4 8).int), .l ((g y4 9).list), .l ((g y4 10).list), .i ((g y4 11).int), .i ((g y4 12).int), .i ((g y4 13).int), .l ((g y5 4).list), .l ((g y5 5).list), .l ((g y5 6).list), .l ((g y4 14).list)])) := (Lim_eq _ _).trans (by kernel_rfl)
theorem k_spec_Unit : SigOk Tryz.prog (d_spec_Unit.sig (L_spec_Unit none)) ∧ (d_spec_Unit.sig (L_spec_Unit none)).ok = true := sound_lim (known_cons k_spec_l4Copy (by kernel_rfl) (known_cons k_spec_l6Round (by kernel_rfl) (known_cons k_spec_l6Unit (by kernel_rfl) (known_cons k_spec_ValidRound (by kernel_rfl) known_nil)))) (by kernel_rfl) (by kernel_rfl) (by kernel_rfl)
def d_spec_l7Full : FD := { fn := 197, nb := 1, pre := ⟨[.sc (.pt 0 0)], [.bx [.fz 5 false 0, .i .i64 1]]⟩, post := ⟨[.ag [.i .i64 0, .i .i64 1, .ow 1, .ow 2, .i .i64 2, .i .i64 3, .i .i64 4, .i .i64 5, .ow 3, .ow 4, .ow 5, .i .i64 6, .fz 9 true 7, .fz 9 true 8, .i .i64 9, .i .i64 10, .i .i64 11]], [.bx [.fz 5 false 12, .i .i64 13], .rw 9 true 14, .rw 9 true 15, .rw 90 true 16, .rw 156 true 17, .rw 158 true 18]⟩, sh := true, cuts := [⟨5, [0, 2, 3, 4, 5, 6], ⟨[.sc (.pt 0 0), .sc (.pt 1 0), .sc (.i .i64 0), .sc (.pt 2 0), .sc (.s 1), .sc (.i .i64 2)], [.bx [.fz 5 false 3, .i .i64 4], .bx [.i .i64 5, .i .i64 6, .ow 3, .ow 4, .i .i64 7, .i .i64 8, .i .i64 9, .i .i64 10, .ow 5, .ow 6, .ow 7, .i .i64 11, .ow 8, .ow 9, .i .i64 12, .i .i64 13, .i .i64 14], .bx [.ow 10, .ow 11], .rw 9 true 15, .rw 9 true 16, .rw 90 true 17, .rw 156 true 18, .rw 158 true 19, .rw 9 true 20, .rw 9 true 21, .rw 9 true 22, .rw 9 true 23]⟩⟩, ⟨14, [0, 2, 3, 4, 8, 9], ⟨[.sc (.pt 0 0), .sc (.pt 1 0), .sc (.i .i64 0), .sc (.pt 2 0), .sc (.s 1), .sc (.i .i64 2)], [.bx [.fz 5 false 3, .i .i64 4], .bx [.i .i64 5, .i .i64 6, .ow 3, .ow 4, .i .i64 7, .i .i64 8, .i .i64 9, .i .i64 10, .ow 5, .ow 6, .ow 7, .i .i64 11, .ow 8, .ow 9, .i .i64 12, .i .i64 13, .i .i64 14], .bx [.ow 10, .ow 11], .rw 9 true 15, .rw 9 true 16, .rw 90 true 17, .rw 156 true 18, .rw 158 true 19, .rw 9 true 20, .rw 9 true 21, .rw 9 true 22, .rw 9 true 23]⟩⟩, ⟨18, [2, 10, 12], ⟨[.sc (.pt 1 0), .sc (.pt 2 0), .sc (.i .i64 0)], [.bx [.fz 5 false 1, .i .i64 2], .bx [.i .i64 3, .i .i64 4, .ow 3, .ow 4, .i .i64 5, .i .i64 6, .i .i64 7, .i .i64 8, .ow 5, .ow 6, .ow 7, .i .i64 9, .ow 8, .ow 9, .i .i64 10, .i .i64 11, .i .i64 12], .bx [.i .i64 13, .i .i64 14, .ow 10, .ow 11, .i .i64 15, .i .i64 16, .i .i64 17, .i .i64 18, .ow 12, .ow 13, .ow 14, .i .i64 19, .fz 9 true 20, .fz 9 true 21, .i .i64 22, .i .i64 23, .i .i64 24], .rw 9 true 25, .rw 9 true 26, .rw 90 true 27, .rw 156 true 28, .rw 158 true 29, .rw 9 true 30, .rw 9 true 31, .rw 9 true 32, .rw 9 true 33, .rw 90 true 34, .rw 156 true 35, .rw 158 true 36]⟩⟩] }
noncomputable def L_spec_l7Full : Option Nat → Lv → Option Lv := Lim Tryz.prog [d_spec_FormThing.sig (L_spec_FormThing none), d_spec_l1Rd_pick.sig (L_spec_l1Rd_pick none), d_spec_Sum.sig (L_spec_Sum none), d_spec_FormEntry.sig (L_spec_FormEntry none), d_spec_Open.sig (L_spec_Open none), d_spec_l8Dec.sig (L_spec_l8Dec none), d_spec_Unit.sig (L_spec_Unit none)] d_spec_l7Full Tryz.f197
theorem e_spec_l7Full_i (a0 : Rw) (a1 : Int) : L_spec_l7Full none [.l a0, .i a1] =
 (L_spec_l1Rd_pick none [.i 2, .l a0, .i a1]).bind fun y1 =>
 cond (inb ((g y1 0).int) (([[.i 8], [.i 1]] : Rw).length)) (
 L_spec_l7Full (some 5) [.i ((rd ([[.i 8], [.i 1]] : Rw) (((g y1 0).int).toNat) 0).int), .s (⟨#[]⟩ : ByteArray), .i 0, .l ((g y1 1).list), .i ((g y1 2).int), .i 0, .i 0, .i 0, .i 0, .i 0, .i 0, .i 0, .i 0, .i 0, .i 0, .l [], .l [], .l [], .l [], .l [], .l [], .l [], .l [], .l []]) (
 none) := (Lim_eq _ _).trans (by kernel_rfl)
theorem e_spec_l7Full_5 (a0 : Int) (a1 : ByteArray) (a2 : Int) (a3 : Rw) (a4 : Int) (a5 : Int) (a6 : Int) (a7 : Int) (a8 : Int) (a9 : Int) (a10 : Int) (a11 : Int) (a12 : Int) (a13 : Int) (a14 : Int) (a15 : Rw) (a16 : Rw) (a17 : Rw) (a18 : Rw) (a19 : Rw) (a20 : Rw) (a21 : Rw) (a22 : Rw) (a23 : Rw) : L_spec_l7Full (some 5) [.i a0, .s a1, .i a2, .l a3, .i a4, .i a5, .i a6, .i a7, .i a8, .i a9, .i a10, .i a11, .i a12, .i a13, .i a14, .l a15, .l a16, .l a17, .l a18, .l a19, .l a20, .l a21, .l a22, .l a23] =
 cond (decide (a2 < 4)) (
 (L_spec_l8Dec none [.i a2]).bind fun y1 =>
 cond (decide ((⟨#[102, 117, 108, 108]⟩ : ByteArray).size + ((g y1 0).str).size ≤ most)) (
 cond (!Eng.seq a1 (⟨#[]⟩ : ByteArray)) (
 (L_spec_FormThing none [.s ((⟨#[102, 117, 108, 108]⟩ : ByteArray) ++ ((g y1 0).str)), .l ([[.s a1]] : Rw), .i a0]).bind fun y2 =>
 (L_spec_Sum none [.s ((g y2 0).str), .i a0]).bind fun y3 =>
 (L_spec_FormEntry none [.i 1, .s (⟨#[]⟩ : ByteArray), .s (⟨#[]⟩ : ByteArray), .i 1, .s ((⟨#[102, 117, 108, 108]⟩ : ByteArray) ++ ((g y1 0).str)), .l ([[.s a1]] : Rw), .i a0]).bind fun y4 =>
 cond (decide (a22.length + ([[.s ((g y4 0).str)]] : Rw).length ≤ most)) (
 L_spec_l7Full (some 5) [.i a0, .s ((g y3 0).str), .i (IntKind.i64.wrap (a2 + 1)), .l a3, .i a4, .i a5, .i a6, .i a7, .i a8, .i a9, .i a10, .i a11, .i a12, .i a13, .i a14, .l a15, .l a16, .l a17, .l a18, .l a19, .l a20, .l a21, .l (a22 ++ ([[.s ((g y4 0).str)]] : Rw)), .l a23]) (
 none)) (
 (L_spec_FormThing none [.s ((⟨#[102, 117, 108, 108]⟩ : ByteArray) ++ ((g y1 0).str)), .l ([]), .i a0]).bind fun y5 =>
 (L_spec_Sum none [.s ((g y5 0).str), .i a0]).bind fun y6 =>
 (L_spec_FormEntry none [.i 1, .s (⟨#[]⟩ : ByteArray), .s (⟨#[]⟩ : ByteArray), .i 1, .s ((⟨#[102, 117, 108, 108]⟩ : ByteArray) ++ ((g y1 0).str)), .l ([]), .i a0]).bind fun y7 =>
 cond (decide (a22.length + ([[.s ((g y7 0).str)]] : Rw).length ≤ most)) (
 L_spec_l7Full (some 5) [.i a0, .s ((g y6 0).str), .i (IntKind.i64.wrap (a2 + 1)), .l a3, .i a4, .i a5, .i a6, .i a7, .i a8, .i a9, .i a10, .i a11, .i a12, .i a13, .i a14, .l a15, .l a16, .l a17, .l a18, .l a19, .l a20, .l a21, .l (a22 ++ ([[.s ((g y7 0).str)]] : Rw)), .l a23]) (
 none))) (
 none)) (
 (L_spec_FormEntry none [.i 6, .s (⟨#[]⟩ : ByteArray), .s (⟨#[]⟩ : ByteArray), .i 1, .s (⟨#[]⟩ : ByteArray), .l ([]), .i a0]).bind fun y8 =>
 (L_spec_l1Rd_pick none [.i 4, .l a3, .i a4]).bind fun y9 =>
 L_spec_l7Full (some 14) [.i a0, .s ((g y8 0).str), .i (IntKind.i64.wrap (4000 - (g y9 0).int)), .l ((g y9 1).list), .i ((g y9 2).int), .i a5, .i a6, .i a7, .i a8, .i a9, .i a10, .i a11, .i a12, .i a13, .i a14, .l a15, .l a16, .l a17, .l a18, .l a19, .l a20, .l a21, .l a22, .l a23]) := (Lim_eq _ _).trans (by kernel_rfl)
theorem e_spec_l7Full_14 (a0 : Int) (a1 : ByteArray) (a2 : Int) (a3 : Rw) (a4 : Int) (a5 : Int) (a6 : Int) (a7 : Int) (a8 : Int) (a9 : Int) (a10 : Int) (a11 : Int) (a12 : Int) (a13 : Int) (a14 : Int) (a15 : Rw) (a16 : Rw) (a17 : Rw) (a18 : Rw) (a19 : Rw) (a20 : Rw) (a21 : Rw) (a22 : Rw) (a23 : Rw) : L_spec_l7Full (some 14) [.i a0, .s a1, .i a2, .l a3, .i a4, .i a5, .i a6, .i a7, .i a8, .i a9, .i a10, .i a11, .i a12, .i a13, .i a14, .l a15, .l a16, .l a17, .l a18, .l a19, .l a20, .l a21, .l a22, .l a23] =
 cond (decide ((a22.length : Int) < a2)) (
 cond (decide (a22.length + ([[.s a1]] : Rw).length ≤ most)) (
 L_spec_l7Full (some 14) [.i a0, .s a1, .i a2, .l a3, .i a4, .i a5, .i a6, .i a7, .i a8, .i a9, .i a10, .i a11, .i a12, .i a13, .i a14, .l a15, .l a16, .l a17, .l a18, .l a19, .l a20, .l a21, .l (a22 ++ ([[.s a1]] : Rw)), .l a23]) (
 none)) (
 (L_spec_l1Rd_pick none [.i 2, .l a3, .i a4]).bind fun y1 =>
 cond (inb ((g y1 0).int) (([[.i 1000000], [.i 60]] : Rw).length)) (
 (L_spec_Open none [.i a0, .i ((rd ([[.i 1000000], [.i 60]] : Rw) (((g y1 0).int).toNat) 0).int), .l a22, .l a23]).bind fun y2 =>
 (L_spec_l1Rd_pick none [.i 14, .l ((g y1 1).list), .i ((g y1 2).int)]).bind fun y3 =>
 L_spec_l7Full (some 18) [.i ((g y3 0).int), .l ((g y3 1).list), .i ((g y3 2).int), .i a5, .i a6, .i a7, .i a8, .i a9, .i a10, .i a11, .i a12, .i a13, .i a14, .i ((g y2 0).int), .i ((g y2 1).int), .i ((g y2 2).int), .i ((g y2 3).int), .i ((g y2 4).int), .i ((g y2 5).int), .i ((g y2 6).int), .l ((g y2 7).list), .l ((g y2 8).list), .i ((g y2 9).int), .i ((g y2 10).int), .i ((g y2 11).int), .l a15, .l a16, .l a17, .l a18, .l a19, .l a20, .l a21, .l ((g y2 13).list), .l ((g y2 14).list), .l ((g y2 15).list), .l ((g y2 16).list), .l ((g y2 17).list)]) (
 none)) := (Lim_eq _ _).trans (by kernel_rfl)
theorem e_spec_l7Full_18 (a0 : Int) (a1 : Rw) (a2 : Int) (a3 : Int) (a4 : Int) (a5 : Int) (a6 : Int) (a7 : Int) (a8 : Int) (a9 : Int) (a10 : Int) (a11 : Int) (a12 : Int) (a13 : Int) (a14 : Int) (a15 : Int) (a16 : Int) (a17 : Int) (a18 : Int) (a19 : Int) (a20 : Rw) (a21 : Rw) (a22 : Int) (a23 : Int) (a24 : Int) (a25 : Rw) (a26 : Rw) (a27 : Rw) (a28 : Rw) (a29 : Rw) (a30 : Rw) (a31 : Rw) (a32 : Rw) (a33 : Rw) (a34 : Rw) (a35 : Rw) (a36 : Rw) : L_spec_l7Full (some 18) [.i a0, .l a1, .i a2, .i a3, .i a4, .i a5, .i a6, .i a7, .i a8, .i a9, .i a10, .i a11, .i a12, .i a13, .i a14, .i a15, .i a16, .i a17, .i a18, .i a19, .l a20, .l a21, .i a22, .i a23, .i a24, .l a25, .l a26, .l a27, .l a28, .l a29, .l a30, .l a31, .l a32, .l a33, .l a34, .l a35, .l a36] =
 cond (decide (0 < a0)) (
 (L_spec_Unit none [.i a15, .i a16, .i a17, .i a18, .l a34, .l a35, .l a36, .i a19, .l a20, .l a21, .i a22, .i a23, .i a24]).bind fun y1 =>
 cond (decide (0 < (((g y1 14).list).length : Int))) (
 some [.i a13, .i a14, .i a15, .i a16, .i a17, .i a18, .i a19, .l a20, .l a21, .i a22, .i a23, .i a24, .l a1, .i a2, .l a32, .l a33, .l a34, .l a35, .l a36]) (
 L_spec_l7Full (some 18) [.i (IntKind.i64.wrap (a0 - 1)), .l a1, .i a2, .i a3, .i a4, .i a5, .i a6, .i a7, .i a8, .i a9, .i a10, .i a11, .i a12, .i a13, .i a14, .i a15, .i a16, .i a17, .i a18, .i ((g y1 5).int), .l ((g y1 6).list), .l ((g y1 7).list), .i ((g y1 8).int), .i ((g y1 9).int), .i ((g y1 10).int), .l a25, .l a26, .l a27, .l a28, .l a29, .l a30, .l a31, .l a32, .l a33, .l a34, .l a35, .l a36])) (
 some [.i a13, .i a14, .i a15, .i a16, .i a17, .i a18, .i a19, .l a20, .l a21, .i a22, .i a23, .i a24, .l a1, .i a2, .l a32, .l a33, .l a34, .l a35, .l a36]) := (Lim_eq _ _).trans (by kernel_rfl)
theorem k_spec_l7Full : SigOk Tryz.prog (d_spec_l7Full.sig (L_spec_l7Full none)) ∧ (d_spec_l7Full.sig (L_spec_l7Full none)).ok = true := sound_lim (known_cons k_spec_FormThing (by kernel_rfl) (known_cons k_spec_l1Rd_pick (by kernel_rfl) (known_cons k_spec_Sum (by kernel_rfl) (known_cons k_spec_FormEntry (by kernel_rfl) (known_cons k_spec_Open (by kernel_rfl) (known_cons k_spec_l8Dec (by kernel_rfl) (known_cons k_spec_Unit (by kernel_rfl) known_nil))))))) (by kernel_rfl) (by kernel_rfl) (by kernel_rfl)
def d_spec_l6Spoil : FD := { fn := 198, nb := 1, pre := ⟨[.sc (.pt 0 0), .ag [.i .i64 0, .i .i64 1, .i .i64 2, .i .i64 3, .fz 90 false 4, .fz 156 false 5, .fz 158 false 6], .ag [.i .i64 7, .fz 9 false 8, .fz 9 false 9, .i .i64 10, .i .i64 11, .i .i64 12]], [.bx [.fz 5 false 13, .i .i64 14]]⟩, post := ⟨[.ag [.i .i64 0, .ow 1, .ow 2, .i .i64 1, .i .i64 2, .i .i64 3]], [.bx [.fz 5 false 4, .i .i64 5], .rw 9 true 6, .rw 9 true 7]⟩, sh := true, cuts := [⟨6, [0, 4, 6, 7], ⟨[.sc (.pt 0 0), .sc (.pt 1 0), .sc (.pt 2 0), .sc (.pt 3 0)], [.bx [.fz 5 false 0, .i .i64 1], .bx [.i .i64 2, .i .i64 3, .i .i64 4, .i .i64 5, .fz 90 false 6, .fz 156 false 7, .fz 158 false 8], .bx [.i .i64 9, .ow 6, .ow 7, .i .i64 10, .i .i64 11, .i .i64 12], .bx [.i .i64 13, .ow 4, .ow 5, .i .i64 14, .i .i64 15, .i .i64 16], .rw 9 true 17, .rw 9 true 18, .rw 9 true 19, .rw 9 true 20]⟩⟩, ⟨10, [4, 6, 7, 9], ⟨[.sc (.pt 1 0), .sc (.pt 2 0), .sc (.pt 3 0), .sc (.i .i64 0)], [.bx [.fz 5 false 1, .i .i64 2], .bx [.i .i64 3, .i .i64 4, .i .i64 5, .i .i64 6, .fz 90 false 7, .fz 156 false 8, .fz 158 false 9], .bx [.i .i64 10, .ow 4, .ow 5, .i .i64 11, .i .i64 12, .i .i64 13], .bx [.i .i64 14, .ow 6, .ow 7, .i .i64 15, .i .i64 16, .i .i64 17], .rw 9 true 18, .rw 9 true 19, .rw 9 true 20, .rw 9 true 21]⟩⟩, ⟨28, [4, 6, 7, 10], ⟨[.sc (.pt 1 0), .sc (.pt 2 0), .sc (.pt 3 0), .sc (.i .i64 0)], [.bx [.fz 5 false 1, .i .i64 2], .bx [.i .i64 3, .i .i64 4, .i .i64 5, .i .i64 6, .fz 90 false 7, .fz 156 false 8, .fz 158 false 9], .bx [.i .i64 10, .ow 4, .ow 5, .i .i64 11, .i .i64 12, .i .i64 13], .bx [.i .i64 14, .ow 6, .ow 7, .i .i64 15, .i .i64 16, .i .i64 17], .rw 9 true 18, .rw 9 true 19, .rw 9 true 20, .rw 9 true 21]⟩⟩] }
noncomputable def L_spec_l6Spoil : Option Nat → Lv → Option Lv := Lim Tryz.prog [d_spec_l1Width.sig (L_spec_l1Width none), d_spec_l1Rd_pick.sig (L_spec_l1Rd_pick none), d_spec_Sum.sig (L_spec_Sum none), d_spec_l6Round.sig (L_spec_l6Round none), d_spec_l8Dec.sig (L_spec_l8Dec none)] d_spec_l6Spoil Tryz.f198
theorem e_spec_l6Spoil_i (a0 : Int) (a1 : Int) (a2 : Int) (a3 : Int) (a4 : Rw) (a5 : Rw) (a6 : Rw) (a7 : Int) (a8 : Rw) (a9 : Rw) (a10 : Int) (a11 : Int) (a12 : Int) (a13 : Rw) (a14 : Int) : L_spec_l6Spoil none [.i a0, .i a1, .i a2, .i a3, .l a4, .l a5, .l a6, .i a7, .l a8, .l a9, .i a10, .i a11, .i a12, .l a13, .i a14] =
 (L_spec_l6Round none [.i a7, .l a8, .l a9, .i a10, .i a11, .i a12]).bind fun y1 =>
 cond (a7 == 2) (
 cond (decide (0 < (((g y1 5).list).length : Int))) (
 (L_spec_l1Rd_pick none [.i 2, .l a13, .i a14]).bind fun y2 =>
 cond ((g y2 0).int == 0) (
 (L_spec_l1Rd_pick none [.i (((g y1 5).list).length : Int), .l ((g y2 1).list), .i ((g y2 2).int)]).bind fun y3 =>
 cond (decide (0 ≤ (g y3 0).int)) (
 cond (decide ((g y3 0).int ≤ (((g y1 5).list).length : Int))) (
 cond (decide (([] : Rw).length + (Eng.sub ((g y1 5).list) 0 ((g y3 0).int).toNat).length ≤ most)) (
 cond (decide (0 ≤ (IntKind.i64.wrap ((g y3 0).int + 1)))) (
 cond (decide ((IntKind.i64.wrap ((g y3 0).int + 1)) ≤ (((g y1 5).list).length : Int))) (
 cond (decide ((([] : Rw) ++ (Eng.sub ((g y1 5).list) 0 ((g y3 0).int).toNat)).length + (Eng.sub ((g y1 5).list) (IntKind.i64.wrap ((g y3 0).int + 1)).toNat ((g y1 5).list).length).length ≤ most)) (
 some [.i ((g y1 0).int), .i ((g y1 1).int), .i ((g y1 2).int), .i ((g y1 3).int), .l ((g y3 1).list), .i ((g y3 2).int), .l ((g y1 4).list), .l ((([] : Rw) ++ (Eng.sub ((g y1 5).list) 0 ((g y3 0).int).toNat)) ++ (Eng.sub ((g y1 5).list) (IntKind.i64.wrap ((g y3 0).int + 1)).toNat ((g y1 5).list).length))]) (
 none)) (
 none)) (
 none)) (
 none)) (
 none)) (
 none)) (
 L_spec_l6Spoil (some 6) [.l ((g y2 1).list), .i ((g y2 2).int), .i a0, .i a1, .i a2, .i a3, .l a4, .l a5, .l a6, .i 0, .i 0, .i 0, .i 0, .i ((g y1 0).int), .i ((g y1 1).int), .i ((g y1 2).int), .i ((g y1 3).int), .l ((g y1 4).list), .l ((g y1 5).list), .l [], .l []])) (
 L_spec_l6Spoil (some 6) [.l a13, .i a14, .i a0, .i a1, .i a2, .i a3, .l a4, .l a5, .l a6, .i 0, .i 0, .i 0, .i 0, .i ((g y1 0).int), .i ((g y1 1).int), .i ((g y1 2).int), .i ((g y1 3).int), .l ((g y1 4).list), .l ((g y1 5).list), .l [], .l []])) (
 L_spec_l6Spoil (some 6) [.l a13, .i a14, .i a0, .i a1, .i a2, .i a3, .l a4, .l a5, .l a6, .i 0, .i 0, .i 0, .i 0, .i ((g y1 0).int), .i ((g y1 1).int), .i ((g y1 2).int), .i ((g y1 3).int), .l ((g y1 4).list), .l ((g y1 5).list), .l [], .l []]) := (Lim_eq _ _).trans (by kernel_rfl)
theorem e_spec_l6Spoil_6 (a0 : Rw) (a1 : Int) (a2 : Int) (a3 : Int) (a4 : Int) (a5 : Int) (a6 : Rw) (a7 : Rw) (a8 : Rw) (a9 : Int) (a10 : Int) (a11 : Int) (a12 : Int) (a13 : Int) (a14 : Int) (a15 : Int) (a16 : Int) (a17 : Rw) (a18 : Rw) (a19 : Rw) (a20 : Rw) : L_spec_l6Spoil (some 6) [.l a0, .i a1, .i a2, .i a3, .i a4, .i a5, .l a6, .l a7, .l a8, .i a9, .i a10, .i a11, .i a12, .i a13, .i a14, .i a15, .i a16, .l a17, .l a18, .l a19, .l a20] =
 (L_spec_l1Rd_pick none [.i 9, .l a0, .i a1]).bind fun y1 =>
 cond ((g y1 0).int == 7) (
 L_spec_l6Spoil (some 10) [.i 0, .l ((g y1 1).list), .i ((g y1 2).int), .i a2, .i a3, .i a4, .i a5, .l a6, .l a7, .l a8, .i a9, .i a10, .i a11, .i a12, .i a13, .i a14, .i a15, .i a16, .l a19, .l a20, .l a17, .l a18]) (
 cond ((g y1 0).int == 0) (
 (L_spec_l1Rd_pick none [.i 5, .l ((g y1 1).list), .i ((g y1 2).int)]).bind fun y2 =>
 some [.i (IntKind.i64.wrap ((g y2 0).int - 1)), .i a14, .i a15, .i a16, .l ((g y2 1).list), .i ((g y2 2).int), .l a17, .l a18]) (
 cond ((g y1 0).int == 1) (
 (L_spec_l1Rd_pick none [.i 5, .l ((g y1 1).list), .i ((g y1 2).int)]).bind fun y3 =>
 cond (inb ((g y3 0).int) (([[.i 0], [.i 1], [.i a14], [.i (IntKind.i64.wrap (a14 + 1))], [.i (IntKind.i64.wrap (a14 + 2))]] : Rw).length)) (
 some [.i a13, .i a14, .i ((rd ([[.i 0], [.i 1], [.i a14], [.i (IntKind.i64.wrap (a14 + 1))], [.i (IntKind.i64.wrap (a14 + 2))]] : Rw) (((g y3 0).int).toNat) 0).int), .i a16, .l ((g y3 1).list), .i ((g y3 2).int), .l a17, .l a18]) (
 none)) (
 cond ((g y1 0).int == 2) (
 (L_spec_l1Rd_pick none [.i 4, .l ((g y1 1).list), .i ((g y1 2).int)]).bind fun y4 =>
 cond (inb ((g y4 0).int) (([[.i (-1)], [.i 0], [.i a5], [.i (IntKind.i64.wrap (a5 + 1))]] : Rw).length)) (
 some [.i a13, .i ((rd ([[.i (-1)], [.i 0], [.i a5], [.i (IntKind.i64.wrap (a5 + 1))]] : Rw) (((g y4 0).int).toNat) 0).int), .i a15, .i a16, .l ((g y4 1).list), .i ((g y4 2).int), .l a17, .l a18]) (
 none)) (
 cond ((g y1 0).int == 3) (
 (L_spec_Sum none [.s (⟨#[113]⟩ : ByteArray), .i a2]).bind fun y5 =>
 cond (decide (a17.length + ([[.s ((g y5 0).str)]] : Rw).length ≤ most)) (
 some [.i a13, .i a14, .i a15, .i a16, .l ((g y1 1).list), .i ((g y1 2).int), .l (a17 ++ ([[.s ((g y5 0).str)]] : Rw)), .l a18]) (
 none)) (
 cond ((g y1 0).int == 4) (
 (L_spec_Sum none [.s (⟨#[109]⟩ : ByteArray), .i a2]).bind fun y6 =>
 cond (decide (a18.length + ([[.s ((g y6 0).str)]] : Rw).length ≤ most)) (
 some [.i a13, .i a14, .i a15, .i a16, .l ((g y1 1).list), .i ((g y1 2).int), .l a17, .l (a18 ++ ([[.s ((g y6 0).str)]] : Rw))]) (
 none)) (
 cond ((g y1 0).int == 5) (
 cond (decide (a17.length + ([[.s (⟨#[116, 111, 111, 108, 111, 110, 103, 102, 111, 114, 97, 110, 121]⟩ : ByteArray)]] : Rw).length ≤ most)) (
 some [.i a13, .i a14, .i a15, .i a16, .l ((g y1 1).list), .i ((g y1 2).int), .l (a17 ++ ([[.s (⟨#[116, 111, 111, 108, 111, 110, 103, 102, 111, 114, 97, 110, 121]⟩ : ByteArray)]] : Rw)), .l a18]) (
 none)) (
 cond ((g y1 0).int == 6) (
 cond (decide (0 < (a6.length : Int))) (
 (L_spec_l1Width none [.i a2]).bind fun y7 =>
 cond ((g y7 0).bool) (
 (L_spec_l1Rd_pick none [.i 2, .l ((g y1 1).list), .i ((g y1 2).int)]).bind fun y8 =>
 L_spec_l6Spoil (some 28) [.i (IntKind.i64.wrap (23200 + (g y8 0).int)), .l ((g y8 1).list), .i ((g y8 2).int), .i a2, .i a3, .i a4, .i a5, .l a6, .l a7, .l a8, .i a9, .i a10, .i a11, .i a12, .i a13, .i a14, .i a15, .i a16, .l a19, .l a20, .l a17, .l a18]) (
 some [.i a13, .i a14, .i a15, .i a16, .l ((g y1 1).list), .i ((g y1 2).int), .l a17, .l a18])) (
 some [.i a13, .i a14, .i a15, .i a16, .l ((g y1 1).list), .i ((g y1 2).int), .l a17, .l a18])) (
 (L_spec_l1Rd_pick none [.i 4, .l ((g y1 1).list), .i ((g y1 2).int)]).bind fun y9 =>
 cond (inb ((g y9 0).int) (([[.i (-1)], [.i 1000000000], [.i 999999999], [.i 1000000001]] : Rw).length)) (
 some [.i a13, .i a14, .i a15, .i ((rd ([[.i (-1)], [.i 1000000000], [.i 999999999], [.i 1000000001]] : Rw) (((g y9 0).int).toNat) 0).int), .l ((g y9 1).list), .i ((g y9 2).int), .l a17, .l a18]) (
 none))))))))) := (Lim_eq _ _).trans (by kernel_rfl)
theorem e_spec_l6Spoil_10 (a0 : Int) (a1 : Rw) (a2 : Int) (a3 : Int) (a4 : Int) (a5 : Int) (a6 : Int) (a7 : Rw) (a8 : Rw) (a9 : Rw) (a10 : Int) (a11 : Int) (a12 : Int) (a13 : Int) (a14 : Int) (a15 : Int) (a16 : Int) (a17 : Int) (a18 : Rw) (a19 : Rw) (a20 : Rw) (a21 : Rw) : L_spec_l6Spoil (some 10) [.i a0, .l a1, .i a2, .i a3, .i a4, .i a5, .i a6, .l a7, .l a8, .l a9, .i a10, .i a11, .i a12, .i a13, .i a14, .i a15, .i a16, .i a17, .l a18, .l a19, .l a20, .l a21] =
 cond (decide ((a21.length : Int) < 600)) (
 (L_spec_l1Width none [.i a3]).bind fun y1 =>
 cond ((g y1 0).bool) (
 (L_spec_l8Dec none [.i a0]).bind fun y2 =>
 cond (decide ((⟨#[102, 117, 108, 108, 32]⟩ : ByteArray).size + ((g y2 0).str).size ≤ most)) (
 (L_spec_Sum none [.s ((⟨#[102, 117, 108, 108, 32]⟩ : ByteArray) ++ ((g y2 0).str)), .i a3]).bind fun y3 =>
 cond (decide (a21.length + ([[.s ((g y3 0).str)]] : Rw).length ≤ most)) (
 L_spec_l6Spoil (some 10) [.i (IntKind.i64.wrap (a0 + 1)), .l a1, .i a2, .i a3, .i a4, .i a5, .i a6, .l a7, .l a8, .l a9, .i a10, .i a11, .i a12, .i a13, .i a14, .i a15, .i a16, .i a17, .l a18, .l a19, .l a20, .l (a21 ++ ([[.s ((g y3 0).str)]] : Rw))]) (
 none)) (
 none)) (
 some [.i a14, .i a15, .i a16, .i a17, .l a1, .i a2, .l a20, .l a21])) (
 some [.i a14, .i a15, .i a16, .i a17, .l a1, .i a2, .l a20, .l a21]) := (Lim_eq _ _).trans (by kernel_rfl)
theorem e_spec_l6Spoil_28 (a0 : Int) (a1 : Rw) (a2 : Int) (a3 : Int) (a4 : Int) (a5 : Int) (a6 : Int) (a7 : Rw) (a8 : Rw) (a9 : Rw) (a10 : Int) (a11 : Int) (a12 : Int) (a13 : Int) (a14 : Int) (a15 : Int) (a16 : Int) (a17 : Int) (a18 : Rw) (a19 : Rw) (a20 : Rw) (a21 : Rw) : L_spec_l6Spoil (some 28) [.i a0, .l a1, .i a2, .i a3, .i a4, .i a5, .i a6, .l a7, .l a8, .l a9, .i a10, .i a11, .i a12, .i a13, .i a14, .i a15, .i a16, .i a17, .l a18, .l a19, .l a20, .l a21] =
 cond (decide ((a20.length : Int) < a0)) (
 cond (inb 0 a7.length) (
 cond (decide (a20.length + ([[.s ((rd a7 0 0).str)]] : Rw).length ≤ most)) (
 L_spec_l6Spoil (some 28) [.i a0, .l a1, .i a2, .i a3, .i a4, .i a5, .i a6, .l a7, .l a8, .l a9, .i a10, .i a11, .i a12, .i a13, .i a14, .i a15, .i a16, .i a17, .l a18, .l a19, .l (a20 ++ ([[.s ((rd a7 0 0).str)]] : Rw)), .l a21]) (
 none)) (
 none)) (
 some [.i a14, .i a15, .i a16, .i a17, .l a1, .i a2, .l a20, .l a21]) := (Lim_eq _ _).trans (by kernel_rfl)
theorem k_spec_l6Spoil : SigOk Tryz.prog (d_spec_l6Spoil.sig (L_spec_l6Spoil none)) ∧ (d_spec_l6Spoil.sig (L_spec_l6Spoil none)).ok = true := sound_lim (known_cons k_spec_l1Width (by kernel_rfl) (known_cons k_spec_l1Rd_pick (by kernel_rfl) (known_cons k_spec_Sum (by kernel_rfl) (known_cons k_spec_l6Round (by kernel_rfl) (known_cons k_spec_l8Dec (by kernel_rfl) known_nil))))) (by kernel_rfl) (by kernel_rfl) (by kernel_rfl)
def d_spec_l7Any : FD := { fn := 131, nb := 1, pre := ⟨[.sc (.pt 0 0)], [.bx [.fz 5 false 0, .i .i64 1]]⟩, post := ⟨[.ag [.i .i64 0, .i .i64 1, .fz 9 true 2, .fz 9 true 3, .i .i64 4, .i .i64 5, .i .i64 6, .i .i64 7, .fz 90 true 8, .fz 156 true 9, .fz 158 true 10, .i .i64 11, .fz 9 true 12, .fz 9 true 13, .i .i64 14, .i .i64 15, .i .i64 16]], [.bx [.fz 5 false 17, .i .i64 18]]⟩, sh := true, cuts := [] }
noncomputable def L_spec_l7Any : Option Nat → Lv → Option Lv := Lim Tryz.prog [d_spec_l1Rd_pick.sig (L_spec_l1Rd_pick none), d_spec_FormEntry.sig (L_spec_FormEntry none), d_spec_l7Reached.sig (L_spec_l7Reached none), d_spec_l4Spoil.sig (L_spec_l4Spoil none), d_spec_l7Full.sig (L_spec_l7Full none), d_spec_l6Spoil.sig (L_spec_l6Spoil none)] d_spec_l7Any Tryz.f131
theorem e_spec_l7Any_i (a0 : Rw) (a1 : Int) : L_spec_l7Any none [.l a0, .i a1] =
 (L_spec_l1Rd_pick none [.i 24, .l a0, .i a1]).bind fun y1 =>
 cond ((g y1 0).int == 0) (
 (L_spec_l7Full none [.l ((g y1 1).list), .i ((g y1 2).int)]).bind fun y2 =>
 some [.i ((g y2 0).int), .i ((g y2 1).int), .l ((g y2 14).list), .l ((g y2 15).list), .i ((g y2 2).int), .i ((g y2 3).int), .i ((g y2 4).int), .i ((g y2 5).int), .l ((g y2 16).list), .l ((g y2 17).list), .l ((g y2 18).list), .i ((g y2 6).int), .l ((g y2 7).list), .l ((g y2 8).list), .i ((g y2 9).int), .i ((g y2 10).int), .i ((g y2 11).int), .l ((g y2 12).list), .i ((g y2 13).int)]) (
 (L_spec_l7Reached none [.l ((g y1 1).list), .i ((g y1 2).int)]).bind fun y3 =>
 (L_spec_l1Rd_pick none [.i 8, .l ((g y3 14).list), .i ((g y3 15).int)]).bind fun y4 =>
 cond (decide (0 < (g y4 0).int)) (
 some [.i ((g y3 0).int), .i ((g y3 1).int), .l ((g y3 2).list), .l ((g y3 16).list), .i ((g y3 3).int), .i ((g y3 4).int), .i ((g y3 5).int), .i ((g y3 6).int), .l ((g y3 7).list), .l ((g y3 17).list), .l ((g y3 18).list), .i ((g y3 8).int), .l ((g y3 9).list), .l ((g y3 10).list), .i ((g y3 11).int), .i ((g y3 12).int), .i ((g y3 13).int), .l ((g y4 1).list), .i ((g y4 2).int)]) (
 (L_spec_l1Rd_pick none [.i 6, .l ((g y4 1).list), .i ((g y4 2).int)]).bind fun y5 =>
 cond ((g y5 0).int == 0) (
 (L_spec_l4Spoil none [.i ((g y3 3).int), .i ((g y3 4).int), .i ((g y3 5).int), .i ((g y3 6).int), .l ((g y3 7).list), .l ((g y3 17).list), .l ((g y3 18).list), .l ((g y5 1).list), .i ((g y5 2).int)]).bind fun y6 =>
 some [.i ((g y3 0).int), .i ((g y3 1).int), .l ((g y3 2).list), .l ((g y3 16).list), .i ((g y6 0).int), .i ((g y6 1).int), .i ((g y6 2).int), .i ((g y6 3).int), .l ((g y6 6).list), .l ((g y6 7).list), .l ((g y6 8).list), .i ((g y3 8).int), .l ((g y3 9).list), .l ((g y3 10).list), .i ((g y3 11).int), .i ((g y3 12).int), .i ((g y3 13).int), .l ((g y6 4).list), .i ((g y6 5).int)]) (
 cond ((g y5 0).int == 5) (
 (L_spec_l1Rd_pick none [.i 3, .l ((g y5 1).list), .i ((g y5 2).int)]).bind fun y7 =>
 some [.i ((g y3 0).int), .i ((g y3 1).int), .l ((g y3 2).list), .l ((g y3 16).list), .i ((g y3 3).int), .i ((g y3 4).int), .i ((g y3 5).int), .i ((g y3 6).int), .l ((g y3 7).list), .l ((g y3 17).list), .l ((g y3 18).list), .i ((g y3 8).int), .l ((g y3 9).list), .l ((g y3 10).list), .i ((g y3 11).int), .i ((g y3 12).int), .i (IntKind.i64.wrap (1000000000 - (g y7 0).int)), .l ((g y7 1).list), .i ((g y7 2).int)]) (
 cond ((g y5 0).int == 1) (
 (L_spec_l6Spoil none [.i ((g y3 3).int), .i ((g y3 4).int), .i ((g y3 5).int), .i ((g y3 6).int), .l ((g y3 7).list), .l ((g y3 17).list), .l ((g y3 18).list), .i ((g y3 8).int), .l ((g y3 9).list), .l ((g y3 10).list), .i ((g y3 11).int), .i ((g y3 12).int), .i ((g y3 13).int), .l ((g y5 1).list), .i ((g y5 2).int)]).bind fun y8 =>
 some [.i ((g y3 0).int), .i ((g y3 1).int), .l ((g y3 2).list), .l ((g y3 16).list), .i ((g y3 3).int), .i ((g y3 4).int), .i ((g y3 5).int), .i ((g y3 6).int), .l ((g y3 7).list), .l ((g y3 17).list), .l ((g y3 18).list), .i ((g y8 0).int), .l ((g y8 6).list), .l ((g y8 7).list), .i ((g y8 1).int), .i ((g y8 2).int), .i ((g y8 3).int), .l ((g y8 4).list), .i ((g y8 5).int)]) (
 cond ((g y5 0).int == 2) (
 (L_spec_l1Rd_pick none [.i 2, .l ((g y5 1).list), .i ((g y5 2).int)]).bind fun y9 =>
 cond (inb ((g y9 0).int) (([[.i (-1)], [.i 1000001]] : Rw).length)) (
 some [.i ((g y3 0).int), .i ((rd ([[.i (-1)], [.i 1000001]] : Rw) (((g y9 0).int).toNat) 0).int), .l ((g y3 2).list), .l ((g y3 16).list), .i ((g y3 3).int), .i ((g y3 4).int), .i ((g y3 5).int), .i ((g y3 6).int), .l ((g y3 7).list), .l ((g y3 17).list), .l ((g y3 18).list), .i ((g y3 8).int), .l ((g y3 9).list), .l ((g y3 10).list), .i ((g y3 11).int), .i ((g y3 12).int), .i ((g y3 13).int), .l ((g y9 1).list), .i ((g y9 2).int)]) (
 none)) (
 cond ((g y5 0).int == 3) (
 (L_spec_l1Rd_pick none [.i 10, .l ((g y5 1).list), .i ((g y5 2).int)]).bind fun y10 =>
 some [.i ((g y10 0).int), .i ((g y3 1).int), .l ((g y3 2).list), .l ((g y3 16).list), .i ((g y3 3).int), .i ((g y3 4).int), .i ((g y3 5).int), .i ((g y3 6).int), .l ((g y3 7).list), .l ((g y3 17).list), .l ((g y3 18).list), .i ((g y3 8).int), .l ((g y3 9).list), .l ((g y3 10).list), .i ((g y3 11).int), .i ((g y3 12).int), .i ((g y3 13).int), .l ((g y10 1).list), .i ((g y10 2).int)]) (
 (L_spec_FormEntry none [.i 6, .s (⟨#[]⟩ : ByteArray), .s (⟨#[]⟩ : ByteArray), .i 1, .s (⟨#[]⟩ : ByteArray), .l ([]), .i 8]).bind fun y11 =>
 cond (decide (((g y3 16).list).length + ([[.s ((g y11 0).str)]] : Rw).length ≤ most)) (
 some [.i ((g y3 0).int), .i ((g y3 1).int), .l ((g y3 2).list), .l ((g y3 16).list ++ ([[.s ((g y11 0).str)]] : Rw)), .i ((g y3 3).int), .i ((g y3 4).int), .i ((g y3 5).int), .i ((g y3 6).int), .l ((g y3 7).list), .l ((g y3 17).list), .l ((g y3 18).list), .i ((g y3 8).int), .l ((g y3 9).list), .l ((g y3 10).list), .i ((g y3 11).int), .i ((g y3 12).int), .i ((g y3 13).int), .l ((g y5 1).list), .i ((g y5 2).int)]) (
 none)))))))) := (Lim_eq _ _).trans (by kernel_rfl)
theorem k_spec_l7Any : SigOk Tryz.prog (d_spec_l7Any.sig (L_spec_l7Any none)) ∧ (d_spec_l7Any.sig (L_spec_l7Any none)).ok = true := sound_lim (known_cons k_spec_l1Rd_pick (by kernel_rfl) (known_cons k_spec_FormEntry (by kernel_rfl) (known_cons k_spec_l7Reached (by kernel_rfl) (known_cons k_spec_l4Spoil (by kernel_rfl) (known_cons k_spec_l7Full (by kernel_rfl) (known_cons k_spec_l6Spoil (by kernel_rfl) known_nil)))))) (by kernel_rfl) (by kernel_rfl) (by kernel_rfl)
def d_spec_DrawLose : FD := { fn := 47, nb := 0, pre := ⟨[.sc (.fz 5 false 0)], []⟩, post := ⟨[.tu [(true, [.i .i64 0, .i .i64 1, .fz 9 true 2, .fz 9 true 3, .i .i64 4, .i .i64 5, .i .i64 6, .i .i64 7, .fz 90 true 8, .fz 156 true 9, .fz 158 true 10, .i .i64 11, .fz 9 true 12, .fz 9 true 13, .i .i64 14, .i .i64 15, .i .i64 16]), (false, [.i .i64 17])]], []⟩, sh := false, cuts := [] }
noncomputable def L_spec_DrawLose : Option Nat → Lv → Option Lv := Lim Tryz.prog [d_spec_l1Open.sig (L_spec_l1Open none), d_spec_l1Rd_pick.sig (L_spec_l1Rd_pick none), d_spec_l7Any.sig (L_spec_l7Any none)] d_spec_DrawLose Tryz.f47
theorem e_spec_DrawLose_i (a0 : Rw) : L_spec_DrawLose none [.l a0] =
 (L_spec_l1Open none [.l a0]).bind fun y1 =>
 (L_spec_l7Any none [.l ((g y1 0).list), .i ((g y1 1).int)]).bind fun y2 =>
 (L_spec_l1Rd_pick none [.i 12, .l ((g y2 17).list), .i ((g y2 18).int)]).bind fun y3 =>
 some [.i ((g y2 0).int), .i ((g y2 1).int), .l ((g y2 2).list), .l ((g y2 3).list), .i ((g y2 4).int), .i ((g y2 5).int), .i ((g y2 6).int), .i ((g y2 7).int), .l ((g y2 8).list), .l ((g y2 9).list), .l ((g y2 10).list), .i ((g y2 11).int), .l ((g y2 12).list), .l ((g y2 13).list), .i ((g y2 14).int), .i ((g y2 15).int), .i ((g y2 16).int), .i (IntKind.i64.wrap ((g y3 0).int - 1))] := (Lim_eq _ _).trans (by kernel_rfl)
theorem k_spec_DrawLose : SigOk Tryz.prog (d_spec_DrawLose.sig (L_spec_DrawLose none)) ∧ (d_spec_DrawLose.sig (L_spec_DrawLose none)).ok = true := sound_lim (known_cons k_spec_l1Open (by kernel_rfl) (known_cons k_spec_l1Rd_pick (by kernel_rfl) (known_cons k_spec_l7Any (by kernel_rfl) known_nil))) (by kernel_rfl) (by kernel_rfl) (by kernel_rfl)
def d_laws_FnCrash : FD := { fn := 8, nb := 0, pre := ⟨[.sc (.fz 5 false 0)], []⟩, post := ⟨[.sc (.b 0)], []⟩, sh := false, cuts := [⟨11, [3, 4, 5], ⟨[.sc (.pt 0 0), .sc (.i .i64 0), .sc (.i .i64 1)], [.bx [.i .i64 2, .i .i64 3, .fz 9 true 4, .fz 9 true 5, .i .i64 6, .i .i64 7, .i .i64 8, .i .i64 9, .fz 90 true 10, .fz 156 true 11, .fz 158 true 12, .i .i64 13, .fz 9 true 14, .fz 9 true 15, .i .i64 16, .i .i64 17, .i .i64 18]]⟩⟩] }
noncomputable def L_laws_FnCrash : Option Nat → Lv → Option Lv := Lim Tryz.prog [d_impl_Open.sig (L_impl_Open none), d_impl_ValidVault.sig (L_impl_ValidVault none), d_impl_Lose.sig (L_impl_Lose none), d_impl_Flush.sig (L_impl_Flush none), d_spec_ValidVault.sig (L_spec_ValidVault none), d_laws_wState.sig (L_laws_wState none), d_laws_wRound.sig (L_laws_wRound none), d_laws_wVault.sig (L_laws_wVault none), d_impl_Replay.sig (L_impl_Replay none), d_spec_DrawLose.sig (L_spec_DrawLose none)] d_laws_FnCrash Tryz.f8
theorem e_laws_FnCrash_i (a0 : Rw) : L_laws_FnCrash none [.l a0] =
 cond (decide (1048576 < (a0.length : Int))) (
 some [.b true]) (
 (L_spec_DrawLose none [.l a0]).bind fun y1 =>
 (L_spec_ValidVault none [.i ((g y1 0).int), .i ((g y1 1).int), .l ((g y1 2).list), .l ((g y1 3).list), .i ((g y1 4).int), .i ((g y1 5).int), .i ((g y1 6).int), .i ((g y1 7).int), .l ((g y1 8).list), .l ((g y1 9).list), .l ((g y1 10).list), .i ((g y1 11).int), .l ((g y1 12).list), .l ((g y1 13).list), .i ((g y1 14).int), .i ((g y1 15).int), .i ((g y1 16).int)]).bind fun y2 =>
 cond (!(g y2 0).bool) (
 (L_impl_ValidVault none [.i ((g y1 0).int), .i ((g y1 1).int), .l ((g y1 2).list), .l ((g y1 3).list), .i ((g y1 4).int), .i ((g y1 5).int), .i ((g y1 6).int), .i ((g y1 7).int), .l ((g y1 8).list), .l ((g y1 9).list), .l ((g y1 10).list), .i ((g y1 11).int), .l ((g y1 12).list), .l ((g y1 13).list), .i ((g y1 14).int), .i ((g y1 15).int), .i ((g y1 16).int)]).bind fun y3 =>
 cond (!(g y3 0).bool) (
 (L_impl_Lose none [.i ((g y1 0).int), .i ((g y1 1).int), .l ((g y1 2).list), .l ((g y1 3).list), .i ((g y1 4).int), .i ((g y1 5).int), .i ((g y1 6).int), .i ((g y1 7).int), .l ((g y1 8).list), .l ((g y1 9).list), .l ((g y1 10).list), .i ((g y1 11).int), .l ((g y1 12).list), .l ((g y1 13).list), .i ((g y1 14).int), .i ((g y1 15).int), .i ((g y1 16).int), .i ((g y1 17).int)]).bind fun y4 =>
 (L_laws_wVault none [.i ((g y4 0).int), .i ((g y4 1).int), .l ((g y4 12).list), .l ((g y4 13).list), .i ((g y4 2).int), .i ((g y4 3).int), .i ((g y4 4).int), .i ((g y4 5).int), .l ((g y4 14).list), .l ((g y4 15).list), .l ((g y4 16).list), .i ((g y4 6).int), .l ((g y4 7).list), .l ((g y4 8).list), .i ((g y4 9).int), .i ((g y4 10).int), .i ((g y4 11).int), .i 0, .i 0, .l ([]), .l ([]), .i 0, .i 0, .i 0, .i 0, .l ([]), .l ([]), .l ([]), .i 0, .l ([]), .l ([]), .i 0, .i 0, .i 0]).bind fun y5 =>
 some [.b ((g y5 0).bool)]) (
 some [.b false])) (
 cond (decide ((g y1 17).int < 0)) (
 cond (decide ((((g y1 3).list).length : Int) < 0)) (
 L_laws_FnCrash (some 11) [.i ((g y1 17).int), .i (((g y1 3).list).length : Int), .i ((g y1 0).int), .i ((g y1 1).int), .l ((g y1 2).list), .l ((g y1 3).list), .i ((g y1 4).int), .i ((g y1 5).int), .i ((g y1 6).int), .i ((g y1 7).int), .l ((g y1 8).list), .l ((g y1 9).list), .l ((g y1 10).list), .i ((g y1 11).int), .l ((g y1 12).list), .l ((g y1 13).list), .i ((g y1 14).int), .i ((g y1 15).int), .i ((g y1 16).int)]) (
 L_laws_FnCrash (some 11) [.i ((g y1 17).int), .i 0, .i ((g y1 0).int), .i ((g y1 1).int), .l ((g y1 2).list), .l ((g y1 3).list), .i ((g y1 4).int), .i ((g y1 5).int), .i ((g y1 6).int), .i ((g y1 7).int), .l ((g y1 8).list), .l ((g y1 9).list), .l ((g y1 10).list), .i ((g y1 11).int), .l ((g y1 12).list), .l ((g y1 13).list), .i ((g y1 14).int), .i ((g y1 15).int), .i ((g y1 16).int)])) (
 cond (decide ((((g y1 3).list).length : Int) < (g y1 17).int)) (
 L_laws_FnCrash (some 11) [.i ((g y1 17).int), .i (((g y1 3).list).length : Int), .i ((g y1 0).int), .i ((g y1 1).int), .l ((g y1 2).list), .l ((g y1 3).list), .i ((g y1 4).int), .i ((g y1 5).int), .i ((g y1 6).int), .i ((g y1 7).int), .l ((g y1 8).list), .l ((g y1 9).list), .l ((g y1 10).list), .i ((g y1 11).int), .l ((g y1 12).list), .l ((g y1 13).list), .i ((g y1 14).int), .i ((g y1 15).int), .i ((g y1 16).int)]) (
 L_laws_FnCrash (some 11) [.i ((g y1 17).int), .i ((g y1 17).int), .i ((g y1 0).int), .i ((g y1 1).int), .l ((g y1 2).list), .l ((g y1 3).list), .i ((g y1 4).int), .i ((g y1 5).int), .i ((g y1 6).int), .i ((g y1 7).int), .l ((g y1 8).list), .l ((g y1 9).list), .l ((g y1 10).list), .i ((g y1 11).int), .l ((g y1 12).list), .l ((g y1 13).list), .i ((g y1 14).int), .i ((g y1 15).int), .i ((g y1 16).int)])))) := (Lim_eq _ _).trans (by kernel_rfl)
theorem e_laws_FnCrash_11 (a0 : Int) (a1 : Int) (a2 : Int) (a3 : Int) (a4 : Rw) (a5 : Rw) (a6 : Int) (a7 : Int) (a8 : Int) (a9 : Int) (a10 : Rw) (a11 : Rw) (a12 : Rw) (a13 : Int) (a14 : Rw) (a15 : Rw) (a16 : Int) (a17 : Int) (a18 : Int) : L_laws_FnCrash (some 11) [.i a0, .i a1, .i a2, .i a3, .l a4, .l a5, .i a6, .i a7, .i a8, .i a9, .l a10, .l a11, .l a12, .i a13, .l a14, .l a15, .i a16, .i a17, .i a18] =
 cond (decide (([] : Rw).length + a4.length ≤ most)) (
 cond (decide (0 ≤ a1)) (
 cond (decide (a1 ≤ (a5.length : Int))) (
 cond (decide ((([] : Rw) ++ a4).length + (Eng.sub a5 0 a1.toNat).length ≤ most)) (
 (L_impl_Lose none [.i a2, .i a3, .l a4, .l a5, .i a6, .i a7, .i a8, .i a9, .l a10, .l a11, .l a12, .i a13, .l a14, .l a15, .i a16, .i a17, .i a18, .i a0]).bind fun y1 =>
 (L_impl_Open none [.i a2, .i a3, .l ((([] : Rw) ++ a4) ++ (Eng.sub a5 0 a1.toNat)), .l ([])]).bind fun y2 =>
 (L_impl_Replay none [.i a2, .l ((([] : Rw) ++ a4) ++ (Eng.sub a5 0 a1.toNat))]).bind fun y3 =>
 cond ((g y2 12).int != 0) (
 some [.b false]) (
 cond ((g y3 0).int != 0) (
 some [.b false]) (
 (L_laws_wVault none [.i ((g y1 0).int), .i ((g y1 1).int), .l ((g y1 12).list), .l ((g y1 13).list), .i ((g y1 2).int), .i ((g y1 3).int), .i ((g y1 4).int), .i ((g y1 5).int), .l ((g y1 14).list), .l ((g y1 15).list), .l ((g y1 16).list), .i ((g y1 6).int), .l ((g y1 7).list), .l ((g y1 8).list), .i ((g y1 9).int), .i ((g y1 10).int), .i ((g y1 11).int), .i ((g y2 0).int), .i ((g y2 1).int), .l ((g y2 13).list), .l ((g y2 14).list), .i ((g y2 2).int), .i ((g y2 3).int), .i ((g y2 4).int), .i ((g y2 5).int), .l ((g y2 15).list), .l ((g y2 16).list), .l ((g y2 17).list), .i ((g y2 6).int), .l ((g y2 7).list), .l ((g y2 8).list), .i ((g y2 9).int), .i ((g y2 10).int), .i ((g y2 11).int)]).bind fun y4 =>
 cond (!(g y4 0).bool) (
 some [.b false]) (
 (L_laws_wState none [.i ((g y1 2).int), .i ((g y1 3).int), .i ((g y1 4).int), .i ((g y1 5).int), .l ((g y1 14).list), .l ((g y1 15).list), .l ((g y1 16).list), .i ((g y3 1).int), .i ((g y3 2).int), .i ((g y3 3).int), .i ((g y3 4).int), .l ((g y3 9).list), .l ((g y3 10).list), .l ((g y3 11).list)]).bind fun y5 =>
 cond (!(g y5 0).bool) (
 some [.b false]) (
 (L_laws_wRound none [.i ((g y1 6).int), .l ((g y1 7).list), .l ((g y1 8).list), .i ((g y1 9).int), .i ((g y1 10).int), .i ((g y1 11).int), .i 0, .l ([]), .l ([]), .i 0, .i 0, .i 0]).bind fun y6 =>
 cond (!(g y6 0).bool) (
 some [.b false]) (
 (L_impl_Lose none [.i a2, .i a3, .l a4, .l a5, .i a6, .i a7, .i a8, .i a9, .l a10, .l a11, .l a12, .i a13, .l a14, .l a15, .i a16, .i a17, .i a18, .i (a5.length : Int)]).bind fun y7 =>
 (L_impl_Flush none [.i a2, .i a3, .l a4, .l a5, .i a6, .i a7, .i a8, .i a9, .l a10, .l a11, .l a12, .i a13, .l a14, .l a15, .i a16, .i a17, .i a18]).bind fun y8 =>
 (L_impl_Lose none [.i ((g y8 0).int), .i ((g y8 1).int), .l ((g y8 11).list), .l ((g y8 2).list), .i ((g y8 3).int), .i ((g y8 4).int), .i ((g y8 5).int), .i ((g y8 6).int), .l ((g y8 12).list), .l ((g y8 13).list), .l ((g y8 14).list), .i ((g y8 7).int), .l ((g y8 15).list), .l ((g y8 16).list), .i ((g y8 8).int), .i ((g y8 9).int), .i ((g y8 10).int), .i a0]).bind fun y9 =>
 (L_laws_wState none [.i ((g y7 2).int), .i ((g y7 3).int), .i ((g y7 4).int), .i ((g y7 5).int), .l ((g y7 14).list), .l ((g y7 15).list), .l ((g y7 16).list), .i a6, .i a7, .i a8, .i a9, .l a10, .l a11, .l a12]).bind fun y10 =>
 cond ((g y10 0).bool) (
 (L_laws_wState none [.i ((g y9 2).int), .i ((g y9 3).int), .i ((g y9 4).int), .i ((g y9 5).int), .l ((g y9 14).list), .l ((g y9 15).list), .l ((g y9 16).list), .i a6, .i a7, .i a8, .i a9, .l a10, .l a11, .l a12]).bind fun y11 =>
 cond ((g y11 0).bool) (
 cond ((((g y8 2).list).length : Int) == 0) (
 (L_laws_wRound none [.i ((g y8 7).int), .l ((g y8 15).list), .l ((g y8 16).list), .i ((g y8 8).int), .i ((g y8 9).int), .i ((g y8 10).int), .i a13, .l a14, .l a15, .i a16, .i a17, .i a18]).bind fun y12 =>
 some [.b ((g y12 0).bool)]) (
 some [.b false])) (
 some [.b false])) (
 some [.b false]))))))) (
 none)) (
 none)) (
 none)) (
 none) := (Lim_eq _ _).trans (by kernel_rfl)
theorem k_laws_FnCrash : SigOk Tryz.prog (d_laws_FnCrash.sig (L_laws_FnCrash none)) ∧ (d_laws_FnCrash.sig (L_laws_FnCrash none)).ok = true := sound_lim (known_cons k_impl_Open (by kernel_rfl) (known_cons k_impl_ValidVault (by kernel_rfl) (known_cons k_impl_Lose (by kernel_rfl) (known_cons k_impl_Flush (by kernel_rfl) (known_cons k_spec_ValidVault (by kernel_rfl) (known_cons k_laws_wState (by kernel_rfl) (known_cons k_laws_wRound (by kernel_rfl) (known_cons k_laws_wVault (by kernel_rfl) (known_cons k_impl_Replay (by kernel_rfl) (known_cons k_spec_DrawLose (by kernel_rfl) known_nil)))))))))) (by kernel_rfl) (by kernel_rfl) (by kernel_rfl)
end KV
end
