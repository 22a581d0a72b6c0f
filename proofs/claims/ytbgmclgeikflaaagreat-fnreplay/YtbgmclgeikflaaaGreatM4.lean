/- Walks of Go functions, printed by a program of ours. -/
import Derived.Test.YtbgmclgeikflaaaGreatProg
import Derived.Test.YtbgmclgeikflaaaGreatM1
import Derived.Test.YtbgmclgeikflaaaGreatM2
import Derived.Test.YtbgmclgeikflaaaGreatM3
set_option linter.unusedSimpArgs false
set_option linter.unusedVariables false
set_option linter.unusedSectionVars false
section
set_option maxRecDepth 100000
set_option linter.unusedVariables false
namespace KV
open Go Go.Eng Go.Proofs
def d_impl_State_held : FD := { fn := 190, nb := 0, pre := ⟨[.sc (.pt 0 0), .sc (.s 0)], [.rb [.i .i64 1, .i .i64 2, .i .i64 3, .i .i64 4, .fz 90 false 5, .fz 156 false 6, .fz 158 false 7]]⟩, post := ⟨[.sc (.b 0)], []⟩, sh := false, cuts := [⟨2, [0, 1, 12, 13, 14], ⟨[.sc (.pt 0 0), .sc (.s 0), .sc (.fz 156 false 1), .sc (.i .i64 2), .sc (.i .i64 3)], [.rb [.i .i64 4, .i .i64 5, .i .i64 6, .i .i64 7, .fz 90 false 8, .fz 156 false 9, .fz 158 false 10]]⟩⟩, ⟨8, [1, 26, 27, 28], ⟨[.sc (.s 0), .sc (.fz 158 false 1), .sc (.i .i64 2), .sc (.i .i64 3)], []⟩⟩] }
noncomputable def L_impl_State_held : Option Nat → Lv → Option Lv := Lim Tryz.prog [] d_impl_State_held Tryz.f190
theorem e_impl_State_held_i (a0 : ByteArray) (a1 : Int) (a2 : Int) (a3 : Int) (a4 : Int) (a5 : Rw) (a6 : Rw) (a7 : Rw) : L_impl_State_held none [.s a0, .i a1, .i a2, .i a3, .i a4, .l a5, .l a6, .l a7] =
 L_impl_State_held (some 2) [.s a0, .l a6, .i (a6.length : Int), .i 0, .i a1, .i a2, .i a3, .i a4, .l a5, .l a6, .l a7] := (Lim_eq _ _).trans (by kernel_rfl)
theorem e_impl_State_held_2 (a0 : ByteArray) (a1 : Rw) (a2 : Int) (a3 : Int) (a4 : Int) (a5 : Int) (a6 : Int) (a7 : Int) (a8 : Rw) (a9 : Rw) (a10 : Rw) : L_impl_State_held (some 2) [.s a0, .l a1, .i a2, .i a3, .i a4, .i a5, .i a6, .i a7, .l a8, .l a9, .l a10] =
 cond (decide (a3 < a2)) (
  cond (inb a3 a1.length) (
   cond (Eng.seq ((rd a1 a3.toNat 1).str) a0) (
    some [.b true]) (
    L_impl_State_held (some 2) [.s a0, .l a1, .i a2, .i (IntKind.i64.wrap (a3 + 1)), .i a4, .i a5, .i a6, .i a7, .l a8, .l a9, .l a10])) (
   none)) (
  L_impl_State_held (some 8) [.s a0, .l a10, .i (a10.length : Int), .i 0]) := (Lim_eq _ _).trans (by kernel_rfl)
theorem e_impl_State_held_8 (a0 : ByteArray) (a1 : Rw) (a2 : Int) (a3 : Int) : L_impl_State_held (some 8) [.s a0, .l a1, .i a2, .i a3] =
 cond (decide (a3 < a2)) (
  cond (inb a3 a1.length) (
   cond (Eng.seq ((rd a1 a3.toNat 1).str) a0) (
    some [.b true]) (
    L_impl_State_held (some 8) [.s a0, .l a1, .i a2, .i (IntKind.i64.wrap (a3 + 1))])) (
   none)) (
  some [.b false]) := (Lim_eq _ _).trans (by kernel_rfl)
theorem k_impl_State_held : SigOk Tryz.prog (d_impl_State_held.sig (L_impl_State_held none)) ∧ (d_impl_State_held.sig (L_impl_State_held none)).ok = true := sound_lim known_nil (by kernel_rfl) (by kernel_rfl) (by kernel_rfl)
def d_impl_State_isRef : FD := { fn := 191, nb := 0, pre := ⟨[.sc (.pt 0 0), .sc (.s 0)], [.rb [.i .i64 1, .i .i64 2, .i .i64 3, .i .i64 4, .fz 90 false 5, .fz 156 false 6, .fz 158 false 7]]⟩, post := ⟨[.sc (.b 0)], []⟩, sh := false, cuts := [⟨2, [1, 12, 13, 14], ⟨[.sc (.s 0), .sc (.fz 90 false 1), .sc (.i .i64 2), .sc (.i .i64 3)], []⟩⟩, ⟨5, [1, 12, 13, 14, 20, 21, 22], ⟨[.sc (.s 0), .sc (.fz 90 false 1), .sc (.i .i64 2), .sc (.i .i64 3), .sc (.fz 9 false 4), .sc (.i .i64 5), .sc (.i .i64 6)], []⟩⟩] }
noncomputable def L_impl_State_isRef : Option Nat → Lv → Option Lv := Lim Tryz.prog [] d_impl_State_isRef Tryz.f191
theorem e_impl_State_isRef_i (a0 : ByteArray) (a1 : Int) (a2 : Int) (a3 : Int) (a4 : Int) (a5 : Rw) (a6 : Rw) (a7 : Rw) : L_impl_State_isRef none [.s a0, .i a1, .i a2, .i a3, .i a4, .l a5, .l a6, .l a7] =
 L_impl_State_isRef (some 2) [.s a0, .l a5, .i (a5.length : Int), .i 0] := (Lim_eq _ _).trans (by kernel_rfl)
theorem e_impl_State_isRef_2 (a0 : ByteArray) (a1 : Rw) (a2 : Int) (a3 : Int) : L_impl_State_isRef (some 2) [.s a0, .l a1, .i a2, .i a3] =
 cond (decide (a3 < a2)) (
  cond (inb a3 a1.length) (
   L_impl_State_isRef (some 5) [.s a0, .l a1, .i a2, .i a3, .l ((rd a1 a3.toNat 3).list), .i (((rd a1 a3.toNat 3).list).length : Int), .i 0]) (
   none)) (
  some [.b false]) := (Lim_eq _ _).trans (by kernel_rfl)
theorem e_impl_State_isRef_5 (a0 : ByteArray) (a1 : Rw) (a2 : Int) (a3 : Int) (a4 : Rw) (a5 : Int) (a6 : Int) : L_impl_State_isRef (some 5) [.s a0, .l a1, .i a2, .i a3, .l a4, .i a5, .i a6] =
 cond (decide (a6 < a5)) (
  cond (inb a6 a4.length) (
   cond (Eng.seq ((rd a4 a6.toNat 0).str) a0) (
    some [.b true]) (
    L_impl_State_isRef (some 5) [.s a0, .l a1, .i a2, .i a3, .l a4, .i a5, .i (IntKind.i64.wrap (a6 + 1))])) (
   none)) (
  L_impl_State_isRef (some 2) [.s a0, .l a1, .i a2, .i (IntKind.i64.wrap (a3 + 1))]) := (Lim_eq _ _).trans (by kernel_rfl)
theorem k_impl_State_isRef : SigOk Tryz.prog (d_impl_State_isRef.sig (L_impl_State_isRef none)) ∧ (d_impl_State_isRef.sig (L_impl_State_isRef none)).ok = true := sound_lim known_nil (by kernel_rfl) (by kernel_rfl) (by kernel_rfl)
def d_impl_State_change : FD := { fn := 120, nb := 1, pre := ⟨[.sc (.pt 0 0), .ag [.i .i64 0, .s 1, .s 2, .i .i64 3, .s 4, .fz 9 false 5]], [.bx [.i .i64 6, .i .i64 7, .i .i64 8, .i .i64 9, .ow 1, .ow 2, .ow 3], .rw 90 false 10, .rw 156 false 11, .rw 158 false 12]⟩, post := ⟨[.ag [.i .i64 0, .i .i64 1, .i .i64 2, .i .i64 3, .i .i64 4, .fz 90 true 5, .fz 156 true 6, .fz 158 true 7, .s 8, .i .i64 9, .s 10, .s 11]], [.bx [.i .i64 12, .i .i64 13, .i .i64 14, .i .i64 15, .ow 1, .ow 2, .ow 3], .rw 90 false 16, .rw 156 false 17, .rw 158 false 18]⟩, sh := true, cuts := [⟨4, [2, 3, 4, 5, 6, 7], ⟨[.sc (.pt 1 0), .sc (.pt 2 0), .sc (.pt 3 0), .sc (.fn 186 []), .sc (.fn 187 [(1, 0), (2, 0)]), .sc (.b 0)], [.bx [.i .i64 1, .i .i64 2, .i .i64 3, .i .i64 4, .ow 4, .ow 5, .ow 6], .bx [.pt 0 0], .bx [.i .i64 5, .s 6, .s 7, .i .i64 8, .s 9, .fz 9 false 10], .bx [.i .i64 11, .i .i64 12, .i .i64 13, .i .i64 14, .i .i64 15, .ow 7, .ow 8, .ow 9, .s 16, .i .i64 17, .s 18, .s 19], .rw 90 false 20, .rw 156 false 21, .rw 158 false 22, .rw 90 true 23, .rw 156 true 24, .rw 158 true 25]⟩⟩, ⟨7, [2, 3, 4, 5, 6, 7, 55, 56, 57], ⟨[.sc (.pt 1 0), .sc (.pt 2 0), .sc (.pt 3 0), .sc (.fn 186 []), .sc (.fn 187 [(1, 0), (2, 0)]), .sc (.b 0), .sc (.fz 9 false 1), .sc (.i .i64 2), .sc (.i .i64 3)], [.bx [.i .i64 4, .i .i64 5, .i .i64 6, .i .i64 7, .ow 4, .ow 5, .ow 6], .bx [.pt 0 0], .bx [.i .i64 8, .s 9, .s 10, .i .i64 11, .s 12, .fz 9 false 13], .bx [.i .i64 14, .i .i64 15, .i .i64 16, .i .i64 17, .i .i64 18, .ow 7, .ow 8, .ow 9, .s 19, .i .i64 20, .s 21, .s 22], .rw 90 false 23, .rw 156 false 24, .rw 158 false 25, .rw 90 true 26, .rw 156 true 27, .rw 158 true 28]⟩⟩, ⟨21, [4, 5], ⟨[.sc (.pt 1 0), .sc (.fn 186 [])], [.bx [.i .i64 0, .i .i64 1, .i .i64 2, .i .i64 3, .ow 2, .ow 3, .ow 4], .bx [.i .i64 4, .i .i64 5, .i .i64 6, .i .i64 7, .i .i64 8, .ow 5, .ow 6, .ow 7, .s 9, .i .i64 10, .s 11, .s 12], .rw 90 false 13, .rw 156 false 14, .rw 158 false 15, .rw 90 true 16, .rw 156 true 17, .rw 158 true 18]⟩⟩, ⟨22, [2, 3, 4, 6, 13, 14, 15], ⟨[.sc (.pt 1 0), .sc (.pt 2 0), .sc (.pt 3 0), .sc (.fn 187 [(1, 0), (2, 0)]), .sc (.s 0), .sc (.i .i64 1), .sc (.b 2)], [.bx [.i .i64 3, .i .i64 4, .i .i64 5, .i .i64 6, .ow 4, .ow 5, .ow 6], .bx [.pt 0 0], .bx [.i .i64 7, .s 8, .s 9, .i .i64 10, .s 11, .fz 9 false 12], .bx [.i .i64 13, .i .i64 14, .i .i64 15, .i .i64 16, .i .i64 17, .ow 7, .ow 8, .ow 9, .s 18, .i .i64 19, .s 20, .s 21], .rw 90 false 22, .rw 156 false 23, .rw 158 false 24, .rw 90 true 25, .rw 156 true 26, .rw 158 true 27]⟩⟩, ⟨27, [4, 6, 13], ⟨[.sc (.pt 1 0), .sc (.fn 187 [(2, 0), (3, 0)]), .sc (.s 0)], [.bx [.i .i64 1, .i .i64 2, .i .i64 3, .i .i64 4, .ow 4, .ow 5, .ow 6], .bx [.i .i64 5, .i .i64 6, .i .i64 7, .i .i64 8, .i .i64 9, .ow 7, .ow 8, .ow 9, .s 10, .i .i64 11, .s 12, .s 13], .bx [.pt 0 0], .bx [.i .i64 14, .s 15, .s 16, .i .i64 17, .s 18, .fz 9 false 19], .rw 90 false 20, .rw 156 false 21, .rw 158 false 22, .rw 90 true 23, .rw 156 true 24, .rw 158 true 25]⟩⟩, ⟨65, [2, 4, 5, 30, 346, 347, 348], ⟨[.sc (.pt 1 0), .sc (.pt 2 0), .sc (.fn 186 []), .sc (.ow 3), .sc (.ow 4), .sc (.i .i64 0), .sc (.i .i64 1)], [.bx [.i .i64 2, .i .i64 3, .i .i64 4, .i .i64 5, .ow 5, .ow 6, .ow 4], .bx [.pt 0 0], .bx [.i .i64 6, .i .i64 7, .i .i64 8, .i .i64 9, .i .i64 10, .ow 7, .ow 8, .ow 9, .s 11, .i .i64 12, .s 13, .s 14], .rw 158 true 15, .rw 158 false 16, .rw 90 false 17, .rw 156 false 18, .rw 90 true 19, .rw 156 true 20, .rw 158 true 21]⟩⟩, ⟨76, [4, 5], ⟨[.sc (.pt 1 0), .sc (.fn 186 [])], [.bx [.i .i64 0, .i .i64 1, .i .i64 2, .i .i64 3, .ow 2, .ow 3, .ow 4], .bx [.i .i64 4, .i .i64 5, .i .i64 6, .i .i64 7, .i .i64 8, .ow 5, .ow 6, .ow 7, .s 9, .i .i64 10, .s 11, .s 12], .rw 90 false 13, .rw 156 false 14, .rw 158 false 15, .rw 90 true 16, .rw 156 true 17, .rw 158 true 18]⟩⟩, ⟨78, [4, 5], ⟨[.sc (.pt 1 0), .sc (.fn 186 [])], [.bx [.i .i64 0, .i .i64 1, .i .i64 2, .i .i64 3, .ow 2, .ow 3, .ow 4], .bx [.i .i64 4, .i .i64 5, .i .i64 6, .i .i64 7, .i .i64 8, .ow 5, .ow 6, .ow 7, .s 9, .i .i64 10, .s 11, .s 12], .rw 90 false 13, .rw 156 false 14, .rw 158 false 15, .rw 90 true 16, .rw 156 true 17, .rw 158 true 18]⟩⟩] }
noncomputable def L_impl_State_change : Option Nat → Lv → Option Lv := Lim Tryz.prog [d_impl_Sum.sig (L_impl_Sum none), d_impl_State_thing.sig (L_impl_State_thing none), d_impl_copied.sig (L_impl_copied none), d_impl_form.sig (L_impl_form none), d_impl_State_change_1.sig (L_impl_State_change_1 none), d_impl_State_change_2.sig (L_impl_State_change_2 none), d_impl_State_pin.sig (L_impl_State_pin none), d_impl_State_lease.sig (L_impl_State_lease none), d_impl_State_held.sig (L_impl_State_held none), d_impl_State_isRef.sig (L_impl_State_isRef none)] d_impl_State_change Tryz.f120
theorem e_impl_State_change_i (a0 : Int) (a1 : ByteArray) (a2 : ByteArray) (a3 : Int) (a4 : ByteArray) (a5 : Rw) (a6 : Int) (a7 : Int) (a8 : Int) (a9 : Int) (a10 : Rw) (a11 : Rw) (a12 : Rw) : L_impl_State_change none [.i a0, .s a1, .s a2, .i a3, .s a4, .l a5, .i a6, .i a7, .i a8, .i a9, .l a10, .l a11, .l a12] =
 cond (decide ((a12.length : Int) < 200)) (
  L_impl_State_change (some 4) [.b (decide (a8 < 1000000000)), .i a6, .i a7, .i a8, .i a9, .i a0, .s a1, .s a2, .i a3, .s a4, .l a5, .i 0, .i 0, .i 0, .i 0, .i 0, .s (⟨#[]⟩ : ByteArray), .i 0, .s (⟨#[]⟩ : ByteArray), .s (⟨#[]⟩ : ByteArray), .l a10, .l a11, .l a12, .l [], .l [], .l []]) (
  L_impl_State_change (some 4) [.b false, .i a6, .i a7, .i a8, .i a9, .i a0, .s a1, .s a2, .i a3, .s a4, .l a5, .i 0, .i 0, .i 0, .i 0, .i 0, .s (⟨#[]⟩ : ByteArray), .i 0, .s (⟨#[]⟩ : ByteArray), .s (⟨#[]⟩ : ByteArray), .l a10, .l a11, .l a12, .l [], .l [], .l []]) := (Lim_eq _ _).trans (by kernel_rfl)
theorem e_impl_State_change_4 (a0 : Bool) (a1 : Int) (a2 : Int) (a3 : Int) (a4 : Int) (a5 : Int) (a6 : ByteArray) (a7 : ByteArray) (a8 : Int) (a9 : ByteArray) (a10 : Rw) (a11 : Int) (a12 : Int) (a13 : Int) (a14 : Int) (a15 : Int) (a16 : ByteArray) (a17 : Int) (a18 : ByteArray) (a19 : ByteArray) (a20 : Rw) (a21 : Rw) (a22 : Rw) (a23 : Rw) (a24 : Rw) (a25 : Rw) : L_impl_State_change (some 4) [.b a0, .i a1, .i a2, .i a3, .i a4, .i a5, .s a6, .s a7, .i a8, .s a9, .l a10, .i a11, .i a12, .i a13, .i a14, .i a15, .s a16, .i a17, .s a18, .s a19, .l a20, .l a21, .l a22, .l a23, .l a24, .l a25] =
 cond (a5 == 1) (
  L_impl_State_change (some 7) [.b a0, .l a10, .i (a10.length : Int), .i 0, .i a1, .i a2, .i a3, .i a4, .i a5, .s a6, .s a7, .i a8, .s a9, .l a10, .i a11, .i a12, .i a13, .i a14, .i a15, .s a16, .i a17, .s a18, .s a19, .l a20, .l a21, .l a22, .l a23, .l a24, .l a25]) (
  cond (a5 == 2) (
   (L_impl_State_thing none [.s a6, .i a1, .i a2, .i a3, .i a4, .l a20, .l a21, .l a22]).bind fun y1 =>
   cond (!(g y1 1).bool) (
    (L_impl_State_change_1 none [.i 2]).bind fun y2 =>
    some [.i ((g y2 0).int), .i ((g y2 1).int), .i ((g y2 2).int), .i ((g y2 3).int), .i ((g y2 4).int), .l ((g y2 5).list), .l ((g y2 6).list), .l ((g y2 7).list), .s ((g y2 8).str), .i ((g y2 9).int), .s ((g y2 10).str), .s ((g y2 11).str), .i a1, .i a2, .i a3, .i a4, .l a20, .l a21, .l a22]) (
    (L_impl_State_pin none [.s a7, .i a1, .i a2, .i a3, .i a4, .l a20, .l a21, .l a22]).bind fun y3 =>
    cond ((g y3 1).bool) (
     cond (inb ((g y3 0).int) a21.length) (
      (L_impl_State_change_1 none [.i 0]).bind fun y4 =>
      some [.i ((g y4 0).int), .i ((g y4 1).int), .i ((g y4 2).int), .i ((g y4 3).int), .i ((g y4 4).int), .l ((g y4 5).list), .l ((g y4 6).list), .l ((g y4 7).list), .s ((g y4 8).str), .i ((g y4 9).int), .s ((g y4 10).str), .s ((g y4 11).str), .i a1, .i a2, .i a3, .i a4, .l a20, .l (wrs a21 (((g y3 0).int).toNat) 1 ([.s a6] : List C)), .l a22]) (
      none)) (
     cond ((a21.length : Int) == 100) (
      (L_impl_State_change_1 none [.i 4]).bind fun y5 =>
      some [.i ((g y5 0).int), .i ((g y5 1).int), .i ((g y5 2).int), .i ((g y5 3).int), .i ((g y5 4).int), .l ((g y5 5).list), .l ((g y5 6).list), .l ((g y5 7).list), .s ((g y5 8).str), .i ((g y5 9).int), .s ((g y5 10).str), .s ((g y5 11).str), .i a1, .i a2, .i a3, .i a4, .l a20, .l a21, .l a22]) (
      cond (decide (0 ≤ (g y3 0).int)) (
       cond (decide ((g y3 0).int ≤ (a21.length : Int))) (
        cond (decide ((Eng.sub a21 0 ((g y3 0).int).toNat).length ≤ most)) (
         cond (decide ((Eng.sub a21 0 ((g y3 0).int).toNat).length + ([[.s a7, .s a6]] : Rw).length ≤ most)) (
          cond (decide (0 ≤ (g y3 0).int)) (
           cond (decide ((g y3 0).int ≤ (a21.length : Int))) (
            cond (decide (((Eng.sub a21 0 ((g y3 0).int).toNat) ++ ([[.s a7, .s a6]] : Rw)).length + (Eng.sub a21 ((g y3 0).int).toNat a21.length).length ≤ most)) (
             L_impl_State_change (some 78) [.i a1, .i a2, .i a3, .i a4, .i a11, .i a12, .i a13, .i a14, .i a15, .s a16, .i a17, .s a18, .s a19, .l a20, .l (((Eng.sub a21 0 ((g y3 0).int).toNat) ++ ([[.s a7, .s a6]] : Rw)) ++ (Eng.sub a21 ((g y3 0).int).toNat a21.length)), .l a22, .l a23, .l a24, .l a25]) (
             none)) (
            none)) (
           none)) (
          none)) (
         none)) (
        none)) (
       none))))) (
   cond (a5 == 3) (
    (L_impl_State_pin none [.s a7, .i a1, .i a2, .i a3, .i a4, .l a20, .l a21, .l a22]).bind fun y6 =>
    cond (!(g y6 1).bool) (
     (L_impl_State_change_1 none [.i 5]).bind fun y7 =>
     some [.i ((g y7 0).int), .i ((g y7 1).int), .i ((g y7 2).int), .i ((g y7 3).int), .i ((g y7 4).int), .l ((g y7 5).list), .l ((g y7 6).list), .l ((g y7 7).list), .s ((g y7 8).str), .i ((g y7 9).int), .s ((g y7 10).str), .s ((g y7 11).str), .i a1, .i a2, .i a3, .i a4, .l a20, .l a21, .l a22]) (
     cond (decide (0 ≤ (g y6 0).int)) (
      cond (decide ((g y6 0).int ≤ (a21.length : Int))) (
       cond (decide (0 ≤ (IntKind.i64.wrap ((g y6 0).int + 1)))) (
        cond (decide ((IntKind.i64.wrap ((g y6 0).int + 1)) ≤ (a21.length : Int))) (
         cond (decide ((Eng.sub a21 0 (((g y6 0).int).toNat)).length + (Eng.sub a21 (IntKind.i64.wrap ((g y6 0).int + 1)).toNat a21.length).length ≤ most)) (
          L_impl_State_change (some 78) [.i a1, .i a2, .i a3, .i a4, .i a11, .i a12, .i a13, .i a14, .i a15, .s a16, .i a17, .s a18, .s a19, .l a20, .l ((Eng.sub a21 0 (((g y6 0).int).toNat)) ++ (Eng.sub a21 (IntKind.i64.wrap ((g y6 0).int + 1)).toNat a21.length)), .l a22, .l a23, .l a24, .l a25]) (
          none)) (
         none)) (
        none)) (
       none)) (
      none))) (
    cond (a5 == 4) (
     (L_impl_State_thing none [.s a6, .i a1, .i a2, .i a3, .i a4, .l a20, .l a21, .l a22]).bind fun y8 =>
     cond (!(g y8 1).bool) (
      (L_impl_State_change_1 none [.i 2]).bind fun y9 =>
      some [.i ((g y9 0).int), .i ((g y9 1).int), .i ((g y9 2).int), .i ((g y9 3).int), .i ((g y9 4).int), .l ((g y9 5).list), .l ((g y9 6).list), .l ((g y9 7).list), .s ((g y9 8).str), .i ((g y9 9).int), .s ((g y9 10).str), .s ((g y9 11).str), .i a1, .i a2, .i a3, .i a4, .l a20, .l a21, .l a22]) (
      cond (!a0) (
       (L_impl_State_change_1 none [.i 4]).bind fun y10 =>
       some [.i ((g y10 0).int), .i ((g y10 1).int), .i ((g y10 2).int), .i ((g y10 3).int), .i ((g y10 4).int), .l ((g y10 5).list), .l ((g y10 6).list), .l ((g y10 7).list), .s ((g y10 8).str), .i ((g y10 9).int), .s ((g y10 10).str), .s ((g y10 11).str), .i a1, .i a2, .i a3, .i a4, .l a20, .l a21, .l a22]) (
       (L_impl_State_change_2 none [.s a6, .i a1, .i a2, .i a3, .i a4, .i a5, .s a6, .s a7, .i a8, .s a9, .l a10, .l a20, .l a21, .l a22]).bind fun y11 =>
       some [.i ((g y11 0).int), .i ((g y11 1).int), .i ((g y11 2).int), .i ((g y11 3).int), .i ((g y11 4).int), .l ((g y11 5).list), .l ((g y11 6).list), .l ((g y11 7).list), .s ((g y11 8).str), .i ((g y11 9).int), .s ((g y11 10).str), .s ((g y11 11).str), .i ((g y11 12).int), .i ((g y11 13).int), .i ((g y11 14).int), .i ((g y11 15).int), .l ((g y11 22).list), .l ((g y11 23).list), .l ((g y11 24).list)]))) (
     cond (a5 == 5) (
      (L_impl_State_lease none [.i a8, .i a1, .i a2, .i a3, .i a4, .l a20, .l a21, .l a22]).bind fun y12 =>
      cond (!(g y12 1).bool) (
       (L_impl_State_change_1 none [.i 5]).bind fun y13 =>
       some [.i ((g y13 0).int), .i ((g y13 1).int), .i ((g y13 2).int), .i ((g y13 3).int), .i ((g y13 4).int), .l ((g y13 5).list), .l ((g y13 6).list), .l ((g y13 7).list), .s ((g y13 8).str), .i ((g y13 9).int), .s ((g y13 10).str), .s ((g y13 11).str), .i a1, .i a2, .i a3, .i a4, .l a20, .l a21, .l a22]) (
       cond (decide (0 ≤ (g y12 0).int)) (
        cond (decide ((g y12 0).int ≤ (a22.length : Int))) (
         cond (decide (0 ≤ (IntKind.i64.wrap ((g y12 0).int + 1)))) (
          cond (decide ((IntKind.i64.wrap ((g y12 0).int + 1)) ≤ (a22.length : Int))) (
           cond (decide ((Eng.sub a22 0 (((g y12 0).int).toNat)).length + (Eng.sub a22 (IntKind.i64.wrap ((g y12 0).int + 1)).toNat a22.length).length ≤ most)) (
            L_impl_State_change (some 78) [.i a1, .i a2, .i a3, .i a4, .i a11, .i a12, .i a13, .i a14, .i a15, .s a16, .i a17, .s a18, .s a19, .l a20, .l a21, .l ((Eng.sub a22 0 (((g y12 0).int).toNat)) ++ (Eng.sub a22 (IntKind.i64.wrap ((g y12 0).int + 1)).toNat a22.length)), .l a23, .l a24, .l a25]) (
            none)) (
           none)) (
          none)) (
         none)) (
        none))) (
      cond (a5 == 6) (
       cond (decide (1000000000 < (IntKind.i64.wrap (a2 + a8)))) (
        (L_impl_State_change_1 none [.i 4]).bind fun y14 =>
        some [.i ((g y14 0).int), .i ((g y14 1).int), .i ((g y14 2).int), .i ((g y14 3).int), .i ((g y14 4).int), .l ((g y14 5).list), .l ((g y14 6).list), .l ((g y14 7).list), .s ((g y14 8).str), .i ((g y14 9).int), .s ((g y14 10).str), .s ((g y14 11).str), .i a1, .i a2, .i a3, .i a4, .l a20, .l a21, .l a22]) (
        L_impl_State_change (some 65) [.i (a22.length : Int), .i 0, .i a1, .i (IntKind.i64.wrap (a2 + a8)), .i a3, .i a4, .i a11, .i a12, .i a13, .i a14, .i a15, .s a16, .i a17, .s a18, .s a19, .l [], .l a22, .l a20, .l a21, .l a23, .l a24, .l a25])) (
       cond (a5 == 7) (
        (L_impl_State_thing none [.s a6, .i a1, .i a2, .i a3, .i a4, .l a20, .l a21, .l a22]).bind fun y15 =>
        cond (!(g y15 1).bool) (
         (L_impl_State_change_1 none [.i 2]).bind fun y16 =>
         some [.i ((g y16 0).int), .i ((g y16 1).int), .i ((g y16 2).int), .i ((g y16 3).int), .i ((g y16 4).int), .l ((g y16 5).list), .l ((g y16 6).list), .l ((g y16 7).list), .s ((g y16 8).str), .i ((g y16 9).int), .s ((g y16 10).str), .s ((g y16 11).str), .i a1, .i a2, .i a3, .i a4, .l a20, .l a21, .l a22]) (
         (L_impl_State_held none [.s a6, .i a1, .i a2, .i a3, .i a4, .l a20, .l a21, .l a22]).bind fun y17 =>
         cond ((g y17 0).bool) (
          L_impl_State_change (some 76) [.i a1, .i a2, .i a3, .i a4, .i a11, .i a12, .i a13, .i a14, .i a15, .s a16, .i a17, .s a18, .s a19, .l a20, .l a21, .l a22, .l a23, .l a24, .l a25]) (
          (L_impl_State_isRef none [.s a6, .i a1, .i a2, .i a3, .i a4, .l a20, .l a21, .l a22]).bind fun y18 =>
          cond ((g y18 0).bool) (
           L_impl_State_change (some 76) [.i a1, .i a2, .i a3, .i a4, .i a11, .i a12, .i a13, .i a14, .i a15, .s a16, .i a17, .s a18, .s a19, .l a20, .l a21, .l a22, .l a23, .l a24, .l a25]) (
           cond (decide (0 ≤ (g y15 0).int)) (
            cond (decide ((g y15 0).int ≤ (a20.length : Int))) (
             cond (decide (0 ≤ (IntKind.i64.wrap ((g y15 0).int + 1)))) (
              cond (decide ((IntKind.i64.wrap ((g y15 0).int + 1)) ≤ (a20.length : Int))) (
               cond (decide ((Eng.sub a20 0 (((g y15 0).int).toNat)).length + (Eng.sub a20 (IntKind.i64.wrap ((g y15 0).int + 1)).toNat a20.length).length ≤ most)) (
                L_impl_State_change (some 78) [.i a1, .i a2, .i a3, .i a4, .i a11, .i a12, .i a13, .i a14, .i a15, .s a16, .i a17, .s a18, .s a19, .l ((Eng.sub a20 0 (((g y15 0).int).toNat)) ++ (Eng.sub a20 (IntKind.i64.wrap ((g y15 0).int + 1)).toNat a20.length)), .l a21, .l a22, .l a23, .l a24, .l a25]) (
                none)) (
               none)) (
              none)) (
             none)) (
            none))))) (
        L_impl_State_change (some 78) [.i a1, .i a2, .i a3, .i a4, .i a11, .i a12, .i a13, .i a14, .i a15, .s a16, .i a17, .s a18, .s a19, .l a20, .l a21, .l a22, .l a23, .l a24, .l a25]))))))) := (Lim_eq _ _).trans (by kernel_rfl)
theorem e_impl_State_change_7 (a0 : Bool) (a1 : Rw) (a2 : Int) (a3 : Int) (a4 : Int) (a5 : Int) (a6 : Int) (a7 : Int) (a8 : Int) (a9 : ByteArray) (a10 : ByteArray) (a11 : Int) (a12 : ByteArray) (a13 : Rw) (a14 : Int) (a15 : Int) (a16 : Int) (a17 : Int) (a18 : Int) (a19 : ByteArray) (a20 : Int) (a21 : ByteArray) (a22 : ByteArray) (a23 : Rw) (a24 : Rw) (a25 : Rw) (a26 : Rw) (a27 : Rw) (a28 : Rw) : L_impl_State_change (some 7) [.b a0, .l a1, .i a2, .i a3, .i a4, .i a5, .i a6, .i a7, .i a8, .s a9, .s a10, .i a11, .s a12, .l a13, .i a14, .i a15, .i a16, .i a17, .i a18, .s a19, .i a20, .s a21, .s a22, .l a23, .l a24, .l a25, .l a26, .l a27, .l a28] =
 cond (decide (a3 < a2)) (
  cond (inb a3 a1.length) (
   (L_impl_State_thing none [.s ((rd a1 a3.toNat 0).str), .i a4, .i a5, .i a6, .i a7, .l a23, .l a24, .l a25]).bind fun y1 =>
   cond (!(g y1 1).bool) (
    (L_impl_State_change_1 none [.i 2]).bind fun y2 =>
    some [.i ((g y2 0).int), .i ((g y2 1).int), .i ((g y2 2).int), .i ((g y2 3).int), .i ((g y2 4).int), .l ((g y2 5).list), .l ((g y2 6).list), .l ((g y2 7).list), .s ((g y2 8).str), .i ((g y2 9).int), .s ((g y2 10).str), .s ((g y2 11).str), .i a4, .i a5, .i a6, .i a7, .l a23, .l a24, .l a25]) (
    L_impl_State_change (some 7) [.b a0, .l a1, .i a2, .i (IntKind.i64.wrap (a3 + 1)), .i a4, .i a5, .i a6, .i a7, .i a8, .s a9, .s a10, .i a11, .s a12, .l a13, .i a14, .i a15, .i a16, .i a17, .i a18, .s a19, .i a20, .s a21, .s a22, .l a23, .l a24, .l a25, .l a26, .l a27, .l a28])) (
   none)) (
  (L_impl_form none [.s a12, .l a13]).bind fun y3 =>
  (L_impl_Sum none [.s ((g y3 0).str), .i a4]).bind fun y4 =>
  (L_impl_State_thing none [.s ((g y4 0).str), .i a4, .i a5, .i a6, .i a7, .l a23, .l a24, .l a25]).bind fun y5 =>
  cond ((g y5 1).bool) (
   cond (inb ((g y5 0).int) a23.length) (
    (L_impl_form none [.s ((rd a23 (((g y5 0).int).toNat) 2).str), .l ((rd a23 (((g y5 0).int).toNat) 3).list)]).bind fun y6 =>
    cond (!Eng.seq ((g y6 0).str) ((g y3 0).str)) (
     some [.i 3, .i 0, .i 0, .i 0, .i 0, .l ([]), .l ([]), .l ([]), .s (⟨#[]⟩ : ByteArray), .i 0, .s ((g y6 0).str), .s ((g y3 0).str), .i a4, .i a5, .i a6, .i a7, .l a23, .l a24, .l a25]) (
     cond (!a0) (
      L_impl_State_change (some 21) [.i a4, .i a5, .i a6, .i a7, .i a14, .i a15, .i a16, .i a17, .i a18, .s a19, .i a20, .s a21, .s a22, .l a23, .l a24, .l a25, .l a26, .l a27, .l a28]) (
      cond (!(g y5 1).bool) (
       cond ((a23.length : Int) == 600) (
        L_impl_State_change (some 21) [.i a4, .i a5, .i a6, .i a7, .i a14, .i a15, .i a16, .i a17, .i a18, .s a19, .i a20, .s a21, .s a22, .l a23, .l a24, .l a25, .l a26, .l a27, .l a28]) (
        cond (a7 == 1000000000) (
         L_impl_State_change (some 21) [.i a4, .i a5, .i a6, .i a7, .i a14, .i a15, .i a16, .i a17, .i a18, .s a19, .i a20, .s a21, .s a22, .l a23, .l a24, .l a25, .l a26, .l a27, .l a28]) (
         L_impl_State_change (some 22) [.s ((g y4 0).str), .i ((g y5 0).int), .b ((g y5 1).bool), .i a4, .i a5, .i a6, .i a7, .i a8, .s a9, .s a10, .i a11, .s a12, .l a13, .i a14, .i a15, .i a16, .i a17, .i a18, .s a19, .i a20, .s a21, .s a22, .l a23, .l a24, .l a25, .l a26, .l a27, .l a28]))) (
       L_impl_State_change (some 22) [.s ((g y4 0).str), .i ((g y5 0).int), .b ((g y5 1).bool), .i a4, .i a5, .i a6, .i a7, .i a8, .s a9, .s a10, .i a11, .s a12, .l a13, .i a14, .i a15, .i a16, .i a17, .i a18, .s a19, .i a20, .s a21, .s a22, .l a23, .l a24, .l a25, .l a26, .l a27, .l a28])))) (
    none)) (
   cond (!a0) (
    L_impl_State_change (some 21) [.i a4, .i a5, .i a6, .i a7, .i a14, .i a15, .i a16, .i a17, .i a18, .s a19, .i a20, .s a21, .s a22, .l a23, .l a24, .l a25, .l a26, .l a27, .l a28]) (
    cond (!(g y5 1).bool) (
     cond ((a23.length : Int) == 600) (
      L_impl_State_change (some 21) [.i a4, .i a5, .i a6, .i a7, .i a14, .i a15, .i a16, .i a17, .i a18, .s a19, .i a20, .s a21, .s a22, .l a23, .l a24, .l a25, .l a26, .l a27, .l a28]) (
      cond (a7 == 1000000000) (
       L_impl_State_change (some 21) [.i a4, .i a5, .i a6, .i a7, .i a14, .i a15, .i a16, .i a17, .i a18, .s a19, .i a20, .s a21, .s a22, .l a23, .l a24, .l a25, .l a26, .l a27, .l a28]) (
       L_impl_State_change (some 22) [.s ((g y4 0).str), .i ((g y5 0).int), .b ((g y5 1).bool), .i a4, .i a5, .i a6, .i a7, .i a8, .s a9, .s a10, .i a11, .s a12, .l a13, .i a14, .i a15, .i a16, .i a17, .i a18, .s a19, .i a20, .s a21, .s a22, .l a23, .l a24, .l a25, .l a26, .l a27, .l a28]))) (
     L_impl_State_change (some 22) [.s ((g y4 0).str), .i ((g y5 0).int), .b ((g y5 1).bool), .i a4, .i a5, .i a6, .i a7, .i a8, .s a9, .s a10, .i a11, .s a12, .l a13, .i a14, .i a15, .i a16, .i a17, .i a18, .s a19, .i a20, .s a21, .s a22, .l a23, .l a24, .l a25, .l a26, .l a27, .l a28])))) := (Lim_eq _ _).trans (by kernel_rfl)
theorem e_impl_State_change_21 (a0 : Int) (a1 : Int) (a2 : Int) (a3 : Int) (a4 : Int) (a5 : Int) (a6 : Int) (a7 : Int) (a8 : Int) (a9 : ByteArray) (a10 : Int) (a11 : ByteArray) (a12 : ByteArray) (a13 : Rw) (a14 : Rw) (a15 : Rw) (a16 : Rw) (a17 : Rw) (a18 : Rw) : L_impl_State_change (some 21) [.i a0, .i a1, .i a2, .i a3, .i a4, .i a5, .i a6, .i a7, .i a8, .s a9, .i a10, .s a11, .s a12, .l a13, .l a14, .l a15, .l a16, .l a17, .l a18] =
 (L_impl_State_change_1 none [.i 4]).bind fun y1 =>
 some [.i ((g y1 0).int), .i ((g y1 1).int), .i ((g y1 2).int), .i ((g y1 3).int), .i ((g y1 4).int), .l ((g y1 5).list), .l ((g y1 6).list), .l ((g y1 7).list), .s ((g y1 8).str), .i ((g y1 9).int), .s ((g y1 10).str), .s ((g y1 11).str), .i a0, .i a1, .i a2, .i a3, .l a13, .l a14, .l a15] := (Lim_eq _ _).trans (by kernel_rfl)
theorem e_impl_State_change_22 (a0 : ByteArray) (a1 : Int) (a2 : Bool) (a3 : Int) (a4 : Int) (a5 : Int) (a6 : Int) (a7 : Int) (a8 : ByteArray) (a9 : ByteArray) (a10 : Int) (a11 : ByteArray) (a12 : Rw) (a13 : Int) (a14 : Int) (a15 : Int) (a16 : Int) (a17 : Int) (a18 : ByteArray) (a19 : Int) (a20 : ByteArray) (a21 : ByteArray) (a22 : Rw) (a23 : Rw) (a24 : Rw) (a25 : Rw) (a26 : Rw) (a27 : Rw) : L_impl_State_change (some 22) [.s a0, .i a1, .b a2, .i a3, .i a4, .i a5, .i a6, .i a7, .s a8, .s a9, .i a10, .s a11, .l a12, .i a13, .i a14, .i a15, .i a16, .i a17, .s a18, .i a19, .s a20, .s a21, .l a22, .l a23, .l a24, .l a25, .l a26, .l a27] =
 cond (!a2) (
  cond (decide (0 ≤ a1)) (
   cond (decide (a1 ≤ (a22.length : Int))) (
    cond (decide ((Eng.sub a22 0 a1.toNat).length ≤ most)) (
     (L_impl_copied none [.l a12]).bind fun y1 =>
     cond (decide ((Eng.sub a22 0 a1.toNat).length + ([[.s a0, .i (IntKind.i64.wrap (a6 + 1)), .s a11, .l ((g y1 0).list)]] : Rw).length ≤ most)) (
      cond (decide (0 ≤ a1)) (
       cond (decide (a1 ≤ (a22.length : Int))) (
        cond (decide (((Eng.sub a22 0 a1.toNat) ++ ([[.s a0, .i (IntKind.i64.wrap (a6 + 1)), .s a11, .l ((g y1 0).list)]] : Rw)).length + (Eng.sub a22 a1.toNat a22.length).length ≤ most)) (
         L_impl_State_change (some 27) [.s a0, .i a3, .i a4, .i a5, .i (IntKind.i64.wrap (a6 + 1)), .i a13, .i a14, .i a15, .i a16, .i a17, .s a18, .i a19, .s a20, .s a21, .i a7, .s a8, .s a9, .i a10, .s a11, .l a12, .l (((Eng.sub a22 0 a1.toNat) ++ ([[.s a0, .i (IntKind.i64.wrap (a6 + 1)), .s a11, .l ((g y1 0).list)]] : Rw)) ++ (Eng.sub a22 a1.toNat a22.length)), .l a23, .l a24, .l a25, .l a26, .l a27]) (
         none)) (
        none)) (
       none)) (
      none)) (
     none)) (
    none)) (
   none)) (
  L_impl_State_change (some 27) [.s a0, .i a3, .i a4, .i a5, .i a6, .i a13, .i a14, .i a15, .i a16, .i a17, .s a18, .i a19, .s a20, .s a21, .i a7, .s a8, .s a9, .i a10, .s a11, .l a12, .l a22, .l a23, .l a24, .l a25, .l a26, .l a27]) := (Lim_eq _ _).trans (by kernel_rfl)
theorem e_impl_State_change_27 (a0 : ByteArray) (a1 : Int) (a2 : Int) (a3 : Int) (a4 : Int) (a5 : Int) (a6 : Int) (a7 : Int) (a8 : Int) (a9 : Int) (a10 : ByteArray) (a11 : Int) (a12 : ByteArray) (a13 : ByteArray) (a14 : Int) (a15 : ByteArray) (a16 : ByteArray) (a17 : Int) (a18 : ByteArray) (a19 : Rw) (a20 : Rw) (a21 : Rw) (a22 : Rw) (a23 : Rw) (a24 : Rw) (a25 : Rw) : L_impl_State_change (some 27) [.s a0, .i a1, .i a2, .i a3, .i a4, .i a5, .i a6, .i a7, .i a8, .i a9, .s a10, .i a11, .s a12, .s a13, .i a14, .s a15, .s a16, .i a17, .s a18, .l a19, .l a20, .l a21, .l a22, .l a23, .l a24, .l a25] =
 (L_impl_State_change_2 none [.s a0, .i a1, .i a2, .i a3, .i a4, .i a14, .s a15, .s a16, .i a17, .s a18, .l a19, .l a20, .l a21, .l a22]).bind fun y1 =>
 some [.i ((g y1 0).int), .i ((g y1 1).int), .i ((g y1 2).int), .i ((g y1 3).int), .i ((g y1 4).int), .l ((g y1 5).list), .l ((g y1 6).list), .l ((g y1 7).list), .s a0, .i ((g y1 9).int), .s ((g y1 10).str), .s ((g y1 11).str), .i ((g y1 12).int), .i ((g y1 13).int), .i ((g y1 14).int), .i ((g y1 15).int), .l ((g y1 22).list), .l ((g y1 23).list), .l ((g y1 24).list)] := (Lim_eq _ _).trans (by kernel_rfl)
theorem e_impl_State_change_65 (a0 : Int) (a1 : Int) (a2 : Int) (a3 : Int) (a4 : Int) (a5 : Int) (a6 : Int) (a7 : Int) (a8 : Int) (a9 : Int) (a10 : Int) (a11 : ByteArray) (a12 : Int) (a13 : ByteArray) (a14 : ByteArray) (a15 : Rw) (a16 : Rw) (a17 : Rw) (a18 : Rw) (a19 : Rw) (a20 : Rw) (a21 : Rw) : L_impl_State_change (some 65) [.i a0, .i a1, .i a2, .i a3, .i a4, .i a5, .i a6, .i a7, .i a8, .i a9, .i a10, .s a11, .i a12, .s a13, .s a14, .l a15, .l a16, .l a17, .l a18, .l a19, .l a20, .l a21] =
 cond (decide (a1 < a0)) (
  cond (inb a1 a16.length) (
   cond (decide (a3 < (rd a16 a1.toNat 2).int)) (
    cond (decide (a15.length + ([[.i ((rd a16 a1.toNat 0).int), .s ((rd a16 a1.toNat 1).str), .i ((rd a16 a1.toNat 2).int)]] : Rw).length ≤ most)) (
     L_impl_State_change (some 65) [.i a0, .i (IntKind.i64.wrap (a1 + 1)), .i a2, .i a3, .i a4, .i a5, .i a6, .i a7, .i a8, .i a9, .i a10, .s a11, .i a12, .s a13, .s a14, .l (a15 ++ ([[.i ((rd a16 a1.toNat 0).int), .s ((rd a16 a1.toNat 1).str), .i ((rd a16 a1.toNat 2).int)]] : Rw)), .l a16, .l a17, .l a18, .l a19, .l a20, .l a21]) (
     none)) (
    L_impl_State_change (some 65) [.i a0, .i (IntKind.i64.wrap (a1 + 1)), .i a2, .i a3, .i a4, .i a5, .i a6, .i a7, .i a8, .i a9, .i a10, .s a11, .i a12, .s a13, .s a14, .l a15, .l a16, .l a17, .l a18, .l a19, .l a20, .l a21])) (
   none)) (
  L_impl_State_change (some 78) [.i a2, .i a3, .i a4, .i a5, .i a6, .i a7, .i a8, .i a9, .i a10, .s a11, .i a12, .s a13, .s a14, .l a17, .l a18, .l a15, .l a19, .l a20, .l a21]) := (Lim_eq _ _).trans (by kernel_rfl)
theorem e_impl_State_change_76 (a0 : Int) (a1 : Int) (a2 : Int) (a3 : Int) (a4 : Int) (a5 : Int) (a6 : Int) (a7 : Int) (a8 : Int) (a9 : ByteArray) (a10 : Int) (a11 : ByteArray) (a12 : ByteArray) (a13 : Rw) (a14 : Rw) (a15 : Rw) (a16 : Rw) (a17 : Rw) (a18 : Rw) : L_impl_State_change (some 76) [.i a0, .i a1, .i a2, .i a3, .i a4, .i a5, .i a6, .i a7, .i a8, .s a9, .i a10, .s a11, .s a12, .l a13, .l a14, .l a15, .l a16, .l a17, .l a18] =
 (L_impl_State_change_1 none [.i 6]).bind fun y1 =>
 some [.i ((g y1 0).int), .i ((g y1 1).int), .i ((g y1 2).int), .i ((g y1 3).int), .i ((g y1 4).int), .l ((g y1 5).list), .l ((g y1 6).list), .l ((g y1 7).list), .s ((g y1 8).str), .i ((g y1 9).int), .s ((g y1 10).str), .s ((g y1 11).str), .i a0, .i a1, .i a2, .i a3, .l a13, .l a14, .l a15] := (Lim_eq _ _).trans (by kernel_rfl)
theorem e_impl_State_change_78 (a0 : Int) (a1 : Int) (a2 : Int) (a3 : Int) (a4 : Int) (a5 : Int) (a6 : Int) (a7 : Int) (a8 : Int) (a9 : ByteArray) (a10 : Int) (a11 : ByteArray) (a12 : ByteArray) (a13 : Rw) (a14 : Rw) (a15 : Rw) (a16 : Rw) (a17 : Rw) (a18 : Rw) : L_impl_State_change (some 78) [.i a0, .i a1, .i a2, .i a3, .i a4, .i a5, .i a6, .i a7, .i a8, .s a9, .i a10, .s a11, .s a12, .l a13, .l a14, .l a15, .l a16, .l a17, .l a18] =
 (L_impl_State_change_1 none [.i 0]).bind fun y1 =>
 some [.i ((g y1 0).int), .i ((g y1 1).int), .i ((g y1 2).int), .i ((g y1 3).int), .i ((g y1 4).int), .l ((g y1 5).list), .l ((g y1 6).list), .l ((g y1 7).list), .s ((g y1 8).str), .i ((g y1 9).int), .s ((g y1 10).str), .s ((g y1 11).str), .i a0, .i a1, .i a2, .i a3, .l a13, .l a14, .l a15] := (Lim_eq _ _).trans (by kernel_rfl)
theorem k_impl_State_change : SigOk Tryz.prog (d_impl_State_change.sig (L_impl_State_change none)) ∧ (d_impl_State_change.sig (L_impl_State_change none)).ok = true := sound_lim (known_cons k_impl_Sum (by kernel_rfl) (known_cons k_impl_State_thing (by kernel_rfl) (known_cons k_impl_copied (by kernel_rfl) (known_cons k_impl_form (by kernel_rfl) (known_cons k_impl_State_change_1 (by kernel_rfl) (known_cons k_impl_State_change_2 (by kernel_rfl) (known_cons k_impl_State_pin (by kernel_rfl) (known_cons k_impl_State_lease (by kernel_rfl) (known_cons k_impl_State_held (by kernel_rfl) (known_cons k_impl_State_isRef (by kernel_rfl) known_nil)))))))))) (by kernel_rfl) (by kernel_rfl) (by kernel_rfl)
def d_impl_replay : FD := { fn := 112, nb := 0, pre := ⟨[.sc (.i .i64 0), .sc (.fz 9 false 1)], []⟩, post := ⟨[.tu [(true, [.i .i64 0, .i .i64 1, .i .i64 2, .i .i64 3, .ow 0, .ow 1, .ow 2]), (false, [.i .i64 4])]], [.rw 90 true 5, .rw 156 true 6, .rw 158 true 7]⟩, sh := false, cuts := [⟨3, [0, 4, 6, 13, 14, 15], ⟨[.sc (.i .i64 0), .sc (.pt 0 0), .sc (.pt 1 0), .sc (.fz 9 false 1), .sc (.i .i64 2), .sc (.i .i64 3)], [.bx [.i .i64 4, .i .i64 5, .i .i64 6, .i .i64 7, .ow 2, .ow 3, .ow 4], .bx [.i .i64 8, .i .i64 9, .i .i64 10, .i .i64 11, .ow 5, .ow 6, .ow 7], .rw 90 true 12, .rw 156 true 13, .rw 158 true 14, .rw 90 true 15, .rw 156 true 16, .rw 158 true 17]⟩⟩] }
noncomputable def L_impl_replay : Option Nat → Lv → Option Lv := Lim Tryz.prog [d_impl_ReadEntry.sig (L_impl_ReadEntry none), d_impl_State_change.sig (L_impl_State_change none)] d_impl_replay Tryz.f112
theorem e_impl_replay_i (a0 : Int) (a1 : Rw) : L_impl_replay none [.i a0, .l a1] =
 L_impl_replay (some 3) [.i a0, .l a1, .i (a1.length : Int), .i 0, .i 0, .i 0, .i 0, .i 0, .i a0, .i 0, .i 0, .i 0, .l [], .l [], .l [], .l [], .l [], .l []] := (Lim_eq _ _).trans (by kernel_rfl)
theorem e_impl_replay_3 (a0 : Int) (a1 : Rw) (a2 : Int) (a3 : Int) (a4 : Int) (a5 : Int) (a6 : Int) (a7 : Int) (a8 : Int) (a9 : Int) (a10 : Int) (a11 : Int) (a12 : Rw) (a13 : Rw) (a14 : Rw) (a15 : Rw) (a16 : Rw) (a17 : Rw) : L_impl_replay (some 3) [.i a0, .l a1, .i a2, .i a3, .i a4, .i a5, .i a6, .i a7, .i a8, .i a9, .i a10, .i a11, .l a12, .l a13, .l a14, .l a15, .l a16, .l a17] =
 cond (decide (a3 < a2)) (
  cond (inb a3 a1.length) (
   (L_impl_ReadEntry none [.s ((rd a1 a3.toNat 0).str), .i a0]).bind fun y1 =>
   cond (!(g y1 5).bool) (
    some [.i 0, .i 0, .i 0, .i 0, .i (IntKind.i64.wrap (a3 + 1)), .l [], .l [], .l []]) (
    (L_impl_State_change none [.i ((g y1 0).int), .s ((g y1 1).str), .s ((g y1 2).str), .i ((g y1 3).int), .s ((g y1 4).str), .l ((g y1 6).list), .i a8, .i a9, .i a10, .i a11, .l a15, .l a16, .l a17]).bind fun y2 =>
    cond ((g y2 0).int != 0) (
     some [.i 0, .i 0, .i 0, .i 0, .i (IntKind.i64.wrap (a3 + 1)), .l [], .l [], .l []]) (
     L_impl_replay (some 3) [.i a0, .l a1, .i a2, .i (IntKind.i64.wrap (a3 + 1)), .i a4, .i a5, .i a6, .i a7, .i ((g y2 12).int), .i ((g y2 13).int), .i ((g y2 14).int), .i ((g y2 15).int), .l a12, .l a13, .l a14, .l ((g y2 16).list), .l ((g y2 17).list), .l ((g y2 18).list)]))) (
   none)) (
  some [.i a8, .i a9, .i a10, .i a11, .i 0, .l a15, .l a16, .l a17]) := (Lim_eq _ _).trans (by kernel_rfl)
theorem k_impl_replay : SigOk Tryz.prog (d_impl_replay.sig (L_impl_replay none)) ∧ (d_impl_replay.sig (L_impl_replay none)).ok = true := sound_lim (known_cons k_impl_ReadEntry (by kernel_rfl) (known_cons k_impl_State_change (by kernel_rfl) known_nil)) (by kernel_rfl) (by kernel_rfl) (by kernel_rfl)
def d_impl_Replay : FD := { fn := 33, nb := 0, pre := ⟨[.sc (.i .i64 0), .sc (.fz 9 false 1)], []⟩, post := ⟨[.ag [.i .i64 0, .i .i64 1, .i .i64 2, .i .i64 3, .i .i64 4, .ow 0, .ow 1, .ow 2, .s 5, .i .i64 6, .s 7, .s 8]], [.rw 90 true 9, .rw 156 true 10, .rw 158 true 11]⟩, sh := false, cuts := [] }
noncomputable def L_impl_Replay : Option Nat → Lv → Option Lv := Lim Tryz.prog [d_impl_widthOk.sig (L_impl_widthOk none), d_impl_replay.sig (L_impl_replay none)] d_impl_Replay Tryz.f33
theorem e_impl_Replay_i (a0 : Int) (a1 : Rw) : L_impl_Replay none [.i a0, .l a1] =
 (L_impl_widthOk none [.i a0]).bind fun y1 =>
 cond (!(g y1 0).bool) (
  some [.i 1, .i 0, .i 0, .i 0, .i 0, .s (⟨#[]⟩ : ByteArray), .i 0, .s (⟨#[]⟩ : ByteArray), .s (⟨#[]⟩ : ByteArray), .l [], .l [], .l []]) (
  cond (decide (4000 < (a1.length : Int))) (
   some [.i 1, .i 0, .i 0, .i 0, .i 0, .s (⟨#[]⟩ : ByteArray), .i 0, .s (⟨#[]⟩ : ByteArray), .s (⟨#[]⟩ : ByteArray), .l [], .l [], .l []]) (
   (L_impl_replay none [.i a0, .l a1]).bind fun y2 =>
   cond (decide (0 < (g y2 4).int)) (
    some [.i 7, .i 0, .i 0, .i 0, .i 0, .s (⟨#[]⟩ : ByteArray), .i ((g y2 4).int), .s (⟨#[]⟩ : ByteArray), .s (⟨#[]⟩ : ByteArray), .l [], .l [], .l []]) (
    some [.i 0, .i ((g y2 0).int), .i ((g y2 1).int), .i ((g y2 2).int), .i ((g y2 3).int), .s (⟨#[]⟩ : ByteArray), .i 0, .s (⟨#[]⟩ : ByteArray), .s (⟨#[]⟩ : ByteArray), .l ((g y2 5).list), .l ((g y2 6).list), .l ((g y2 7).list)]))) := (Lim_eq _ _).trans (by kernel_rfl)
theorem k_impl_Replay : SigOk Tryz.prog (d_impl_Replay.sig (L_impl_Replay none)) ∧ (d_impl_Replay.sig (L_impl_Replay none)).ok = true := sound_lim (known_cons k_impl_widthOk (by kernel_rfl) (known_cons k_impl_replay (by kernel_rfl) known_nil)) (by kernel_rfl) (by kernel_rfl) (by kernel_rfl)
def d_impl_copyState : FD := { fn := 119, nb := 0, pre := ⟨[.ag [.i .i64 0, .i .i64 1, .i .i64 2, .i .i64 3, .fz 90 false 4, .fz 156 false 5, .fz 158 false 6]], []⟩, post := ⟨[.ag [.i .i64 0, .i .i64 1, .i .i64 2, .i .i64 3, .ow 0, .ow 1, .ow 2]], [.rw 90 true 4, .rw 156 true 5, .rw 158 true 6]⟩, sh := false, cuts := [⟨4, [1, 2, 9, 10, 11], ⟨[.sc (.pt 0 0), .sc (.pt 1 0), .sc (.fz 90 false 0), .sc (.i .i64 1), .sc (.i .i64 2)], [.bx [.i .i64 3, .i .i64 4, .i .i64 5, .i .i64 6, .ow 2, .fz 156 false 7, .fz 158 false 8], .bx [.i .i64 9, .i .i64 10, .i .i64 11, .i .i64 12, .ow 3, .ow 4, .ow 5], .rw 90 true 13, .rw 90 true 14, .rw 156 true 15, .rw 158 true 16]⟩⟩] }
noncomputable def L_impl_copyState : Option Nat → Lv → Option Lv := Lim Tryz.prog [d_impl_copied.sig (L_impl_copied none)] d_impl_copyState Tryz.f119
theorem e_impl_copyState_i (a0 : Int) (a1 : Int) (a2 : Int) (a3 : Int) (a4 : Rw) (a5 : Rw) (a6 : Rw) : L_impl_copyState none [.i a0, .i a1, .i a2, .i a3, .l a4, .l a5, .l a6] =
 L_impl_copyState (some 4) [.l a4, .i (a4.length : Int), .i 0, .i a0, .i a1, .i a2, .i a3, .l a5, .l a6, .i 0, .i 0, .i 0, .i 0, .l [], .l [], .l [], .l []] := (Lim_eq _ _).trans (by kernel_rfl)
theorem e_impl_copyState_4 (a0 : Rw) (a1 : Int) (a2 : Int) (a3 : Int) (a4 : Int) (a5 : Int) (a6 : Int) (a7 : Rw) (a8 : Rw) (a9 : Int) (a10 : Int) (a11 : Int) (a12 : Int) (a13 : Rw) (a14 : Rw) (a15 : Rw) (a16 : Rw) : L_impl_copyState (some 4) [.l a0, .i a1, .i a2, .i a3, .i a4, .i a5, .i a6, .l a7, .l a8, .i a9, .i a10, .i a11, .i a12, .l a13, .l a14, .l a15, .l a16] =
 cond (decide (a2 < a1)) (
  cond (inb a2 a0.length) (
   (L_impl_copied none [.l ((rd a0 a2.toNat 3).list)]).bind fun y1 =>
   cond (decide (a13.length + ([[.s ((rd a0 a2.toNat 0).str), .i ((rd a0 a2.toNat 1).int), .s ((rd a0 a2.toNat 2).str), .l ((g y1 0).list)]] : Rw).length ≤ most)) (
    L_impl_copyState (some 4) [.l a0, .i a1, .i (IntKind.i64.wrap (a2 + 1)), .i a3, .i a4, .i a5, .i a6, .l a7, .l a8, .i a9, .i a10, .i a11, .i a12, .l (a13 ++ ([[.s ((rd a0 a2.toNat 0).str), .i ((rd a0 a2.toNat 1).int), .s ((rd a0 a2.toNat 2).str), .l ((g y1 0).list)]] : Rw)), .l a14, .l a15, .l a16]) (
    none)) (
   none)) (
  cond (decide (a7.length ≤ most)) (
   cond (decide (a8.length ≤ most)) (
    some [.i a3, .i a4, .i a5, .i a6, .l a13, .l a7, .l a8]) (
    none)) (
   none)) := (Lim_eq _ _).trans (by kernel_rfl)
theorem k_impl_copyState : SigOk Tryz.prog (d_impl_copyState.sig (L_impl_copyState none)) ∧ (d_impl_copyState.sig (L_impl_copyState none)).ok = true := sound_lim (known_cons k_impl_copied (by kernel_rfl) known_nil) (by kernel_rfl) (by kernel_rfl) (by kernel_rfl)
def d_impl_timeOk : FD := { fn := 140, nb := 0, pre := ⟨[.sc (.i .i64 0)], []⟩, post := ⟨[.sc (.b 0)], []⟩, sh := false, cuts := [] }
noncomputable def L_impl_timeOk : Option Nat → Lv → Option Lv := Lim Tryz.prog [] d_impl_timeOk Tryz.f140
theorem e_impl_timeOk_i (a0 : Int) : L_impl_timeOk none [.i a0] =
 cond (decide (0 ≤ a0)) (
  some [.b (decide (a0 ≤ 1000000000))]) (
  some [.b false]) := (Lim_eq _ _).trans (by kernel_rfl)
theorem k_impl_timeOk : SigOk Tryz.prog (d_impl_timeOk.sig (L_impl_timeOk none)) ∧ (d_impl_timeOk.sig (L_impl_timeOk none)).ok = true := sound_lim known_nil (by kernel_rfl) (by kernel_rfl) (by kernel_rfl)
def d_impl_ValidState : FD := { fn := 55, nb := 0, pre := ⟨[.ag [.i .i64 0, .i .i64 1, .i .i64 2, .i .i64 3, .fz 90 false 4, .fz 156 false 5, .fz 158 false 6]], []⟩, post := ⟨[.sc (.b 0)], []⟩, sh := false, cuts := [⟨5, [1, 3, 62, 63, 64], ⟨[.sc (.pt 0 0), .sc (.mp 1), .sc (.fz 90 false 0), .sc (.i .i64 1), .sc (.i .i64 2)], [.bx [.i .i64 3, .i .i64 4, .i .i64 5, .i .i64 6, .fz 90 false 7, .fz 156 false 8, .fz 158 false 9], .mp 3 4 10]⟩⟩, ⟨12, [1, 125, 126, 127], ⟨[.sc (.pt 0 0), .sc (.fz 90 false 0), .sc (.i .i64 1), .sc (.i .i64 2)], [.bx [.i .i64 3, .i .i64 4, .i .i64 5, .i .i64 6, .fz 90 false 7, .fz 156 false 8, .fz 158 false 9]]⟩⟩, ⟨15, [1, 7, 125, 126, 127, 133, 134, 135], ⟨[.sc (.pt 0 0), .sc (.pt 1 0), .sc (.fz 90 false 0), .sc (.i .i64 1), .sc (.i .i64 2), .sc (.fz 9 false 3), .sc (.i .i64 4), .sc (.i .i64 5)], [.bx [.i .i64 6, .i .i64 7, .i .i64 8, .i .i64 9, .fz 90 false 10, .fz 156 false 11, .fz 158 false 12], .bx [.s 13, .i .i64 14, .s 15, .fz 9 false 16]]⟩⟩, ⟨23, [1, 160, 161, 162], ⟨[.sc (.pt 0 0), .sc (.fz 156 false 0), .sc (.i .i64 1), .sc (.i .i64 2)], [.bx [.i .i64 3, .i .i64 4, .i .i64 5, .i .i64 6, .fz 90 false 7, .fz 156 false 8, .fz 158 false 9]]⟩⟩, ⟨30, [1, 199, 200, 201], ⟨[.sc (.pt 0 0), .sc (.fz 158 false 0), .sc (.i .i64 1), .sc (.i .i64 2)], [.bx [.i .i64 3, .i .i64 4, .i .i64 5, .i .i64 6, .fz 90 false 7, .fz 156 false 8, .fz 158 false 9]]⟩⟩] }
noncomputable def L_impl_ValidState : Option Nat → Lv → Option Lv := Lim Tryz.prog [d_impl_widthOk.sig (L_impl_widthOk none), d_impl_thingOk.sig (L_impl_thingOk none), d_impl_nameOk.sig (L_impl_nameOk none), d_impl_Sum.sig (L_impl_Sum none), d_impl_State_thing.sig (L_impl_State_thing none), d_impl_form.sig (L_impl_form none), d_impl_timeOk.sig (L_impl_timeOk none)] d_impl_ValidState Tryz.f55
theorem e_impl_ValidState_i (a0 : Int) (a1 : Int) (a2 : Int) (a3 : Int) (a4 : Rw) (a5 : Rw) (a6 : Rw) : L_impl_ValidState none [.i a0, .i a1, .i a2, .i a3, .l a4, .l a5, .l a6] =
 (L_impl_widthOk none [.i a0]).bind fun y1 =>
 cond (!(g y1 0).bool) (
  some [.b false]) (
  (L_impl_timeOk none [.i a1]).bind fun y2 =>
  cond (!(g y2 0).bool) (
   some [.b false]) (
   (L_impl_timeOk none [.i a2]).bind fun y3 =>
   cond (!(g y3 0).bool) (
    some [.b false]) (
    (L_impl_timeOk none [.i a3]).bind fun y4 =>
    cond (!(g y4 0).bool) (
     some [.b false]) (
     cond (decide (600 < (a4.length : Int))) (
      some [.b false]) (
      cond (decide (100 < (a5.length : Int))) (
       some [.b false]) (
       cond (decide (200 < (a6.length : Int))) (
        some [.b false]) (
        L_impl_ValidState (some 5) [.l a4, .i (a4.length : Int), .i 0, .i a0, .i a1, .i a2, .i a3, .l a4, .l a5, .l a6, .m ([])]))))))) := (Lim_eq _ _).trans (by kernel_rfl)
theorem e_impl_ValidState_5 (a0 : Rw) (a1 : Int) (a2 : Int) (a3 : Int) (a4 : Int) (a5 : Int) (a6 : Int) (a7 : Rw) (a8 : Rw) (a9 : Rw) (a10 : List (C × C)) : L_impl_ValidState (some 5) [.l a0, .i a1, .i a2, .i a3, .i a4, .i a5, .i a6, .l a7, .l a8, .l a9, .m a10] =
 cond (decide (a2 < a1)) (
  cond (inb a2 a0.length) (
   cond (decide (0 < a2)) (
    cond (inb (IntKind.i64.wrap (a2 - 1)) a7.length) (
     cond (!slt ((rd a7 ((IntKind.i64.wrap (a2 - 1)).toNat) 0).str) ((rd a0 a2.toNat 0).str)) (
      some [.b false]) (
      (L_impl_thingOk none [.s ((rd a0 a2.toNat 2).str), .l ((rd a0 a2.toNat 3).list), .i a3]).bind fun y1 =>
      cond (!(g y1 0).bool) (
       some [.b false]) (
       (L_impl_form none [.s ((rd a0 a2.toNat 2).str), .l ((rd a0 a2.toNat 3).list)]).bind fun y2 =>
       (L_impl_Sum none [.s ((g y2 0).str), .i a3]).bind fun y3 =>
       cond (!Eng.seq ((rd a0 a2.toNat 0).str) ((g y3 0).str)) (
        some [.b false]) (
        cond (decide ((rd a0 a2.toNat 1).int < 1)) (
         some [.b false]) (
         cond (decide (a6 < (rd a0 a2.toNat 1).int)) (
          some [.b false]) (
          cond (((mget (.i .i64) (.i ((rd a0 a2.toNat 1).int)) a10).getD (.b false)).bool) (
           some [.b false]) (
           L_impl_ValidState (some 5) [.l a0, .i a1, .i (IntKind.i64.wrap (a2 + 1)), .i a3, .i a4, .i a5, .i a6, .l a7, .l a8, .l a9, .m (mput (.i .i64) (.i ((rd a0 a2.toNat 1).int)) (.b true) a10)]))))))) (
     none)) (
    (L_impl_thingOk none [.s ((rd a0 a2.toNat 2).str), .l ((rd a0 a2.toNat 3).list), .i a3]).bind fun y4 =>
    cond (!(g y4 0).bool) (
     some [.b false]) (
     (L_impl_form none [.s ((rd a0 a2.toNat 2).str), .l ((rd a0 a2.toNat 3).list)]).bind fun y5 =>
     (L_impl_Sum none [.s ((g y5 0).str), .i a3]).bind fun y6 =>
     cond (!Eng.seq ((rd a0 a2.toNat 0).str) ((g y6 0).str)) (
      some [.b false]) (
      cond (decide ((rd a0 a2.toNat 1).int < 1)) (
       some [.b false]) (
       cond (decide (a6 < (rd a0 a2.toNat 1).int)) (
        some [.b false]) (
        cond (((mget (.i .i64) (.i ((rd a0 a2.toNat 1).int)) a10).getD (.b false)).bool) (
         some [.b false]) (
         L_impl_ValidState (some 5) [.l a0, .i a1, .i (IntKind.i64.wrap (a2 + 1)), .i a3, .i a4, .i a5, .i a6, .l a7, .l a8, .l a9, .m (mput (.i .i64) (.i ((rd a0 a2.toNat 1).int)) (.b true) a10)]))))))) (
   none)) (
  L_impl_ValidState (some 12) [.l a7, .i (a7.length : Int), .i 0, .i a3, .i a4, .i a5, .i a6, .l a7, .l a8, .l a9]) := (Lim_eq _ _).trans (by kernel_rfl)
theorem e_impl_ValidState_12 (a0 : Rw) (a1 : Int) (a2 : Int) (a3 : Int) (a4 : Int) (a5 : Int) (a6 : Int) (a7 : Rw) (a8 : Rw) (a9 : Rw) : L_impl_ValidState (some 12) [.l a0, .i a1, .i a2, .i a3, .i a4, .i a5, .i a6, .l a7, .l a8, .l a9] =
 cond (decide (a2 < a1)) (
  cond (inb a2 a0.length) (
   L_impl_ValidState (some 15) [.l a0, .i a1, .i a2, .l ((rd a0 a2.toNat 3).list), .i (((rd a0 a2.toNat 3).list).length : Int), .i 0, .i a3, .i a4, .i a5, .i a6, .l a7, .l a8, .l a9, .s ((rd a0 a2.toNat 0).str), .i ((rd a0 a2.toNat 1).int), .s ((rd a0 a2.toNat 2).str), .l ((rd a0 a2.toNat 3).list)]) (
   none)) (
  L_impl_ValidState (some 23) [.l a8, .i (a8.length : Int), .i 0, .i a3, .i a4, .i a5, .i a6, .l a7, .l a8, .l a9]) := (Lim_eq _ _).trans (by kernel_rfl)
theorem e_impl_ValidState_15 (a0 : Rw) (a1 : Int) (a2 : Int) (a3 : Rw) (a4 : Int) (a5 : Int) (a6 : Int) (a7 : Int) (a8 : Int) (a9 : Int) (a10 : Rw) (a11 : Rw) (a12 : Rw) (a13 : ByteArray) (a14 : Int) (a15 : ByteArray) (a16 : Rw) : L_impl_ValidState (some 15) [.l a0, .i a1, .i a2, .l a3, .i a4, .i a5, .i a6, .i a7, .i a8, .i a9, .l a10, .l a11, .l a12, .s a13, .i a14, .s a15, .l a16] =
 cond (decide (a5 < a4)) (
  cond (inb a5 a3.length) (
   (L_impl_State_thing none [.s ((rd a3 a5.toNat 0).str), .i a6, .i a7, .i a8, .i a9, .l a10, .l a11, .l a12]).bind fun y1 =>
   cond (!(g y1 1).bool) (
    some [.b false]) (
    cond (inb ((g y1 0).int) a10.length) (
     cond (decide (a14 ≤ (rd a10 (((g y1 0).int).toNat) 1).int)) (
      some [.b false]) (
      L_impl_ValidState (some 15) [.l a0, .i a1, .i a2, .l a3, .i a4, .i (IntKind.i64.wrap (a5 + 1)), .i a6, .i a7, .i a8, .i a9, .l a10, .l a11, .l a12, .s a13, .i a14, .s a15, .l a16])) (
     none))) (
   none)) (
  L_impl_ValidState (some 12) [.l a0, .i a1, .i (IntKind.i64.wrap (a2 + 1)), .i a6, .i a7, .i a8, .i a9, .l a10, .l a11, .l a12]) := (Lim_eq _ _).trans (by kernel_rfl)
theorem e_impl_ValidState_23 (a0 : Rw) (a1 : Int) (a2 : Int) (a3 : Int) (a4 : Int) (a5 : Int) (a6 : Int) (a7 : Rw) (a8 : Rw) (a9 : Rw) : L_impl_ValidState (some 23) [.l a0, .i a1, .i a2, .i a3, .i a4, .i a5, .i a6, .l a7, .l a8, .l a9] =
 cond (decide (a2 < a1)) (
  cond (inb a2 a0.length) (
   (L_impl_State_thing none [.s ((rd a0 a2.toNat 1).str), .i a3, .i a4, .i a5, .i a6, .l a7, .l a8, .l a9]).bind fun y1 =>
   cond (!(g y1 1).bool) (
    some [.b false]) (
    (L_impl_nameOk none [.s ((rd a0 a2.toNat 0).str)]).bind fun y2 =>
    cond (!(g y2 0).bool) (
     some [.b false]) (
     cond (decide (0 < a2)) (
      cond (inb (IntKind.i64.wrap (a2 - 1)) a8.length) (
       cond (!slt ((rd a8 ((IntKind.i64.wrap (a2 - 1)).toNat) 0).str) ((rd a0 a2.toNat 0).str)) (
        some [.b false]) (
        L_impl_ValidState (some 23) [.l a0, .i a1, .i (IntKind.i64.wrap (a2 + 1)), .i a3, .i a4, .i a5, .i a6, .l a7, .l a8, .l a9])) (
       none)) (
      L_impl_ValidState (some 23) [.l a0, .i a1, .i (IntKind.i64.wrap (a2 + 1)), .i a3, .i a4, .i a5, .i a6, .l a7, .l a8, .l a9])))) (
   none)) (
  L_impl_ValidState (some 30) [.l a9, .i (a9.length : Int), .i 0, .i a3, .i a4, .i a5, .i a6, .l a7, .l a8, .l a9]) := (Lim_eq _ _).trans (by kernel_rfl)
theorem e_impl_ValidState_30 (a0 : Rw) (a1 : Int) (a2 : Int) (a3 : Int) (a4 : Int) (a5 : Int) (a6 : Int) (a7 : Rw) (a8 : Rw) (a9 : Rw) : L_impl_ValidState (some 30) [.l a0, .i a1, .i a2, .i a3, .i a4, .i a5, .i a6, .l a7, .l a8, .l a9] =
 cond (decide (a2 < a1)) (
  cond (inb a2 a0.length) (
   (L_impl_State_thing none [.s ((rd a0 a2.toNat 1).str), .i a3, .i a4, .i a5, .i a6, .l a7, .l a8, .l a9]).bind fun y1 =>
   cond (!(g y1 1).bool) (
    some [.b false]) (
    cond (decide ((rd a0 a2.toNat 0).int < 1)) (
     some [.b false]) (
     cond (decide (a5 < (rd a0 a2.toNat 0).int)) (
      some [.b false]) (
      cond (decide (0 < a2)) (
       cond (inb (IntKind.i64.wrap (a2 - 1)) a9.length) (
        cond (decide ((rd a0 a2.toNat 0).int ≤ (rd a9 ((IntKind.i64.wrap (a2 - 1)).toNat) 0).int)) (
         some [.b false]) (
         cond (decide ((rd a0 a2.toNat 2).int ≤ a4)) (
          some [.b false]) (
          cond (decide ((IntKind.i64.wrap (a4 + 100000)) < (rd a0 a2.toNat 2).int)) (
           some [.b false]) (
           L_impl_ValidState (some 30) [.l a0, .i a1, .i (IntKind.i64.wrap (a2 + 1)), .i a3, .i a4, .i a5, .i a6, .l a7, .l a8, .l a9])))) (
        none)) (
       cond (decide ((rd a0 a2.toNat 2).int ≤ a4)) (
        some [.b false]) (
        cond (decide ((IntKind.i64.wrap (a4 + 100000)) < (rd a0 a2.toNat 2).int)) (
         some [.b false]) (
         L_impl_ValidState (some 30) [.l a0, .i a1, .i (IntKind.i64.wrap (a2 + 1)), .i a3, .i a4, .i a5, .i a6, .l a7, .l a8, .l a9]))))))) (
   none)) (
  some [.b true]) := (Lim_eq _ _).trans (by kernel_rfl)
theorem k_impl_ValidState : SigOk Tryz.prog (d_impl_ValidState.sig (L_impl_ValidState none)) ∧ (d_impl_ValidState.sig (L_impl_ValidState none)).ok = true := sound_lim (known_cons k_impl_widthOk (by kernel_rfl) (known_cons k_impl_thingOk (by kernel_rfl) (known_cons k_impl_nameOk (by kernel_rfl) (known_cons k_impl_Sum (by kernel_rfl) (known_cons k_impl_State_thing (by kernel_rfl) (known_cons k_impl_form (by kernel_rfl) (known_cons k_impl_timeOk (by kernel_rfl) known_nil))))))) (by kernel_rfl) (by kernel_rfl) (by kernel_rfl)
def d_impl_Apply : FD := { fn := 37, nb := 0, pre := ⟨[.ag [.i .i64 0, .i .i64 1, .i .i64 2, .i .i64 3, .fz 90 false 4, .fz 156 false 5, .fz 158 false 6], .ag [.i .i64 7, .s 8, .s 9, .i .i64 10, .s 11, .fz 9 false 12]], []⟩, post := ⟨[.ag [.i .i64 0, .i .i64 1, .i .i64 2, .i .i64 3, .i .i64 4, .fz 90 false 5, .fz 156 false 6, .fz 158 false 7, .s 8, .i .i64 9, .s 10, .s 11]], []⟩, sh := true, cuts := [] }
noncomputable def L_impl_Apply : Option Nat → Lv → Option Lv := Lim Tryz.prog [d_impl_entryOk.sig (L_impl_entryOk none), d_impl_State_change.sig (L_impl_State_change none), d_impl_copyState.sig (L_impl_copyState none), d_impl_ValidState.sig (L_impl_ValidState none)] d_impl_Apply Tryz.f37
theorem e_impl_Apply_i (a0 : Int) (a1 : Int) (a2 : Int) (a3 : Int) (a4 : Rw) (a5 : Rw) (a6 : Rw) (a7 : Int) (a8 : ByteArray) (a9 : ByteArray) (a10 : Int) (a11 : ByteArray) (a12 : Rw) : L_impl_Apply none [.i a0, .i a1, .i a2, .i a3, .l a4, .l a5, .l a6, .i a7, .s a8, .s a9, .i a10, .s a11, .l a12] =
 (L_impl_ValidState none [.i a0, .i a1, .i a2, .i a3, .l a4, .l a5, .l a6]).bind fun y1 =>
 cond (!(g y1 0).bool) (
  some [.i 1, .i 0, .i 0, .i 0, .i 0, .l ([]), .l ([]), .l ([]), .s (⟨#[]⟩ : ByteArray), .i 0, .s (⟨#[]⟩ : ByteArray), .s (⟨#[]⟩ : ByteArray)]) (
  (L_impl_entryOk none [.i a7, .s a8, .s a9, .i a10, .s a11, .l a12, .i a0]).bind fun y2 =>
  cond (!(g y2 0).bool) (
   some [.i 1, .i 0, .i 0, .i 0, .i 0, .l ([]), .l ([]), .l ([]), .s (⟨#[]⟩ : ByteArray), .i 0, .s (⟨#[]⟩ : ByteArray), .s (⟨#[]⟩ : ByteArray)]) (
   (L_impl_copyState none [.i a0, .i a1, .i a2, .i a3, .l a4, .l a5, .l a6]).bind fun y3 =>
   (L_impl_State_change none [.i a7, .s a8, .s a9, .i a10, .s a11, .l a12, .i ((g y3 0).int), .i ((g y3 1).int), .i ((g y3 2).int), .i ((g y3 3).int), .l ((g y3 4).list), .l ((g y3 5).list), .l ((g y3 6).list)]).bind fun y4 =>
   cond ((g y4 0).int == 0) (
    some [.i ((g y4 0).int), .i ((g y4 12).int), .i ((g y4 13).int), .i ((g y4 14).int), .i ((g y4 15).int), .l ((g y4 16).list), .l ((g y4 17).list), .l ((g y4 18).list), .s ((g y4 8).str), .i ((g y4 9).int), .s ((g y4 10).str), .s ((g y4 11).str)]) (
    some [.i ((g y4 0).int), .i ((g y4 1).int), .i ((g y4 2).int), .i ((g y4 3).int), .i ((g y4 4).int), .l ((g y4 5).list), .l ((g y4 6).list), .l ((g y4 7).list), .s ((g y4 8).str), .i ((g y4 9).int), .s ((g y4 10).str), .s ((g y4 11).str)]))) := (Lim_eq _ _).trans (by kernel_rfl)
theorem k_impl_Apply : SigOk Tryz.prog (d_impl_Apply.sig (L_impl_Apply none)) ∧ (d_impl_Apply.sig (L_impl_Apply none)).ok = true := sound_lim (known_cons k_impl_entryOk (by kernel_rfl) (known_cons k_impl_State_change (by kernel_rfl) (known_cons k_impl_copyState (by kernel_rfl) (known_cons k_impl_ValidState (by kernel_rfl) known_nil)))) (by kernel_rfl) (by kernel_rfl) (by kernel_rfl)
def d_laws_FnReplay : FD := { fn := 5, nb := 0, pre := ⟨[.sc (.fz 5 false 0)], []⟩, post := ⟨[.sc (.b 0)], []⟩, sh := false, cuts := [⟨12, [3, 4, 5, 7, 8], ⟨[.sc (.i .i64 0), .sc (.ow 0), .sc (.pt 1 0), .sc (.pt 2 0), .sc (.i .i64 1)], [.rw 9 true 2, .bx [.i .i64 3, .i .i64 4, .i .i64 5, .i .i64 6, .i .i64 7, .ow 3, .ow 4, .ow 5, .s 8, .i .i64 9, .s 10, .s 11], .bx [.i .i64 12, .i .i64 13, .i .i64 14, .i .i64 15, .fz 90 true 16, .fz 156 true 17, .fz 158 true 18], .rw 90 true 19, .rw 156 true 20, .rw 158 true 21]⟩⟩] }
noncomputable def L_laws_FnReplay : Option Nat → Lv → Option Lv := Lim Tryz.prog [d_impl_ReadEntry.sig (L_impl_ReadEntry none), d_impl_FormEntry.sig (L_impl_FormEntry none), d_spec_Replay.sig (L_spec_Replay none), d_laws_wState.sig (L_laws_wState none), d_spec_DrawReplay.sig (L_spec_DrawReplay none), d_impl_Replay.sig (L_impl_Replay none), d_impl_Apply.sig (L_impl_Apply none)] d_laws_FnReplay Tryz.f5
theorem e_laws_FnReplay_i (a0 : Rw) : L_laws_FnReplay none [.l a0] =
 cond (decide (1048576 < (a0.length : Int))) (
  some [.b true]) (
  (L_spec_DrawReplay none [.l a0]).bind fun y1 =>
  (L_impl_Replay none [.i ((g y1 0).int), .l ((g y1 1).list)]).bind fun y2 =>
  (L_spec_Replay none [.i ((g y1 0).int), .l ((g y1 1).list)]).bind fun y3 =>
  cond ((g y2 0).int != (g y3 0).int) (
   some [.b false]) (
   cond ((g y2 6).int != (g y3 6).int) (
    some [.b false]) (
    (L_laws_wState none [.i ((g y2 1).int), .i ((g y2 2).int), .i ((g y2 3).int), .i ((g y2 4).int), .l ((g y2 9).list), .l ((g y2 10).list), .l ((g y2 11).list), .i ((g y3 1).int), .i ((g y3 2).int), .i ((g y3 3).int), .i ((g y3 4).int), .l ((g y3 9).list), .l ((g y3 10).list), .l ((g y3 11).list)]).bind fun y4 =>
    cond (!(g y4 0).bool) (
     some [.b false]) (
     cond ((g y3 0).int == 1) (
      some [.b true]) (
      L_laws_FnReplay (some 12) [.i ((g y1 0).int), .i 0, .l ((g y1 1).list), .i ((g y2 0).int), .i ((g y2 1).int), .i ((g y2 2).int), .i ((g y2 3).int), .i ((g y2 4).int), .s ((g y2 5).str), .i ((g y2 6).int), .s ((g y2 7).str), .s ((g y2 8).str), .i ((g y1 0).int), .i 0, .i 0, .i 0, .l ([]), .l ([]), .l ([]), .l ((g y2 9).list), .l ((g y2 10).list), .l ((g y2 11).list)]))))) := (Lim_eq _ _).trans (by kernel_rfl)
theorem e_laws_FnReplay_12 (a0 : Int) (a1 : Int) (a2 : Rw) (a3 : Int) (a4 : Int) (a5 : Int) (a6 : Int) (a7 : Int) (a8 : ByteArray) (a9 : Int) (a10 : ByteArray) (a11 : ByteArray) (a12 : Int) (a13 : Int) (a14 : Int) (a15 : Int) (a16 : Rw) (a17 : Rw) (a18 : Rw) (a19 : Rw) (a20 : Rw) (a21 : Rw) : L_laws_FnReplay (some 12) [.i a0, .i a1, .l a2, .i a3, .i a4, .i a5, .i a6, .i a7, .s a8, .i a9, .s a10, .s a11, .i a12, .i a13, .i a14, .i a15, .l a16, .l a17, .l a18, .l a19, .l a20, .l a21] =
 cond (decide (a1 < (a2.length : Int))) (
  cond (inb a1 a2.length) (
   (L_impl_ReadEntry none [.s ((rd a2 a1.toNat 0).str), .i a0]).bind fun y1 =>
   (L_impl_Apply none [.i a12, .i a13, .i a14, .i a15, .l a16, .l a17, .l a18, .i ((g y1 0).int), .s ((g y1 1).str), .s ((g y1 2).str), .i ((g y1 3).int), .s ((g y1 4).str), .l ((g y1 6).list)]).bind fun y2 =>
   cond (!(g y1 5).bool) (
    cond (a3 == 7) (
     some [.b (a9 == (IntKind.i64.wrap (a1 + 1)))]) (
     some [.b false])) (
    cond ((g y2 0).int != 0) (
     cond (a3 == 7) (
      some [.b (a9 == (IntKind.i64.wrap (a1 + 1)))]) (
      some [.b false])) (
     (L_impl_FormEntry none [.i ((g y1 0).int), .s ((g y1 1).str), .s ((g y1 2).str), .i ((g y1 3).int), .s ((g y1 4).str), .l ((g y1 6).list), .i a0]).bind fun y3 =>
     cond (inb a1 a2.length) (
      cond (!Eng.seq ((g y3 0).str) ((rd a2 a1.toNat 0).str)) (
       some [.b false]) (
       L_laws_FnReplay (some 12) [.i a0, .i (IntKind.i64.wrap (a1 + 1)), .l a2, .i a3, .i a4, .i a5, .i a6, .i a7, .s a8, .i a9, .s a10, .s a11, .i ((g y2 1).int), .i ((g y2 2).int), .i ((g y2 3).int), .i ((g y2 4).int), .l ((g y2 5).list), .l ((g y2 6).list), .l ((g y2 7).list), .l a19, .l a20, .l a21])) (
      none)))) (
   none)) (
  cond (a3 == 0) (
   (L_laws_wState none [.i a12, .i a13, .i a14, .i a15, .l a16, .l a17, .l a18, .i a4, .i a5, .i a6, .i a7, .l a19, .l a20, .l a21]).bind fun y4 =>
   some [.b ((g y4 0).bool)]) (
   some [.b false])) := (Lim_eq _ _).trans (by kernel_rfl)
theorem k_laws_FnReplay : SigOk Tryz.prog (d_laws_FnReplay.sig (L_laws_FnReplay none)) ∧ (d_laws_FnReplay.sig (L_laws_FnReplay none)).ok = true := sound_lim (known_cons k_impl_ReadEntry (by kernel_rfl) (known_cons k_impl_FormEntry (by kernel_rfl) (known_cons k_spec_Replay (by kernel_rfl) (known_cons k_laws_wState (by kernel_rfl) (known_cons k_spec_DrawReplay (by kernel_rfl) (known_cons k_impl_Replay (by kernel_rfl) (known_cons k_impl_Apply (by kernel_rfl) known_nil))))))) (by kernel_rfl) (by kernel_rfl) (by kernel_rfl)
end KV
end
