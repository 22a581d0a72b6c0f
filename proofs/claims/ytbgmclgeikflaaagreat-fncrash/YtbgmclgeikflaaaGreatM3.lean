/- Walks of Go functions, printed by a program of ours. -/
import Derived.Test.YtbgmclgeikflaaaGreatProg
import Derived.Test.YtbgmclgeikflaaaGreatM1
import Derived.Test.YtbgmclgeikflaaaGreatM2
set_option linter.unusedSimpArgs false
set_option linter.unusedVariables false
set_option linter.unusedSectionVars false
section
set_option maxRecDepth 100000
namespace KV
open Go Go.Eng Go.Proofs
def d_impl_widthOk : FD := { fn := 111, nb := 0, pre := ⟨[.sc (.i .i64 0)], []⟩, post := ⟨[.sc (.b 0)], []⟩, sh := false, cuts := [] }
noncomputable def L_impl_widthOk : Option Nat → Lv → Option Lv := Lim Tryz.prog [] d_impl_widthOk Tryz.f111
theorem e_impl_widthOk_i (a0 : Int) : L_impl_widthOk none [.i a0] =
 cond (decide (1 ≤ a0)) (
 some [.b (decide (a0 ≤ 8))]) (
 some [.b false]) := (Lim_eq _ _).trans (by kernel_rfl)
theorem k_impl_widthOk : SigOk Tryz.prog (d_impl_widthOk.sig (L_impl_widthOk none)) ∧ (d_impl_widthOk.sig (L_impl_widthOk none)).ok = true := sound_lim known_nil (by kernel_rfl) (by kernel_rfl) (by kernel_rfl)
def d_binary_bigEndian_Uint32 : FD := { fn := 116, nb := 0, pre := ⟨[.ag [], .sc (.fz 5 false 0)], []⟩, post := ⟨[.sc (.i .u32 0)], []⟩, sh := false, cuts := [] }
noncomputable def L_binary_bigEndian_Uint32 : Option Nat → Lv → Option Lv := Lim Tryz.prog [] d_binary_bigEndian_Uint32 Tryz.f116
theorem e_binary_bigEndian_Uint32_i (a0 : Rw) : L_binary_bigEndian_Uint32 none [.l a0] =
 cond (inb 3 a0.length) (
 cond (inb 3 a0.length) (
 cond (inb 2 a0.length) (
 cond (inb 1 a0.length) (
 cond (inb 0 a0.length) (
 some [.i (IntKind.u32.wrap (BitVec.ofInt (IntKind.u32).bits (IntKind.u32.wrap (BitVec.ofInt (IntKind.u32).bits (IntKind.u32.wrap (BitVec.ofInt (IntKind.u32).bits (IntKind.u32.wrap ((rd a0 3 0).int)) ||| BitVec.ofInt (IntKind.u32).bits (IntKind.u32.wrap ((IntKind.u32.wrap ((rd a0 2 0).int)) * 2 ^ 8))).toNat) ||| BitVec.ofInt (IntKind.u32).bits (IntKind.u32.wrap ((IntKind.u32.wrap ((rd a0 1 0).int)) * 2 ^ 16))).toNat) ||| BitVec.ofInt (IntKind.u32).bits (IntKind.u32.wrap ((IntKind.u32.wrap ((rd a0 0 0).int)) * 2 ^ 24))).toNat)]) (
 none)) (
 none)) (
 none)) (
 none)) (
 none) := (Lim_eq _ _).trans (by kernel_rfl)
theorem k_binary_bigEndian_Uint32 : SigOk Tryz.prog (d_binary_bigEndian_Uint32.sig (L_binary_bigEndian_Uint32 none)) ∧ (d_binary_bigEndian_Uint32.sig (L_binary_bigEndian_Uint32 none)).ok = true := sound_lim known_nil (by kernel_rfl) (by kernel_rfl) (by kernel_rfl)
def d_impl_thingOk : FD := { fn := 141, nb := 0, pre := ⟨[.ag [.s 0, .fz 9 false 1], .sc (.i .i64 2)], []⟩, post := ⟨[.sc (.b 0)], []⟩, sh := false, cuts := [⟨4, [1, 2, 18, 19, 20], ⟨[.sc (.i .i64 0), .sc (.pt 0 0), .sc (.fz 9 false 1), .sc (.i .i64 2), .sc (.i .i64 3)], [.bx [.s 4, .fz 9 false 5]]⟩⟩] }
noncomputable def L_impl_thingOk : Option Nat → Lv → Option Lv := Lim Tryz.prog [d_impl_widthOk.sig (L_impl_widthOk none)] d_impl_thingOk Tryz.f141
theorem e_impl_thingOk_i (a0 : ByteArray) (a1 : Rw) (a2 : Int) : L_impl_thingOk none [.s a0, .l a1, .i a2] =
 cond (decide (2000 < (a0.size : Int))) (
 some [.b false]) (
 cond (decide (30 < (a1.length : Int))) (
 some [.b false]) (
 L_impl_thingOk (some 4) [.i a2, .l a1, .i (a1.length : Int), .i 0, .s a0, .l a1])) := (Lim_eq _ _).trans (by kernel_rfl)
theorem e_impl_thingOk_4 (a0 : Int) (a1 : Rw) (a2 : Int) (a3 : Int) (a4 : ByteArray) (a5 : Rw) : L_impl_thingOk (some 4) [.i a0, .l a1, .i a2, .i a3, .s a4, .l a5] =
 cond (decide (a3 < a2)) (
 cond (inb a3 a1.length) (
 cond ((((rd a1 a3.toNat 0).str).size : Int) != a0) (
 some [.b false]) (
 cond (decide (0 < a3)) (
 cond (inb (IntKind.i64.wrap (a3 - 1)) a5.length) (
 cond (!slt ((rd a5 ((IntKind.i64.wrap (a3 - 1)).toNat) 0).str) ((rd a1 a3.toNat 0).str)) (
 some [.b false]) (
 L_impl_thingOk (some 4) [.i a0, .l a1, .i a2, .i (IntKind.i64.wrap (a3 + 1)), .s a4, .l a5])) (
 none)) (
 L_impl_thingOk (some 4) [.i a0, .l a1, .i a2, .i (IntKind.i64.wrap (a3 + 1)), .s a4, .l a5]))) (
 none)) (
 (L_impl_widthOk none [.i a0]).bind fun y1 =>
 some [.b ((g y1 0).bool)]) := (Lim_eq _ _).trans (by kernel_rfl)
theorem k_impl_thingOk : SigOk Tryz.prog (d_impl_thingOk.sig (L_impl_thingOk none)) ∧ (d_impl_thingOk.sig (L_impl_thingOk none)).ok = true := sound_lim (known_cons k_impl_widthOk (by kernel_rfl) known_nil) (by kernel_rfl) (by kernel_rfl) (by kernel_rfl)
def d_impl_ReadThing : FD := { fn := 117, nb := 0, pre := ⟨[.sc (.s 0), .sc (.i .i64 1)], []⟩, post := ⟨[.tu [(true, [.s 0, .ow 0]), (false, [.b 1])]], [.rw 9 true 2]⟩, sh := false, cuts := [⟨6, [0, 1, 4, 6, 7], ⟨[.sc (.s 0), .sc (.i .i64 1), .sc (.pt 0 0), .sc (.pt 1 0), .sc (.i .i64 2)], [.bx [.s 3, .ow 2], .bx [.s 4, .ow 3], .rw 9 true 5, .rw 9 true 6]⟩⟩] }
noncomputable def L_impl_ReadThing : Option Nat → Lv → Option Lv := Lim Tryz.prog [d_impl_widthOk.sig (L_impl_widthOk none), d_impl_thingOk.sig (L_impl_thingOk none)] d_impl_ReadThing Tryz.f117
theorem e_impl_ReadThing_i (a0 : ByteArray) (a1 : Int) : L_impl_ReadThing none [.s a0, .i a1] =
 (L_impl_widthOk none [.i a1]).bind fun y1 =>
 cond (!(g y1 0).bool) (
 some [.s (⟨#[]⟩ : ByteArray), .b false, .l []]) (
 cond (Eng.seq a0 (⟨#[]⟩ : ByteArray)) (
 some [.s (⟨#[]⟩ : ByteArray), .b false, .l []]) (
 cond (inb 0 a0.size) (
 cond (decide ((a0.size : Int) < (IntKind.i64.wrap (1 + (IntKind.i64.wrap ((IntKind.i64.wrap (byteAt a0 0)) * a1)))))) (
 some [.s (⟨#[]⟩ : ByteArray), .b false, .l []]) (
 cond (inb 0 a0.size) (
 cond (decide (1 ≤ (a0.size : Int))) (
 L_impl_ReadThing (some 6) [.s (a0.extract 1 a0.size), .i a1, .i (IntKind.i64.wrap (byteAt a0 0)), .s (⟨#[]⟩ : ByteArray), .s (⟨#[]⟩ : ByteArray), .l [], .l []]) (
 none)) (
 none))) (
 none))) := (Lim_eq _ _).trans (by kernel_rfl)
theorem e_impl_ReadThing_6 (a0 : ByteArray) (a1 : Int) (a2 : Int) (a3 : ByteArray) (a4 : ByteArray) (a5 : Rw) (a6 : Rw) : L_impl_ReadThing (some 6) [.s a0, .i a1, .i a2, .s a3, .s a4, .l a5, .l a6] =
 cond (decide (0 < a2)) (
 cond (decide (0 ≤ a1)) (
 cond (decide (a1 ≤ (a0.size : Int))) (
 cond (decide (a6.length + ([[.s (a0.extract 0 a1.toNat)]] : Rw).length ≤ most)) (
 cond (decide (0 ≤ a1)) (
 cond (decide (a1 ≤ (a0.size : Int))) (
 L_impl_ReadThing (some 6) [.s (a0.extract a1.toNat a0.size), .i a1, .i (IntKind.i64.wrap (a2 - 1)), .s a3, .s a4, .l a5, .l (a6 ++ ([[.s (a0.extract 0 a1.toNat)]] : Rw))]) (
 none)) (
 none)) (
 none)) (
 none)) (
 none)) (
 (L_impl_thingOk none [.s a0, .l a6, .i a1]).bind fun y1 =>
 cond (!(g y1 0).bool) (
 some [.s (⟨#[]⟩ : ByteArray), .b false, .l []]) (
 some [.s a0, .b true, .l a6])) := (Lim_eq _ _).trans (by kernel_rfl)
theorem k_impl_ReadThing : SigOk Tryz.prog (d_impl_ReadThing.sig (L_impl_ReadThing none)) ∧ (d_impl_ReadThing.sig (L_impl_ReadThing none)).ok = true := sound_lim (known_cons k_impl_widthOk (by kernel_rfl) (known_cons k_impl_thingOk (by kernel_rfl) known_nil)) (by kernel_rfl) (by kernel_rfl) (by kernel_rfl)
def d_impl_nameOk : FD := { fn := 142, nb := 0, pre := ⟨[.sc (.s 0)], []⟩, post := ⟨[.sc (.b 0)], []⟩, sh := false, cuts := [⟨2, [0, 5, 6], ⟨[.sc (.s 0), .sc (.i .i64 1), .sc (.i .i64 2)], []⟩⟩] }
noncomputable def L_impl_nameOk : Option Nat → Lv → Option Lv := Lim Tryz.prog [] d_impl_nameOk Tryz.f142
theorem e_impl_nameOk_i (a0 : ByteArray) : L_impl_nameOk none [.s a0] =
 L_impl_nameOk (some 2) [.s a0, .i (a0.size : Int), .i 0] := (Lim_eq _ _).trans (by kernel_rfl)
theorem e_impl_nameOk_2 (a0 : ByteArray) (a1 : Int) (a2 : Int) : L_impl_nameOk (some 2) [.s a0, .i a1, .i a2] =
 cond (decide (a2 < a1)) (
 cond (inb a2 a0.size) (
 cond (decide ((byteAt a0 a2.toNat) < 33)) (
 some [.b false]) (
 cond (inb a2 a0.size) (
 cond (decide (126 < (byteAt a0 a2.toNat))) (
 some [.b false]) (
 L_impl_nameOk (some 2) [.s a0, .i a1, .i (IntKind.i64.wrap (a2 + 1))])) (
 none))) (
 none)) (
 cond (decide (1 ≤ (a0.size : Int))) (
 some [.b (decide ((a0.size : Int) ≤ 40))]) (
 some [.b false])) := (Lim_eq _ _).trans (by kernel_rfl)
theorem k_impl_nameOk : SigOk Tryz.prog (d_impl_nameOk.sig (L_impl_nameOk none)) ∧ (d_impl_nameOk.sig (L_impl_nameOk none)).ok = true := sound_lim known_nil (by kernel_rfl) (by kernel_rfl) (by kernel_rfl)
def d_impl_usesSum : FD := { fn := 184, nb := 0, pre := ⟨[.sc (.i .i64 0)], []⟩, post := ⟨[.sc (.b 0)], []⟩, sh := false, cuts := [] }
noncomputable def L_impl_usesSum : Option Nat → Lv → Option Lv := Lim Tryz.prog [] d_impl_usesSum Tryz.f184
theorem e_impl_usesSum_i (a0 : Int) : L_impl_usesSum none [.i a0] =
 cond (a0 == 2) (
 some [.b true]) (
 cond (a0 == 4) (
 some [.b true]) (
 some [.b (a0 == 7)])) := (Lim_eq _ _).trans (by kernel_rfl)
theorem k_impl_usesSum : SigOk Tryz.prog (d_impl_usesSum.sig (L_impl_usesSum none)) ∧ (d_impl_usesSum.sig (L_impl_usesSum none)).ok = true := sound_lim known_nil (by kernel_rfl) (by kernel_rfl) (by kernel_rfl)
def d_impl_usesName : FD := { fn := 185, nb := 0, pre := ⟨[.sc (.i .i64 0)], []⟩, post := ⟨[.sc (.b 0)], []⟩, sh := false, cuts := [] }
noncomputable def L_impl_usesName : Option Nat → Lv → Option Lv := Lim Tryz.prog [] d_impl_usesName Tryz.f185
theorem e_impl_usesName_i (a0 : Int) : L_impl_usesName none [.i a0] =
 cond (a0 == 2) (
 some [.b true]) (
 some [.b (a0 == 3)]) := (Lim_eq _ _).trans (by kernel_rfl)
theorem k_impl_usesName : SigOk Tryz.prog (d_impl_usesName.sig (L_impl_usesName none)) ∧ (d_impl_usesName.sig (L_impl_usesName none)).ok = true := sound_lim known_nil (by kernel_rfl) (by kernel_rfl) (by kernel_rfl)
def d_impl_entryOk : FD := { fn := 118, nb := 0, pre := ⟨[.ag [.i .i64 0, .s 1, .s 2, .i .i64 3, .s 4, .fz 9 false 5], .sc (.i .i64 6)], []⟩, post := ⟨[.sc (.b 0)], []⟩, sh := false, cuts := [⟨5, [1, 2], ⟨[.sc (.i .i64 0), .sc (.pt 0 0)], [.bx [.i .i64 1, .s 2, .s 3, .i .i64 4, .s 5, .fz 9 false 6]]⟩⟩, ⟨7, [1, 2], ⟨[.sc (.i .i64 0), .sc (.pt 0 0)], [.bx [.i .i64 1, .s 2, .s 3, .i .i64 4, .s 5, .fz 9 false 6]]⟩⟩, ⟨13, [1, 2, 5, 6, 62], ⟨[.sc (.i .i64 0), .sc (.pt 0 0), .sc (.i .i64 1), .sc (.i .i64 2), .sc (.i .i64 3)], [.bx [.i .i64 4, .s 5, .s 6, .i .i64 7, .s 8, .fz 9 false 9]]⟩⟩, ⟨15, [1, 2, 5, 6], ⟨[.sc (.i .i64 0), .sc (.pt 0 0), .sc (.i .i64 1), .sc (.i .i64 2)], [.bx [.i .i64 3, .s 4, .s 5, .i .i64 6, .s 7, .fz 9 false 8]]⟩⟩] }
noncomputable def L_impl_entryOk : Option Nat → Lv → Option Lv := Lim Tryz.prog [d_impl_widthOk.sig (L_impl_widthOk none), d_impl_thingOk.sig (L_impl_thingOk none), d_impl_nameOk.sig (L_impl_nameOk none), d_impl_usesSum.sig (L_impl_usesSum none), d_impl_usesName.sig (L_impl_usesName none)] d_impl_entryOk Tryz.f118
theorem e_impl_entryOk_i (a0 : Int) (a1 : ByteArray) (a2 : ByteArray) (a3 : Int) (a4 : ByteArray) (a5 : Rw) (a6 : Int) : L_impl_entryOk none [.i a0, .s a1, .s a2, .i a3, .s a4, .l a5, .i a6] =
 cond (decide (a0 < 1)) (
 some [.b false]) (
 cond (decide (7 < a0)) (
 some [.b false]) (
 (L_impl_widthOk none [.i a6]).bind fun y1 =>
 cond (!(g y1 0).bool) (
 some [.b false]) (
 (L_impl_usesSum none [.i a0]).bind fun y2 =>
 cond ((g y2 0).bool) (
 cond ((a1.size : Int) != a6) (
 some [.b false]) (
 (L_impl_usesSum none [.i a0]).bind fun y3 =>
 cond (!(g y3 0).bool) (
 cond (!Eng.seq a1 (⟨#[]⟩ : ByteArray)) (
 some [.b false]) (
 L_impl_entryOk (some 5) [.i a6, .i a0, .s a1, .s a2, .i a3, .s a4, .l a5])) (
 L_impl_entryOk (some 5) [.i a6, .i a0, .s a1, .s a2, .i a3, .s a4, .l a5]))) (
 (L_impl_usesSum none [.i a0]).bind fun y4 =>
 cond (!(g y4 0).bool) (
 cond (!Eng.seq a1 (⟨#[]⟩ : ByteArray)) (
 some [.b false]) (
 L_impl_entryOk (some 5) [.i a6, .i a0, .s a1, .s a2, .i a3, .s a4, .l a5])) (
 L_impl_entryOk (some 5) [.i a6, .i a0, .s a1, .s a2, .i a3, .s a4, .l a5]))))) := (Lim_eq _ _).trans (by kernel_rfl)
theorem e_impl_entryOk_5 (a0 : Int) (a1 : Int) (a2 : ByteArray) (a3 : ByteArray) (a4 : Int) (a5 : ByteArray) (a6 : Rw) : L_impl_entryOk (some 5) [.i a0, .i a1, .s a2, .s a3, .i a4, .s a5, .l a6] =
 (L_impl_usesName none [.i a1]).bind fun y1 =>
 cond ((g y1 0).bool) (
 (L_impl_nameOk none [.s a3]).bind fun y2 =>
 cond (!(g y2 0).bool) (
 some [.b false]) (
 (L_impl_usesName none [.i a1]).bind fun y3 =>
 cond (!(g y3 0).bool) (
 cond (!Eng.seq a3 (⟨#[]⟩ : ByteArray)) (
 some [.b false]) (
 L_impl_entryOk (some 7) [.i a0, .i a1, .s a2, .s a3, .i a4, .s a5, .l a6])) (
 L_impl_entryOk (some 7) [.i a0, .i a1, .s a2, .s a3, .i a4, .s a5, .l a6]))) (
 (L_impl_usesName none [.i a1]).bind fun y4 =>
 cond (!(g y4 0).bool) (
 cond (!Eng.seq a3 (⟨#[]⟩ : ByteArray)) (
 some [.b false]) (
 L_impl_entryOk (some 7) [.i a0, .i a1, .s a2, .s a3, .i a4, .s a5, .l a6])) (
 L_impl_entryOk (some 7) [.i a0, .i a1, .s a2, .s a3, .i a4, .s a5, .l a6])) := (Lim_eq _ _).trans (by kernel_rfl)
theorem e_impl_entryOk_7 (a0 : Int) (a1 : Int) (a2 : ByteArray) (a3 : ByteArray) (a4 : Int) (a5 : ByteArray) (a6 : Rw) : L_impl_entryOk (some 7) [.i a0, .i a1, .s a2, .s a3, .i a4, .s a5, .l a6] =
 cond (a1 == 1) (
 cond (a1 == 1) (
 L_impl_entryOk (some 15) [.i a0, .i 1, .i 100000, .i a1, .s a2, .s a3, .i a4, .s a5, .l a6]) (
 L_impl_entryOk (some 13) [.i a0, .i 0, .i 0, .i a1, .i a1, .s a2, .s a3, .i a4, .s a5, .l a6])) (
 cond (a1 == 4) (
 cond (a1 == 4) (
 L_impl_entryOk (some 15) [.i a0, .i 1, .i 100000, .i a1, .s a2, .s a3, .i a4, .s a5, .l a6]) (
 L_impl_entryOk (some 13) [.i a0, .i 0, .i 0, .i a1, .i a1, .s a2, .s a3, .i a4, .s a5, .l a6])) (
 cond (a1 == 6) (
 L_impl_entryOk (some 15) [.i a0, .i 1, .i 100000, .i a1, .s a2, .s a3, .i a4, .s a5, .l a6]) (
 L_impl_entryOk (some 13) [.i a0, .i 0, .i 0, .i a1, .i a1, .s a2, .s a3, .i a4, .s a5, .l a6]))) := (Lim_eq _ _).trans (by kernel_rfl)
theorem e_impl_entryOk_13 (a0 : Int) (a1 : Int) (a2 : Int) (a3 : Int) (a4 : Int) (a5 : ByteArray) (a6 : ByteArray) (a7 : Int) (a8 : ByteArray) (a9 : Rw) : L_impl_entryOk (some 13) [.i a0, .i a1, .i a2, .i a3, .i a4, .s a5, .s a6, .i a7, .s a8, .l a9] =
 cond (a3 == 5) (
 L_impl_entryOk (some 15) [.i a0, .i 1, .i 1000000000, .i a4, .s a5, .s a6, .i a7, .s a8, .l a9]) (
 L_impl_entryOk (some 15) [.i a0, .i a1, .i a2, .i a4, .s a5, .s a6, .i a7, .s a8, .l a9]) := (Lim_eq _ _).trans (by kernel_rfl)
theorem e_impl_entryOk_15 (a0 : Int) (a1 : Int) (a2 : Int) (a3 : Int) (a4 : ByteArray) (a5 : ByteArray) (a6 : Int) (a7 : ByteArray) (a8 : Rw) : L_impl_entryOk (some 15) [.i a0, .i a1, .i a2, .i a3, .s a4, .s a5, .i a6, .s a7, .l a8] =
 cond (decide (a6 < a1)) (
 some [.b false]) (
 cond (decide (a2 < a6)) (
 some [.b false]) (
 cond (a3 == 1) (
 (L_impl_thingOk none [.s a7, .l a8, .i a0]).bind fun y1 =>
 some [.b ((g y1 0).bool)]) (
 cond (Eng.seq a7 (⟨#[]⟩ : ByteArray)) (
 some [.b ((a8.length : Int) == 0)]) (
 some [.b false])))) := (Lim_eq _ _).trans (by kernel_rfl)
theorem k_impl_entryOk : SigOk Tryz.prog (d_impl_entryOk.sig (L_impl_entryOk none)) ∧ (d_impl_entryOk.sig (L_impl_entryOk none)).ok = true := sound_lim (known_cons k_impl_widthOk (by kernel_rfl) (known_cons k_impl_thingOk (by kernel_rfl) (known_cons k_impl_nameOk (by kernel_rfl) (known_cons k_impl_usesSum (by kernel_rfl) (known_cons k_impl_usesName (by kernel_rfl) known_nil))))) (by kernel_rfl) (by kernel_rfl) (by kernel_rfl)
def d_impl_ReadEntry : FD := { fn := 36, nb := 0, pre := ⟨[.sc (.s 0), .sc (.i .i64 1)], []⟩, post := ⟨[.tu [(true, [.i .i64 0, .s 1, .s 2, .i .i64 3, .s 4, .ow 0]), (false, [.b 5])]], [.rw 9 true 6]⟩, sh := false, cuts := [] }
noncomputable def L_impl_ReadEntry : Option Nat → Lv → Option Lv := Lim Tryz.prog [d_impl_widthOk.sig (L_impl_widthOk none), d_binary_bigEndian_Uint32.sig (L_binary_bigEndian_Uint32 none), d_impl_ReadThing.sig (L_impl_ReadThing none), d_impl_entryOk.sig (L_impl_entryOk none)] d_impl_ReadEntry Tryz.f36
theorem e_impl_ReadEntry_i (a0 : ByteArray) (a1 : Int) : L_impl_ReadEntry none [.s a0, .i a1] =
 cond (decide ((a0.size : Int) < 6)) (
 some [.i 0, .s (⟨#[]⟩ : ByteArray), .s (⟨#[]⟩ : ByteArray), .i 0, .s (⟨#[]⟩ : ByteArray), .b false, .l []]) (
 (L_impl_widthOk none [.i a1]).bind fun y1 =>
 cond (!(g y1 0).bool) (
 some [.i 0, .s (⟨#[]⟩ : ByteArray), .s (⟨#[]⟩ : ByteArray), .i 0, .s (⟨#[]⟩ : ByteArray), .b false, .l []]) (
 cond (inb 5 a0.size) (
 cond (inb 0 a0.size) (
 cond (decide (5 ≤ (a0.size : Int))) (
 (L_binary_bigEndian_Uint32 none [.l (rowsOf (a0.extract 1 5))]).bind fun y2 =>
 cond (decide (6 ≤ (a0.size : Int))) (
 cond (decide (((a0.extract 6 a0.size).size : Int) < (IntKind.i64.wrap (byteAt a0 5)))) (
 some [.i 0, .s (⟨#[]⟩ : ByteArray), .s (⟨#[]⟩ : ByteArray), .i 0, .s (⟨#[]⟩ : ByteArray), .b false, .l []]) (
 cond (decide (0 ≤ (IntKind.i64.wrap (byteAt a0 5)))) (
 cond (decide ((IntKind.i64.wrap (byteAt a0 5)) ≤ ((a0.extract 6 a0.size).size : Int))) (
 cond (decide (0 ≤ (IntKind.i64.wrap (byteAt a0 5)))) (
 cond (decide ((IntKind.i64.wrap (byteAt a0 5)) ≤ ((a0.extract 6 a0.size).size : Int))) (
 cond ((IntKind.i64.wrap (byteAt a0 0)) == 1) (
 (L_impl_ReadThing none [.s ((a0.extract 6 a0.size).extract ((IntKind.i64.wrap (byteAt a0 5)).toNat) ((a0.extract 6 a0.size).size)), .i a1]).bind fun y3 =>
 cond (!(g y3 1).bool) (
 some [.i 0, .s (⟨#[]⟩ : ByteArray), .s (⟨#[]⟩ : ByteArray), .i 0, .s (⟨#[]⟩ : ByteArray), .b false, .l []]) (
 (L_impl_entryOk none [.i (IntKind.i64.wrap (byteAt a0 0)), .s (⟨#[]⟩ : ByteArray), .s ((a0.extract 6 a0.size).extract 0 ((IntKind.i64.wrap (byteAt a0 5)).toNat)), .i (IntKind.i64.wrap ((g y2 0).int)), .s ((g y3 0).str), .l ((g y3 2).list), .i a1]).bind fun y4 =>
 cond (!(g y4 0).bool) (
 some [.i 0, .s (⟨#[]⟩ : ByteArray), .s (⟨#[]⟩ : ByteArray), .i 0, .s (⟨#[]⟩ : ByteArray), .b false, .l []]) (
 some [.i (IntKind.i64.wrap (byteAt a0 0)), .s (⟨#[]⟩ : ByteArray), .s ((a0.extract 6 a0.size).extract 0 ((IntKind.i64.wrap (byteAt a0 5)).toNat)), .i (IntKind.i64.wrap ((g y2 0).int)), .s ((g y3 0).str), .b true, .l ((g y3 2).list)]))) (
 (L_impl_entryOk none [.i (IntKind.i64.wrap (byteAt a0 0)), .s ((a0.extract 6 a0.size).extract ((IntKind.i64.wrap (byteAt a0 5)).toNat) ((a0.extract 6 a0.size).size)), .s ((a0.extract 6 a0.size).extract 0 ((IntKind.i64.wrap (byteAt a0 5)).toNat)), .i (IntKind.i64.wrap ((g y2 0).int)), .s (⟨#[]⟩ : ByteArray), .l ([]), .i a1]).bind fun y5 =>
 cond (!(g y5 0).bool) (
 some [.i 0, .s (⟨#[]⟩ : ByteArray), .s (⟨#[]⟩ : ByteArray), .i 0, .s (⟨#[]⟩ : ByteArray), .b false, .l []]) (
 some [.i (IntKind.i64.wrap (byteAt a0 0)), .s ((a0.extract 6 a0.size).extract ((IntKind.i64.wrap (byteAt a0 5)).toNat) ((a0.extract 6 a0.size).size)), .s ((a0.extract 6 a0.size).extract 0 ((IntKind.i64.wrap (byteAt a0 5)).toNat)), .i (IntKind.i64.wrap ((g y2 0).int)), .s (⟨#[]⟩ : ByteArray), .b true, .l []]))) (
 none)) (
 none)) (
 none)) (
 none))) (
 none)) (
 none)) (
 none)) (
 none))) := (Lim_eq _ _).trans (by kernel_rfl)
theorem k_impl_ReadEntry : SigOk Tryz.prog (d_impl_ReadEntry.sig (L_impl_ReadEntry none)) ∧ (d_impl_ReadEntry.sig (L_impl_ReadEntry none)).ok = true := sound_lim (known_cons k_impl_widthOk (by kernel_rfl) (known_cons k_binary_bigEndian_Uint32 (by kernel_rfl) (known_cons k_impl_ReadThing (by kernel_rfl) (known_cons k_impl_entryOk (by kernel_rfl) known_nil)))) (by kernel_rfl) (by kernel_rfl) (by kernel_rfl)
def d_impl_Sum : FD := { fn := 71, nb := 0, pre := ⟨[.sc (.s 0), .sc (.i .i64 1)], []⟩, post := ⟨[.sc (.s 0)], []⟩, sh := false, cuts := [⟨5, [0, 1, 5, 13, 14], ⟨[.sc (.s 0), .sc (.i .i64 1), .sc (.i .u64 2), .sc (.i .i64 3), .sc (.i .i64 4)], []⟩⟩, ⟨12, [5, 7, 8], ⟨[.sc (.i .u64 0), .sc (.ow 0), .sc (.i .i64 1)], [.rw 5 true 2]⟩⟩] }
noncomputable def L_impl_Sum : Option Nat → Lv → Option Lv := Lim Tryz.prog [d_impl_widthOk.sig (L_impl_widthOk none)] d_impl_Sum Tryz.f71
theorem e_impl_Sum_i (a0 : ByteArray) (a1 : Int) : L_impl_Sum none [.s a0, .i a1] =
 (L_impl_widthOk none [.i a1]).bind fun y1 =>
 cond (!(g y1 0).bool) (
 some [.s (⟨#[]⟩ : ByteArray)]) (
 L_impl_Sum (some 5) [.s a0, .i a1, .i 14695981039346656037, .i (a0.size : Int), .i 0]) := (Lim_eq _ _).trans (by kernel_rfl)
theorem e_impl_Sum_5 (a0 : ByteArray) (a1 : Int) (a2 : Int) (a3 : Int) (a4 : Int) : L_impl_Sum (some 5) [.s a0, .i a1, .i a2, .i a3, .i a4] =
 cond (decide (a4 < a3)) (
 cond (inb a4 a0.size) (
 L_impl_Sum (some 5) [.s a0, .i a1, .i (IntKind.u64.wrap ((IntKind.u64.wrap (BitVec.ofInt (IntKind.u64).bits a2 ^^^ BitVec.ofInt (IntKind.u64).bits (IntKind.u64.wrap (byteAt a0 a4.toNat))).toNat) * 1099511628211)), .i a3, .i (IntKind.i64.wrap (a4 + 1))]) (
 none)) (
 cond (decide (0 ≤ a1)) (
 cond (a1 == a1) (
 cond (decide (a1 ≤ (most : Int))) (
 L_impl_Sum (some 12) [.i a2, .i (IntKind.i64.wrap (a1 - 1)), .l (List.replicate a1.toNat ([.i 0] : List C))]) (
 none)) (
 none)) (
 none)) := (Lim_eq _ _).trans (by kernel_rfl)
theorem e_impl_Sum_12 (a0 : Int) (a1 : Int) (a2 : Rw) : L_impl_Sum (some 12) [.i a0, .i a1, .l a2] =
 cond (decide (0 ≤ a1)) (
 cond (inb a1 a2.length) (
 L_impl_Sum (some 12) [.i (a0.fdiv (2 ^ 8)), .i (IntKind.i64.wrap (a1 - 1)), .l (wrs a2 a1.toNat 0 ([.i (IntKind.u8.wrap a0)] : List C))]) (
 none)) (
 some [.s (bytesOf a2)]) := (Lim_eq _ _).trans (by kernel_rfl)
theorem k_impl_Sum : SigOk Tryz.prog (d_impl_Sum.sig (L_impl_Sum none)) ∧ (d_impl_Sum.sig (L_impl_Sum none)).ok = true := sound_lim (known_cons k_impl_widthOk (by kernel_rfl) known_nil) (by kernel_rfl) (by kernel_rfl) (by kernel_rfl)
def d_impl_State_thing_1 : FD := { fn := 160, nb := 0, pre := ⟨[.sc (.i .i64 0), .sc (.pt 0 0), .sc (.pt 2 0)], [.rb [.pt 1 0], .rb [.i .i64 1, .i .i64 2, .i .i64 3, .i .i64 4, .fz 90 false 5, .fz 156 false 6, .fz 158 false 7], .rb [.s 8]]⟩, post := ⟨[.sc (.b 0)], []⟩, sh := false, cuts := [] }
noncomputable def L_impl_State_thing_1 : Option Nat → Lv → Option Lv := Lim Tryz.prog [] d_impl_State_thing_1 Tryz.f160
theorem e_impl_State_thing_1_i (a0 : Int) (a1 : Int) (a2 : Int) (a3 : Int) (a4 : Int) (a5 : Rw) (a6 : Rw) (a7 : Rw) (a8 : ByteArray) : L_impl_State_thing_1 none [.i a0, .i a1, .i a2, .i a3, .i a4, .l a5, .l a6, .l a7, .s a8] =
 cond (inb a0 a5.length) (
 some [.b (!slt ((rd a5 a0.toNat 0).str) a8)]) (
 none) := (Lim_eq _ _).trans (by kernel_rfl)
theorem k_impl_State_thing_1 : SigOk Tryz.prog (d_impl_State_thing_1.sig (L_impl_State_thing_1 none)) ∧ (d_impl_State_thing_1.sig (L_impl_State_thing_1 none)).ok = true := sound_lim known_nil (by kernel_rfl) (by kernel_rfl) (by kernel_rfl)
def d_sort_Search__impl_State_thing_1 : FD := { fn := 159, nb := 0, pre := ⟨[.sc (.i .i64 0), .sc (.fn 160 [(0, 0), (2, 0)])], [.rb [.pt 1 0], .rb [.i .i64 1, .i .i64 2, .i .i64 3, .i .i64 4, .fz 90 false 5, .fz 156 false 6, .fz 158 false 7], .rb [.s 8]]⟩, post := ⟨[.sc (.i .i64 0)], []⟩, sh := false, cuts := [⟨2, [1, 5, 6], ⟨[.sc (.fn 160 [(0, 0), (1, 0)]), .sc (.i .i64 0), .sc (.i .i64 1)], [.rb [.pt 2 0], .rb [.s 2], .rb [.i .i64 3, .i .i64 4, .i .i64 5, .i .i64 6, .fz 90 false 7, .fz 156 false 8, .fz 158 false 9]]⟩⟩] }
noncomputable def L_sort_Search__impl_State_thing_1 : Option Nat → Lv → Option Lv := Lim Tryz.prog [d_impl_State_thing_1.sig (L_impl_State_thing_1 none)] d_sort_Search__impl_State_thing_1 Tryz.f159
theorem e_sort_Search__impl_State_thing_1_i (a0 : Int) (a1 : Int) (a2 : Int) (a3 : Int) (a4 : Int) (a5 : Rw) (a6 : Rw) (a7 : Rw) (a8 : ByteArray) : L_sort_Search__impl_State_thing_1 none [.i a0, .i a1, .i a2, .i a3, .i a4, .l a5, .l a6, .l a7, .s a8] =
 L_sort_Search__impl_State_thing_1 (some 2) [.i 0, .i a0, .s a8, .i a1, .i a2, .i a3, .i a4, .l a5, .l a6, .l a7] := (Lim_eq _ _).trans (by kernel_rfl)
theorem e_sort_Search__impl_State_thing_1_2 (a0 : Int) (a1 : Int) (a2 : ByteArray) (a3 : Int) (a4 : Int) (a5 : Int) (a6 : Int) (a7 : Rw) (a8 : Rw) (a9 : Rw) : L_sort_Search__impl_State_thing_1 (some 2) [.i a0, .i a1, .s a2, .i a3, .i a4, .i a5, .i a6, .l a7, .l a8, .l a9] =
 cond (decide (a0 < a1)) (
 (L_impl_State_thing_1 none [.i (IntKind.i64.wrap ((IntKind.u64.wrap (IntKind.i64.wrap (a0 + a1))).fdiv (2 ^ 1))), .i a3, .i a4, .i a5, .i a6, .l a7, .l a8, .l a9, .s a2]).bind fun y1 =>
 cond (!(g y1 0).bool) (
 L_sort_Search__impl_State_thing_1 (some 2) [.i (IntKind.i64.wrap ((IntKind.i64.wrap ((IntKind.u64.wrap (IntKind.i64.wrap (a0 + a1))).fdiv (2 ^ 1))) + 1)), .i a1, .s a2, .i a3, .i a4, .i a5, .i a6, .l a7, .l a8, .l a9]) (
 L_sort_Search__impl_State_thing_1 (some 2) [.i a0, .i (IntKind.i64.wrap ((IntKind.u64.wrap (IntKind.i64.wrap (a0 + a1))).fdiv (2 ^ 1))), .s a2, .i a3, .i a4, .i a5, .i a6, .l a7, .l a8, .l a9])) (
 some [.i a0]) := (Lim_eq _ _).trans (by kernel_rfl)
theorem k_sort_Search__impl_State_thing_1 : SigOk Tryz.prog (d_sort_Search__impl_State_thing_1.sig (L_sort_Search__impl_State_thing_1 none)) ∧ (d_sort_Search__impl_State_thing_1.sig (L_sort_Search__impl_State_thing_1 none)).ok = true := sound_lim (known_cons k_impl_State_thing_1 (by kernel_rfl) known_nil) (by kernel_rfl) (by kernel_rfl) (by kernel_rfl)
def d_impl_State_thing : FD := { fn := 96, nb := 0, pre := ⟨[.sc (.pt 0 0), .sc (.s 0)], [.rb [.i .i64 1, .i .i64 2, .i .i64 3, .i .i64 4, .fz 90 false 5, .fz 156 false 6, .fz 158 false 7]]⟩, post := ⟨[.tu [(false, [.i .i64 0]), (false, [.b 1])]], []⟩, sh := false, cuts := [] }
noncomputable def L_impl_State_thing : Option Nat → Lv → Option Lv := Lim Tryz.prog [d_sort_Search__impl_State_thing_1.sig (L_sort_Search__impl_State_thing_1 none)] d_impl_State_thing Tryz.f96
theorem e_impl_State_thing_i (a0 : ByteArray) (a1 : Int) (a2 : Int) (a3 : Int) (a4 : Int) (a5 : Rw) (a6 : Rw) (a7 : Rw) : L_impl_State_thing none [.s a0, .i a1, .i a2, .i a3, .i a4, .l a5, .l a6, .l a7] =
 (L_sort_Search__impl_State_thing_1 none [.i (a5.length : Int), .i a1, .i a2, .i a3, .i a4, .l a5, .l a6, .l a7, .s a0]).bind fun y1 =>
 cond (decide ((g y1 0).int < (a5.length : Int))) (
 cond (inb ((g y1 0).int) a5.length) (
 some [.i ((g y1 0).int), .b (Eng.seq ((rd a5 (((g y1 0).int).toNat) 0).str) a0)]) (
 none)) (
 some [.i ((g y1 0).int), .b false]) := (Lim_eq _ _).trans (by kernel_rfl)
theorem k_impl_State_thing : SigOk Tryz.prog (d_impl_State_thing.sig (L_impl_State_thing none)) ∧ (d_impl_State_thing.sig (L_impl_State_thing none)).ok = true := sound_lim (known_cons k_sort_Search__impl_State_thing_1 (by kernel_rfl) known_nil) (by kernel_rfl) (by kernel_rfl) (by kernel_rfl)
def d_impl_copied : FD := { fn := 97, nb := 0, pre := ⟨[.sc (.fz 9 false 0)], []⟩, post := ⟨[.sc (.ow 0)], [.rw 9 true 0]⟩, sh := false, cuts := [] }
noncomputable def L_impl_copied : Option Nat → Lv → Option Lv := Lim Tryz.prog [] d_impl_copied Tryz.f97
theorem e_impl_copied_i (a0 : Rw) : L_impl_copied none [.l a0] =
 cond (decide (a0.length ≤ most)) (
 some [.l a0]) (
 none) := (Lim_eq _ _).trans (by kernel_rfl)
theorem k_impl_copied : SigOk Tryz.prog (d_impl_copied.sig (L_impl_copied none)) ∧ (d_impl_copied.sig (L_impl_copied none)).ok = true := sound_lim known_nil (by kernel_rfl) (by kernel_rfl) (by kernel_rfl)
end KV
end
section
set_option maxRecDepth 100000
namespace KV
open Go Go.Eng Go.Proofs
def d_impl_form : FD := { fn := 122, nb := 0, pre := ⟨[.ag [.s 0, .fz 9 false 1]], []⟩, post := ⟨[.sc (.s 0)], []⟩, sh := false, cuts := [⟨3, [1, 3, 13, 14, 15], ⟨[.sc (.pt 0 0), .sc (.s 0), .sc (.fz 9 false 1), .sc (.i .i64 2), .sc (.i .i64 3)], [.bx [.s 4, .fz 9 false 5]]⟩⟩] }
noncomputable def L_impl_form : Option Nat → Lv → Option Lv := Lim Tryz.prog [] d_impl_form Tryz.f122
theorem e_impl_form_i (a0 : ByteArray) (a1 : Rw) : L_impl_form none [.s a0, .l a1] =
 L_impl_form (some 3) [.s (bytesOf ([[.i (IntKind.u8.wrap (a1.length : Int))]] : Rw)), .l a1, .i (a1.length : Int), .i 0, .s a0, .l a1] := (Lim_eq _ _).trans (by kernel_rfl)
theorem e_impl_form_3 (a0 : ByteArray) (a1 : Rw) (a2 : Int) (a3 : Int) (a4 : ByteArray) (a5 : Rw) : L_impl_form (some 3) [.s a0, .l a1, .i a2, .i a3, .s a4, .l a5] =
 cond (decide (a3 < a2)) (
 cond (inb a3 a1.length) (
 cond (decide (a0.size + ((rd a1 a3.toNat 0).str).size ≤ most)) (
 L_impl_form (some 3) [.s (a0 ++ ((rd a1 a3.toNat 0).str)), .l a1, .i a2, .i (IntKind.i64.wrap (a3 + 1)), .s a4, .l a5]) (
 none)) (
 none)) (
 cond (decide (a0.size + a4.size ≤ most)) (
 some [.s (a0 ++ a4)]) (
 none)) := (Lim_eq _ _).trans (by kernel_rfl)
theorem k_impl_form : SigOk Tryz.prog (d_impl_form.sig (L_impl_form none)) ∧ (d_impl_form.sig (L_impl_form none)).ok = true := sound_lim known_nil (by kernel_rfl) (by kernel_rfl) (by kernel_rfl)
def d_impl_State_change_1 : FD := { fn := 186, nb := 0, pre := ⟨[.sc (.i .i64 0)], []⟩, post := ⟨[.ag [.i .i64 0, .i .i64 1, .i .i64 2, .i .i64 3, .i .i64 4, .fz 90 true 5, .fz 156 true 6, .fz 158 true 7, .s 8, .i .i64 9, .s 10, .s 11]], []⟩, sh := false, cuts := [] }
noncomputable def L_impl_State_change_1 : Option Nat → Lv → Option Lv := Lim Tryz.prog [] d_impl_State_change_1 Tryz.f186
theorem e_impl_State_change_1_i (a0 : Int) : L_impl_State_change_1 none [.i a0] =
 some [.i a0, .i 0, .i 0, .i 0, .i 0, .l ([]), .l ([]), .l ([]), .s (⟨#[]⟩ : ByteArray), .i 0, .s (⟨#[]⟩ : ByteArray), .s (⟨#[]⟩ : ByteArray)] := (Lim_eq _ _).trans (by kernel_rfl)
theorem k_impl_State_change_1 : SigOk Tryz.prog (d_impl_State_change_1.sig (L_impl_State_change_1 none)) ∧ (d_impl_State_change_1.sig (L_impl_State_change_1 none)).ok = true := sound_lim known_nil (by kernel_rfl) (by kernel_rfl) (by kernel_rfl)
def d_impl_State_change_2 : FD := { fn := 187, nb := 3, pre := ⟨[.sc (.s 0), .sc (.pt 0 0), .sc (.pt 2 0)], [.bx [.pt 1 0], .bx [.i .i64 1, .i .i64 2, .i .i64 3, .i .i64 4, .ow 3, .ow 4, .ow 5], .bx [.i .i64 5, .s 6, .s 7, .i .i64 8, .s 9, .fz 9 false 10], .rw 90 false 11, .rw 156 false 12, .rw 158 false 13]⟩, post := ⟨[.ag [.i .i64 0, .i .i64 1, .i .i64 2, .i .i64 3, .i .i64 4, .fz 90 true 5, .fz 156 true 6, .fz 158 true 7, .s 8, .i .i64 9, .s 10, .s 11]], [.bx [.pt 1 0], .bx [.i .i64 12, .i .i64 13, .i .i64 14, .i .i64 15, .ow 3, .ow 4, .ow 5], .bx [.i .i64 16, .s 17, .s 18, .i .i64 19, .s 20, .fz 9 false 21], .rw 90 false 22, .rw 156 false 23, .rw 158 false 24]⟩, sh := true, cuts := [] }
noncomputable def L_impl_State_change_2 : Option Nat → Lv → Option Lv := Lim Tryz.prog [] d_impl_State_change_2 Tryz.f187
theorem e_impl_State_change_2_i (a0 : ByteArray) (a1 : Int) (a2 : Int) (a3 : Int) (a4 : Int) (a5 : Int) (a6 : ByteArray) (a7 : ByteArray) (a8 : Int) (a9 : ByteArray) (a10 : Rw) (a11 : Rw) (a12 : Rw) (a13 : Rw) : L_impl_State_change_2 none [.s a0, .i a1, .i a2, .i a3, .i a4, .i a5, .s a6, .s a7, .i a8, .s a9, .l a10, .l a11, .l a12, .l a13] =
 cond (decide (a13.length + ([[.i (IntKind.i64.wrap (a3 + 1)), .s a0, .i (IntKind.i64.wrap (a2 + a8))]] : Rw).length ≤ most)) (
 some [.i 0, .i 0, .i 0, .i 0, .i 0, .l ([]), .l ([]), .l ([]), .s (⟨#[]⟩ : ByteArray), .i (IntKind.i64.wrap (a3 + 1)), .s (⟨#[]⟩ : ByteArray), .s (⟨#[]⟩ : ByteArray), .i a1, .i a2, .i (IntKind.i64.wrap (a3 + 1)), .i a4, .i a5, .s a6, .s a7, .i a8, .s a9, .l a10, .l a11, .l a12, .l (a13 ++ ([[.i (IntKind.i64.wrap (a3 + 1)), .s a0, .i (IntKind.i64.wrap (a2 + a8))]] : Rw))]) (
 none) := (Lim_eq _ _).trans (by kernel_rfl)
theorem k_impl_State_change_2 : SigOk Tryz.prog (d_impl_State_change_2.sig (L_impl_State_change_2 none)) ∧ (d_impl_State_change_2.sig (L_impl_State_change_2 none)).ok = true := sound_lim known_nil (by kernel_rfl) (by kernel_rfl) (by kernel_rfl)
def d_impl_State_pin_1 : FD := { fn := 221, nb := 0, pre := ⟨[.sc (.i .i64 0), .sc (.pt 0 0), .sc (.pt 2 0)], [.rb [.pt 1 0], .rb [.i .i64 1, .i .i64 2, .i .i64 3, .i .i64 4, .fz 90 false 5, .fz 156 false 6, .fz 158 false 7], .rb [.s 8]]⟩, post := ⟨[.sc (.b 0)], []⟩, sh := false, cuts := [] }
noncomputable def L_impl_State_pin_1 : Option Nat → Lv → Option Lv := Lim Tryz.prog [] d_impl_State_pin_1 Tryz.f221
theorem e_impl_State_pin_1_i (a0 : Int) (a1 : Int) (a2 : Int) (a3 : Int) (a4 : Int) (a5 : Rw) (a6 : Rw) (a7 : Rw) (a8 : ByteArray) : L_impl_State_pin_1 none [.i a0, .i a1, .i a2, .i a3, .i a4, .l a5, .l a6, .l a7, .s a8] =
 cond (inb a0 a6.length) (
 some [.b (!slt ((rd a6 a0.toNat 0).str) a8)]) (
 none) := (Lim_eq _ _).trans (by kernel_rfl)
theorem k_impl_State_pin_1 : SigOk Tryz.prog (d_impl_State_pin_1.sig (L_impl_State_pin_1 none)) ∧ (d_impl_State_pin_1.sig (L_impl_State_pin_1 none)).ok = true := sound_lim known_nil (by kernel_rfl) (by kernel_rfl) (by kernel_rfl)
def d_sort_Search__impl_State_pin_1 : FD := { fn := 159, nb := 0, pre := ⟨[.sc (.i .i64 0), .sc (.fn 221 [(0, 0), (2, 0)])], [.rb [.pt 1 0], .rb [.i .i64 1, .i .i64 2, .i .i64 3, .i .i64 4, .fz 90 false 5, .fz 156 false 6, .fz 158 false 7], .rb [.s 8]]⟩, post := ⟨[.sc (.i .i64 0)], []⟩, sh := false, cuts := [⟨2, [1, 5, 6], ⟨[.sc (.fn 221 [(0, 0), (1, 0)]), .sc (.i .i64 0), .sc (.i .i64 1)], [.rb [.pt 2 0], .rb [.s 2], .rb [.i .i64 3, .i .i64 4, .i .i64 5, .i .i64 6, .fz 90 false 7, .fz 156 false 8, .fz 158 false 9]]⟩⟩] }
noncomputable def L_sort_Search__impl_State_pin_1 : Option Nat → Lv → Option Lv := Lim Tryz.prog [d_impl_State_pin_1.sig (L_impl_State_pin_1 none)] d_sort_Search__impl_State_pin_1 Tryz.f159
theorem e_sort_Search__impl_State_pin_1_i (a0 : Int) (a1 : Int) (a2 : Int) (a3 : Int) (a4 : Int) (a5 : Rw) (a6 : Rw) (a7 : Rw) (a8 : ByteArray) : L_sort_Search__impl_State_pin_1 none [.i a0, .i a1, .i a2, .i a3, .i a4, .l a5, .l a6, .l a7, .s a8] =
 L_sort_Search__impl_State_pin_1 (some 2) [.i 0, .i a0, .s a8, .i a1, .i a2, .i a3, .i a4, .l a5, .l a6, .l a7] := (Lim_eq _ _).trans (by kernel_rfl)
theorem e_sort_Search__impl_State_pin_1_2 (a0 : Int) (a1 : Int) (a2 : ByteArray) (a3 : Int) (a4 : Int) (a5 : Int) (a6 : Int) (a7 : Rw) (a8 : Rw) (a9 : Rw) : L_sort_Search__impl_State_pin_1 (some 2) [.i a0, .i a1, .s a2, .i a3, .i a4, .i a5, .i a6, .l a7, .l a8, .l a9] =
 cond (decide (a0 < a1)) (
 (L_impl_State_pin_1 none [.i (IntKind.i64.wrap ((IntKind.u64.wrap (IntKind.i64.wrap (a0 + a1))).fdiv (2 ^ 1))), .i a3, .i a4, .i a5, .i a6, .l a7, .l a8, .l a9, .s a2]).bind fun y1 =>
 cond (!(g y1 0).bool) (
 L_sort_Search__impl_State_pin_1 (some 2) [.i (IntKind.i64.wrap ((IntKind.i64.wrap ((IntKind.u64.wrap (IntKind.i64.wrap (a0 + a1))).fdiv (2 ^ 1))) + 1)), .i a1, .s a2, .i a3, .i a4, .i a5, .i a6, .l a7, .l a8, .l a9]) (
 L_sort_Search__impl_State_pin_1 (some 2) [.i a0, .i (IntKind.i64.wrap ((IntKind.u64.wrap (IntKind.i64.wrap (a0 + a1))).fdiv (2 ^ 1))), .s a2, .i a3, .i a4, .i a5, .i a6, .l a7, .l a8, .l a9])) (
 some [.i a0]) := (Lim_eq _ _).trans (by kernel_rfl)
theorem k_sort_Search__impl_State_pin_1 : SigOk Tryz.prog (d_sort_Search__impl_State_pin_1.sig (L_sort_Search__impl_State_pin_1 none)) ∧ (d_sort_Search__impl_State_pin_1.sig (L_sort_Search__impl_State_pin_1 none)).ok = true := sound_lim (known_cons k_impl_State_pin_1 (by kernel_rfl) known_nil) (by kernel_rfl) (by kernel_rfl) (by kernel_rfl)
def d_impl_State_pin : FD := { fn := 188, nb := 0, pre := ⟨[.sc (.pt 0 0), .sc (.s 0)], [.rb [.i .i64 1, .i .i64 2, .i .i64 3, .i .i64 4, .fz 90 false 5, .fz 156 false 6, .fz 158 false 7]]⟩, post := ⟨[.tu [(false, [.i .i64 0]), (false, [.b 1])]], []⟩, sh := false, cuts := [] }
noncomputable def L_impl_State_pin : Option Nat → Lv → Option Lv := Lim Tryz.prog [d_sort_Search__impl_State_pin_1.sig (L_sort_Search__impl_State_pin_1 none)] d_impl_State_pin Tryz.f188
theorem e_impl_State_pin_i (a0 : ByteArray) (a1 : Int) (a2 : Int) (a3 : Int) (a4 : Int) (a5 : Rw) (a6 : Rw) (a7 : Rw) : L_impl_State_pin none [.s a0, .i a1, .i a2, .i a3, .i a4, .l a5, .l a6, .l a7] =
 (L_sort_Search__impl_State_pin_1 none [.i (a6.length : Int), .i a1, .i a2, .i a3, .i a4, .l a5, .l a6, .l a7, .s a0]).bind fun y1 =>
 cond (decide ((g y1 0).int < (a6.length : Int))) (
 cond (inb ((g y1 0).int) a6.length) (
 some [.i ((g y1 0).int), .b (Eng.seq ((rd a6 (((g y1 0).int).toNat) 0).str) a0)]) (
 none)) (
 some [.i ((g y1 0).int), .b false]) := (Lim_eq _ _).trans (by kernel_rfl)
theorem k_impl_State_pin : SigOk Tryz.prog (d_impl_State_pin.sig (L_impl_State_pin none)) ∧ (d_impl_State_pin.sig (L_impl_State_pin none)).ok = true := sound_lim (known_cons k_sort_Search__impl_State_pin_1 (by kernel_rfl) known_nil) (by kernel_rfl) (by kernel_rfl) (by kernel_rfl)
def d_impl_State_lease_1 : FD := { fn := 222, nb := 0, pre := ⟨[.sc (.i .i64 0), .sc (.pt 0 0), .sc (.pt 2 0)], [.rb [.pt 1 0], .rb [.i .i64 1, .i .i64 2, .i .i64 3, .i .i64 4, .fz 90 false 5, .fz 156 false 6, .fz 158 false 7], .rb [.i .i64 8]]⟩, post := ⟨[.sc (.b 0)], []⟩, sh := false, cuts := [] }
noncomputable def L_impl_State_lease_1 : Option Nat → Lv → Option Lv := Lim Tryz.prog [] d_impl_State_lease_1 Tryz.f222
theorem e_impl_State_lease_1_i (a0 : Int) (a1 : Int) (a2 : Int) (a3 : Int) (a4 : Int) (a5 : Rw) (a6 : Rw) (a7 : Rw) (a8 : Int) : L_impl_State_lease_1 none [.i a0, .i a1, .i a2, .i a3, .i a4, .l a5, .l a6, .l a7, .i a8] =
 cond (inb a0 a7.length) (
 some [.b (decide (a8 ≤ (rd a7 a0.toNat 0).int))]) (
 none) := (Lim_eq _ _).trans (by kernel_rfl)
theorem k_impl_State_lease_1 : SigOk Tryz.prog (d_impl_State_lease_1.sig (L_impl_State_lease_1 none)) ∧ (d_impl_State_lease_1.sig (L_impl_State_lease_1 none)).ok = true := sound_lim known_nil (by kernel_rfl) (by kernel_rfl) (by kernel_rfl)
def d_sort_Search__impl_State_lease_1 : FD := { fn := 159, nb := 0, pre := ⟨[.sc (.i .i64 0), .sc (.fn 222 [(0, 0), (2, 0)])], [.rb [.pt 1 0], .rb [.i .i64 1, .i .i64 2, .i .i64 3, .i .i64 4, .fz 90 false 5, .fz 156 false 6, .fz 158 false 7], .rb [.i .i64 8]]⟩, post := ⟨[.sc (.i .i64 0)], []⟩, sh := false, cuts := [⟨2, [1, 5, 6], ⟨[.sc (.fn 222 [(0, 0), (1, 0)]), .sc (.i .i64 0), .sc (.i .i64 1)], [.rb [.pt 2 0], .rb [.i .i64 2], .rb [.i .i64 3, .i .i64 4, .i .i64 5, .i .i64 6, .fz 90 false 7, .fz 156 false 8, .fz 158 false 9]]⟩⟩] }
noncomputable def L_sort_Search__impl_State_lease_1 : Option Nat → Lv → Option Lv := Lim Tryz.prog [d_impl_State_lease_1.sig (L_impl_State_lease_1 none)] d_sort_Search__impl_State_lease_1 Tryz.f159
theorem e_sort_Search__impl_State_lease_1_i (a0 : Int) (a1 : Int) (a2 : Int) (a3 : Int) (a4 : Int) (a5 : Rw) (a6 : Rw) (a7 : Rw) (a8 : Int) : L_sort_Search__impl_State_lease_1 none [.i a0, .i a1, .i a2, .i a3, .i a4, .l a5, .l a6, .l a7, .i a8] =
 L_sort_Search__impl_State_lease_1 (some 2) [.i 0, .i a0, .i a8, .i a1, .i a2, .i a3, .i a4, .l a5, .l a6, .l a7] := (Lim_eq _ _).trans (by kernel_rfl)
theorem e_sort_Search__impl_State_lease_1_2 (a0 : Int) (a1 : Int) (a2 : Int) (a3 : Int) (a4 : Int) (a5 : Int) (a6 : Int) (a7 : Rw) (a8 : Rw) (a9 : Rw) : L_sort_Search__impl_State_lease_1 (some 2) [.i a0, .i a1, .i a2, .i a3, .i a4, .i a5, .i a6, .l a7, .l a8, .l a9] =
 cond (decide (a0 < a1)) (
 (L_impl_State_lease_1 none [.i (IntKind.i64.wrap ((IntKind.u64.wrap (IntKind.i64.wrap (a0 + a1))).fdiv (2 ^ 1))), .i a3, .i a4, .i a5, .i a6, .l a7, .l a8, .l a9, .i a2]).bind fun y1 =>
 cond (!(g y1 0).bool) (
 L_sort_Search__impl_State_lease_1 (some 2) [.i (IntKind.i64.wrap ((IntKind.i64.wrap ((IntKind.u64.wrap (IntKind.i64.wrap (a0 + a1))).fdiv (2 ^ 1))) + 1)), .i a1, .i a2, .i a3, .i a4, .i a5, .i a6, .l a7, .l a8, .l a9]) (
 L_sort_Search__impl_State_lease_1 (some 2) [.i a0, .i (IntKind.i64.wrap ((IntKind.u64.wrap (IntKind.i64.wrap (a0 + a1))).fdiv (2 ^ 1))), .i a2, .i a3, .i a4, .i a5, .i a6, .l a7, .l a8, .l a9])) (
 some [.i a0]) := (Lim_eq _ _).trans (by kernel_rfl)
theorem k_sort_Search__impl_State_lease_1 : SigOk Tryz.prog (d_sort_Search__impl_State_lease_1.sig (L_sort_Search__impl_State_lease_1 none)) ∧ (d_sort_Search__impl_State_lease_1.sig (L_sort_Search__impl_State_lease_1 none)).ok = true := sound_lim (known_cons k_impl_State_lease_1 (by kernel_rfl) known_nil) (by kernel_rfl) (by kernel_rfl) (by kernel_rfl)
def d_impl_State_lease : FD := { fn := 189, nb := 0, pre := ⟨[.sc (.pt 0 0), .sc (.i .i64 0)], [.rb [.i .i64 1, .i .i64 2, .i .i64 3, .i .i64 4, .fz 90 false 5, .fz 156 false 6, .fz 158 false 7]]⟩, post := ⟨[.tu [(false, [.i .i64 0]), (false, [.b 1])]], []⟩, sh := false, cuts := [] }
noncomputable def L_impl_State_lease : Option Nat → Lv → Option Lv := Lim Tryz.prog [d_sort_Search__impl_State_lease_1.sig (L_sort_Search__impl_State_lease_1 none)] d_impl_State_lease Tryz.f189
theorem e_impl_State_lease_i (a0 : Int) (a1 : Int) (a2 : Int) (a3 : Int) (a4 : Int) (a5 : Rw) (a6 : Rw) (a7 : Rw) : L_impl_State_lease none [.i a0, .i a1, .i a2, .i a3, .i a4, .l a5, .l a6, .l a7] =
 (L_sort_Search__impl_State_lease_1 none [.i (a7.length : Int), .i a1, .i a2, .i a3, .i a4, .l a5, .l a6, .l a7, .i a0]).bind fun y1 =>
 cond (decide ((g y1 0).int < (a7.length : Int))) (
 cond (inb ((g y1 0).int) a7.length) (
 some [.i ((g y1 0).int), .b ((rd a7 (((g y1 0).int).toNat) 0).int == a0)]) (
 none)) (
 some [.i ((g y1 0).int), .b false]) := (Lim_eq _ _).trans (by kernel_rfl)
theorem k_impl_State_lease : SigOk Tryz.prog (d_impl_State_lease.sig (L_impl_State_lease none)) ∧ (d_impl_State_lease.sig (L_impl_State_lease none)).ok = true := sound_lim (known_cons k_sort_Search__impl_State_lease_1 (by kernel_rfl) known_nil) (by kernel_rfl) (by kernel_rfl) (by kernel_rfl)
def d_impl_State_held : FD := { fn := 190, nb := 0, pre := ⟨[.sc (.pt 0 0), .sc (.s 0)], [.rb [.i .i64 1, .i .i64 2, .i .i64 3, .i .i64 4, .fz 90 false 5, .fz 156 false 6, .fz 158 false 7]]⟩, post := ⟨[.sc (.b 0)], []⟩, sh := false, cuts := [⟨2, [0, 1, 12, 13, 14], ⟨[.sc (.pt 0 0), .sc (.s 0), .sc (.fz 156 false 1), .sc (.i .i64 2), .sc (.i .i64 3)], [.rb [.i .i64 4, .i .i64 5, .i .i64 6, .i .i64 7, .fz 90 false 8, .fz 156 false 9, .fz 158 false 10]]⟩⟩, ⟨8, [1, 26, 27, 28], ⟨[.sc (.s 0), .sc (.fz 158 false 1), .sc (.i .i64 2), .sc (.i .i64 3)], []⟩⟩] }
noncomputable def L_impl_State_held : Option Nat → Lv → Option Lv := Lim Tryz.prog [] d_impl_State_held Tryz.f190
theorem e_impl_State_held_i (a0 : ByteArray) (a1 : Int) (a2 : Int) (a3 : Int) (a4 : Int) (a5 : Rw) (a6 : Rw) (a7 : Rw) : L_impl_State_held none [.s a0, .i a1, .i a2, .i a3, .i a4, .l a5, .l a6, .l a7] =
 L_impl_State_held (some 2) [.s a0, .l a6, .i (a6.length : Int), .i 0, .i a1, .i a2, .i a3, .i a4, .l a5, .l a6, .l a7] := (Lim_eq _ _).trans (by kernel_rfl)
theorem e_impl_State_held_2 (a0 : ByteArray) (a1 : Rw) (a2 : Int) (a3 : Int) (a4 : Int) (a5 : Int) (a6 : Int) (a7 : Int) (a8 : Rw) (a9 : Rw) (a10 : Rw) : L_impl_State_held (some 2) [.s a0, .l a1, .i a2, .i a3, .i a4, .i a5, .i a6, .i a7, .l a8, .l a9, .l a10] =
 cond (decide (a3 < a2)) (
 cond (inb a3 a1.length) (
 cond (Eng.seq ((rd a1 a3.toNat 1).str) a0) (
 some [.b true]) (
 L_impl_State_held (some 2) [.s a0, .l a1, .i a2, .i (IntKind.i64.wrap (a3 + 1)), .i a4, .i a5, .i a6, .i a7, .l a8, .l a9, .l a10])) (
 none)) (
 L_impl_State_held (some 8) [.s a0, .l a10, .i (a10.length : Int), .i 0]) := (Lim_eq _ _).trans (by kernel_rfl)
theorem e_impl_State_held_8 (a0 : ByteArray) (a1 : Rw) (a2 : Int) (a3 : Int) : L_impl_State_held (some 8) [.s a0, .l a1, .i a2, .i a3] =
 cond (decide (a3 < a2)) (
 cond (inb a3 a1.length) (
 cond (Eng.seq ((rd a1 a3.toNat 1).str) a0) (
 some [.b true]) (
 L_impl_State_held (some 8) [.s a0, .l a1, .i a2, .i (IntKind.i64.wrap (a3 + 1))])) (
 none)) (
 some [.b false]) := (Lim_eq _ _).trans (by kernel_rfl)
theorem k_impl_State_held : SigOk Tryz.prog (d_impl_State_held.sig (L_impl_State_held none)) ∧ (d_impl_State_held.sig (L_impl_State_held none)).ok = true := sound_lim known_nil (by kernel_rfl) (by kernel_rfl) (by kernel_rfl)
def d_impl_State_isRef : FD := { fn := 191, nb := 0, pre := ⟨[.sc (.pt 0 0), .sc (.s 0)], [.rb [.i .i64 1, .i .i64 2, .i .i64 3, .i .i64 4, .fz 90 false 5, .fz 156 false 6, .fz 158 false 7]]⟩, post := ⟨[.sc (.b 0)], []⟩, sh := false, cuts := [⟨2, [1, 12, 13, 14], ⟨[.sc (.s 0), .sc (.fz 90 false 1), .sc (.i .i64 2), .sc (.i .i64 3)], []⟩⟩, ⟨5, [1, 12, 13, 14, 20, 21, 22], ⟨[.sc (.s 0), .sc (.fz 90 false 1), .sc (.i .i64 2), .sc (.i .i64 3), .sc (.fz 9 false 4), .sc (.i .i64 5), .sc (.i .i64 6)], []⟩⟩] }
noncomputable def L_impl_State_isRef : Option Nat → Lv → Option Lv := Lim Tryz.prog [] d_impl_State_isRef Tryz.f191
theorem e_impl_State_isRef_i (a0 : ByteArray) (a1 : Int) (a2 : Int) (a3 : Int) (a4 : Int) (a5 : Rw) (a6 : Rw) (a7 : Rw) : L_impl_State_isRef none [.s a0, .i a1, .i a2, .i a3, .i a4, .l a5, .l a6, .l a7] =
 L_impl_State_isRef (some 2) [.s a0, .l a5, .i (a5.length : Int), .i 0] := (Lim_eq _ _).trans (by kernel_rfl)
theorem e_impl_State_isRef_2 (a0 : ByteArray) (a1 : Rw) (a2 : Int) (a3 : Int) : L_impl_State_isRef (some 2) [.s a0, .l a1, .i a2, .i a3] =
 cond (decide (a3 < a2)) (
 cond (inb a3 a1.length) (
 L_impl_State_isRef (some 5) [.s a0, .l a1, .i a2, .i a3, .l ((rd a1 a3.toNat 3).list), .i (((rd a1 a3.toNat 3).list).length : Int), .i 0]) (
 none)) (
 some [.b false]) := (Lim_eq _ _).trans (by kernel_rfl)
theorem e_impl_State_isRef_5 (a0 : ByteArray) (a1 : Rw) (a2 : Int) (a3 : Int) (a4 : Rw) (a5 : Int) (a6 : Int) : L_impl_State_isRef (some 5) [.s a0, .l a1, .i a2, .i a3, .l a4, .i a5, .i a6] =
 cond (decide (a6 < a5)) (
 cond (inb a6 a4.length) (
 cond (Eng.seq ((rd a4 a6.toNat 0).str) a0) (
 some [.b true]) (
 L_impl_State_isRef (some 5) [.s a0, .l a1, .i a2, .i a3, .l a4, .i a5, .i (IntKind.i64.wrap (a6 + 1))])) (
 none)) (
 L_impl_State_isRef (some 2) [.s a0, .l a1, .i a2, .i (IntKind.i64.wrap (a3 + 1))]) := (Lim_eq _ _).trans (by kernel_rfl)
theorem k_impl_State_isRef : SigOk Tryz.prog (d_impl_State_isRef.sig (L_impl_State_isRef none)) ∧ (d_impl_State_isRef.sig (L_impl_State_isRef none)).ok = true := sound_lim known_nil (by kernel_rfl) (by kernel_rfl) (by kernel_rfl)
def d_impl_State_change : FD := { fn := 120, nb := 1, pre := ⟨[.sc (.pt 0 0), .ag [.i .i64 0, .s 1, .s 2, .i .i64 3, .s 4, .fz 9 false 5]], [.bx [.i .i64 6, .i .i64 7, .i .i64 8, .i .i64 9, .ow 1, .ow 2, .ow 3], .rw 90 false 10, .rw 156 false 11, .rw 158 false 12]⟩, post := ⟨[.ag [.i .i64 0, .i .i64 1, .i .i64 2, .i .i64 3, .i .i64 4, .fz 90 true 5, .fz 156 true 6, .fz 158 true 7, .s 8, .i .i64 9, .s 10, .s 11]], [.bx [.i .i64 12, .i .i64 13, .i .i64 14, .i .i64 15, .ow 1, .ow 2, .ow 3], .rw 90 false 16, .rw 156 false 17, .rw 158 false 18]⟩, sh := true, cuts := [⟨4, [2, 3, 4, 5, 6, 7], ⟨[.sc (.pt 1 0), .sc (.pt 2 0), .sc (.pt 3 0), .sc (.fn 186 []), .sc (.fn 187 [(1, 0), (2, 0)]), .sc (.b 0)], [.bx [.i .i64 1, .i .i64 2, .i .i64 3, .i .i64 4, .ow 4, .ow 5, .ow 6], .bx [.pt 0 0], .bx [.i .i64 5, .s 6, .s 7, .i .i64 8, .s 9, .fz 9 false 10], .bx [.i .i64 11, .i .i64 12, .i .i64 13, .i .i64 14, .i .i64 15, .ow 7, .ow 8, .ow 9, .s 16, .i .i64 17, .s 18, .s 19], .rw 90 false 20, .rw 156 false 21, .rw 158 false 22, .rw 90 true 23, .rw 156 true 24, .rw 158 true 25]⟩⟩, ⟨7, [2, 3, 4, 5, 6, 7, 55, 56, 57], ⟨[.sc (.pt 1 0), .sc (.pt 2 0), .sc (.pt 3 0), .sc (.fn 186 []), .sc (.fn 187 [(1, 0), (2, 0)]), .sc (.b 0), .sc (.fz 9 false 1), .sc (.i .i64 2), .sc (.i .i64 3)], [.bx [.i .i64 4, .i .i64 5, .i .i64 6, .i .i64 7, .ow 4, .ow 5, .ow 6], .bx [.pt 0 0], .bx [.i .i64 8, .s 9, .s 10, .i .i64 11, .s 12, .fz 9 false 13], .bx [.i .i64 14, .i .i64 15, .i .i64 16, .i .i64 17, .i .i64 18, .ow 7, .ow 8, .ow 9, .s 19, .i .i64 20, .s 21, .s 22], .rw 90 false 23, .rw 156 false 24, .rw 158 false 25, .rw 90 true 26, .rw 156 true 27, .rw 158 true 28]⟩⟩, ⟨21, [4, 5], ⟨[.sc (.pt 1 0), .sc (.fn 186 [])], [.bx [.i .i64 0, .i .i64 1, .i .i64 2, .i .i64 3, .ow 2, .ow 3, .ow 4], .bx [.i .i64 4, .i .i64 5, .i .i64 6, .i .i64 7, .i .i64 8, .ow 5, .ow 6, .ow 7, .s 9, .i .i64 10, .s 11, .s 12], .rw 90 false 13, .rw 156 false 14, .rw 158 false 15, .rw 90 true 16, .rw 156 true 17, .rw 158 true 18]⟩⟩, ⟨22, [2, 3, 4, 6, 13, 14, 15], ⟨[.sc (.pt 1 0), .sc (.pt 2 0), .sc (.pt 3 0), .sc (.fn 187 [(1, 0), (2, 0)]), .sc (.s 0), .sc (.i .i64 1), .sc (.b 2)], [.bx [.i .i64 3, .i .i64 4, .i .i64 5, .i .i64 6, .ow 4, .ow 5, .ow 6], .bx [.pt 0 0], .bx [.i .i64 7, .s 8, .s 9, .i .i64 10, .s 11, .fz 9 false 12], .bx [.i .i64 13, .i .i64 14, .i .i64 15, .i .i64 16, .i .i64 17, .ow 7, .ow 8, .ow 9, .s 18, .i .i64 19, .s 20, .s 21], .rw 90 false 22, .rw 156 false 23, .rw 158 false 24, .rw 90 true 25, .rw 156 true 26, .rw 158 true 27]⟩⟩, ⟨27, [4, 6, 13], ⟨[.sc (.pt 1 0), .sc (.fn 187 [(2, 0), (3, 0)]), .sc (.s 0)], [.bx [.i .i64 1, .i .i64 2, .i .i64 3, .i .i64 4, .ow 4, .ow 5, .ow 6], .bx [.i .i64 5, .i .i64 6, .i .i64 7, .i .i64 8, .i .i64 9, .ow 7, .ow 8, .ow 9, .s 10, .i .i64 11, .s 12, .s 13], .bx [.pt 0 0], .bx [.i .i64 14, .s 15, .s 16, .i .i64 17, .s 18, .fz 9 false 19], .rw 90 false 20, .rw 156 false 21, .rw 158 false 22, .rw 90 true 23, .rw 156 true 24, .rw 158 true 25]⟩⟩, ⟨65, [2, 4, 5, 30, 346, 347, 348], ⟨[.sc (.pt 1 0), .sc (.pt 2 0), .sc (.fn 186 []), .sc (.ow 3), .sc (.ow 4), .sc (.i .i64 0), .sc (.i .i64 1)], [.bx [.i .i64 2, .i .i64 3, .i .i64 4, .i .i64 5, .ow 5, .ow 6, .ow 4], .bx [.pt 0 0], .bx [.i .i64 6, .i .i64 7, .i .i64 8, .i .i64 9, .i .i64 10, .ow 7, .ow 8, .ow 9, .s 11, .i .i64 12, .s 13, .s 14], .rw 158 true 15, .rw 158 false 16, .rw 90 false 17, .rw 156 false 18, .rw 90 true 19, .rw 156 true 20, .rw 158 true 21]⟩⟩, ⟨76, [4, 5], ⟨[.sc (.pt 1 0), .sc (.fn 186 [])], [.bx [.i .i64 0, .i .i64 1, .i .i64 2, .i .i64 3, .ow 2, .ow 3, .ow 4], .bx [.i .i64 4, .i .i64 5, .i .i64 6, .i .i64 7, .i .i64 8, .ow 5, .ow 6, .ow 7, .s 9, .i .i64 10, .s 11, .s 12], .rw 90 false 13, .rw 156 false 14, .rw 158 false 15, .rw 90 true 16, .rw 156 true 17, .rw 158 true 18]⟩⟩, ⟨78, [4, 5], ⟨[.sc (.pt 1 0), .sc (.fn 186 [])], [.bx [.i .i64 0, .i .i64 1, .i .i64 2, .i .i64 3, .ow 2, .ow 3, .ow 4], .bx [.i .i64 4, .i .i64 5, .i .i64 6, .i .i64 7, .i .i64 8, .ow 5, .ow 6, .ow 7, .s 9, .i .i64 10, .s 11, .s 12], .rw 90 false 13, .rw 156 false 14, .rw 158 false 15, .rw 90 true 16, .rw 156 true 17, .rw 158 true 18]⟩⟩] }
noncomputable def L_impl_State_change : Option Nat → Lv → Option Lv := Lim Tryz.prog [d_impl_Sum.sig (L_impl_Sum none), d_impl_State_thing.sig (L_impl_State_thing none), d_impl_copied.sig (L_impl_copied none), d_impl_form.sig (L_impl_form none), d_impl_State_change_1.sig (L_impl_State_change_1 none), d_impl_State_change_2.sig (L_impl_State_change_2 none), d_impl_State_pin.sig (L_impl_State_pin none), d_impl_State_lease.sig (L_impl_State_lease none), d_impl_State_held.sig (L_impl_State_held none), d_impl_State_isRef.sig (L_impl_State_isRef none)] d_impl_State_change Tryz.f120
theorem e_impl_State_change_i (a0 : Int) (a1 : ByteArray) (a2 : ByteArray) (a3 : Int) (a4 : ByteArray) (a5 : Rw) (a6 : Int) (a7 : Int) (a8 : Int) (a9 : Int) (a10 : Rw) (a11 : Rw) (a12 : Rw) : L_impl_State_change none [.i a0, .s a1, .s a2, .i a3, .s a4, .l a5, .i a6, .i a7, .i a8, .i a9, .l a10, .l a11, .l a12] =
 cond (decide ((a12.length : Int) < 200)) (
 L_impl_State_change (some 4) [.b (decide (a8 < 1000000000)), .i a6, .i a7, .i a8, .i a9, .i a0, .s a1, .s a2, .i a3, .s a4, .l a5, .i 0, .i 0, .i 0, .i 0, .i 0, .s (⟨#[]⟩ : ByteArray), .i 0, .s (⟨#[]⟩ : ByteArray), .s (⟨#[]⟩ : ByteArray), .l a10, .l a11, .l a12, .l [], .l [], .l []]) (
 L_impl_State_change (some 4) [.b false, .i a6, .i a7, .i a8, .i a9, .i a0, .s a1, .s a2, .i a3, .s a4, .l a5, .i 0, .i 0, .i 0, .i 0, .i 0, .s (⟨#[]⟩ : ByteArray), .i 0, .s (⟨#[]⟩ : ByteArray), .s (⟨#[]⟩ : ByteArray), .l a10, .l a11, .l a12, .l [], .l [], .l []]) := (Lim_eq _ _).trans (by kernel_rfl)
theorem e_impl_State_change_4 (a0 : Bool) (a1 : Int) (a2 : Int) (a3 : Int) (a4 : Int) (a5 : Int) (a6 : ByteArray) (a7 : ByteArray) (a8 : Int) (a9 : ByteArray) (a10 : Rw) (a11 : Int) (a12 : Int) (a13 : Int) (a14 : Int) (a15 : Int) (a16 : ByteArray) (a17 : Int) (a18 : ByteArray) (a19 : ByteArray) (a20 : Rw) (a21 : Rw) (a22 : Rw) (a23 : Rw) (a24 : Rw) (a25 : Rw) : L_impl_State_change (some 4) [.b a0, .i a1, .i a2, .i a3, .i a4, .i a5, .s a6, .s a7, .i a8, .s a9, .l a10, .i a11, .i a12, .i a13, .i a14, .i a15, .s a16, .i a17, .s a18, .s a19, .l a20, .l a21, .l a22, .l a23, .l a24, .l a25] =
 cond (a5 == 1) (
 L_impl_State_change (some 7) [.b a0, .l a10, .i (a10.length : Int), .i 0, .i a1, .i a2, .i a3, .i a4, .i a5, .s a6, .s a7, .i a8, .s a9, .l a10, .i a11, .i a12, .i a13, .i a14, .i a15, .s a16, .i a17, .s a18, .s a19, .l a20, .l a21, .l a22, .l a23, .l a24, .l a25]) (
 cond (a5 == 2) (
 (L_impl_State_thing none [.s a6, .i a1, .i a2, .i a3, .i a4, .l a20, .l a21, .l a22]).bind fun y1 =>
 cond (!(g y1 1).bool) (
 (L_impl_State_change_1 none [.i 2]).bind fun y2 =>
 some [.i ((g y2 0).int), .i ((g y2 1).int), .i ((g y2 2).int), .i ((g y2 3).int), .i ((g y2 4).int), .l ((g y2 5).list), .l ((g y2 6).list), .l ((g y2 7).list), .s ((g y2 8).str), .i ((g y2 9).int), .s ((g y2 10).str), .s ((g y2 11).str), .i a1, .i a2, .i a3, .i a4, .l a20, .l a21, .l a22]) (
 (L_impl_State_pin none [.s a7, .i a1, .i a2, .i a3, .i a4, .l a20, .l a21, .l a22]).bind fun y3 =>
 cond ((g y3 1).bool) (
 cond (inb ((g y3 0).int) a21.length) (
 (L_impl_State_change_1 none [.i 0]).bind fun y4 =>
 some [.i ((g y4 0).int), .i ((g y4 1).int), .i ((g y4 2).int), .i ((g y4 3).int), .i ((g y4 4).int), .l ((g y4 5).list), .l ((g y4 6).list), .l ((g y4 7).list), .s ((g y4 8).str), .i ((g y4 9).int), .s ((g y4 10).str), .s ((g y4 11).str), .i a1, .i a2, .i a3, .i a4, .l a20, .l (wrs a21 (((g y3 0).int).toNat) 1 ([.s a6] : List C)), .l a22]) (
 none)) (
 cond ((a21.length : Int) == 100) (
 (L_impl_State_change_1 none [.i 4]).bind fun y5 =>
 some [.i ((g y5 0).int), .i ((g y5 1).int), .i ((g y5 2).int), .i ((g y5 3).int), .i ((g y5 4).int), .l ((g y5 5).list), .l ((g y5 6).list), .l ((g y5 7).list), .s ((g y5 8).str), .i ((g y5 9).int), .s ((g y5 10).str), .s ((g y5 11).str), .i a1, .i a2, .i a3, .i a4, .l a20, .l a21, .l a22]) (
 cond (decide (0 ≤ (g y3 0).int)) (
 cond (decide ((g y3 0).int ≤ (a21.length : Int))) (
 cond (decide ((Eng.sub a21 0 ((g y3 0).int).toNat).length ≤ most)) (
 cond (decide ((Eng.sub a21 0 ((g y3 0).int).toNat).length + ([[.s a7, .s a6]] : Rw).length ≤ most)) (
 cond (decide (0 ≤ (g y3 0).int)) (
 cond (decide ((g y3 0).int ≤ (a21.length : Int))) (
 cond (decide (((Eng.sub a21 0 ((g y3 0).int).toNat) ++ ([[.s a7, .s a6]] : Rw)).length + (Eng.sub a21 ((g y3 0).int).toNat a21.length).length ≤ most)) (
 L_impl_State_change (some 78) [.i a1, .i a2, .i a3, .i a4, .i a11, .i a12, .i a13, .i a14, .i a15, .s a16, .i a17, .s a18, .s a19, .l a20, .l (((Eng.sub a21 0 ((g y3 0).int).toNat) ++ ([[.s a7, .s a6]] : Rw)) ++ (Eng.sub a21 ((g y3 0).int).toNat a21.length)), .l a22, .l a23, .l a24, .l a25]) (
 none)) (
 none)) (
 none)) (
 none)) (
 none)) (
 none)) (
 none))))) (
 cond (a5 == 3) (
 (L_impl_State_pin none [.s a7, .i a1, .i a2, .i a3, .i a4, .l a20, .l a21, .l a22]).bind fun y6 =>
 cond (!(g y6 1).bool) (
 (L_impl_State_change_1 none [.i 5]).bind fun y7 =>
 some [.i ((g y7 0).int), .i ((g y7 1).int), .i ((g y7 2).int), .i ((g y7 3).int), .i ((g y7 4).int), .l ((g y7 5).list), .l ((g y7 6).list), .l ((g y7 7).list), .s ((g y7 8).str), .i ((g y7 9).int), .s ((g y7 10).str), .s ((g y7 11).str), .i a1, .i a2, .i a3, .i a4, .l a20, .l a21, .l a22]) (
 cond (decide (0 ≤ (g y6 0).int)) (
 cond (decide ((g y6 0).int ≤ (a21.length : Int))) (
 cond (decide (0 ≤ (IntKind.i64.wrap ((g y6 0).int + 1)))) (
 cond (decide ((IntKind.i64.wrap ((g y6 0).int + 1)) ≤ (a21.length : Int))) (
 cond (decide ((Eng.sub a21 0 (((g y6 0).int).toNat)).length + (Eng.sub a21 (IntKind.i64.wrap ((g y6 0).int + 1)).toNat a21.length).length ≤ most)) (
 L_impl_State_change (some 78) [.i a1, .i a2, .i a3, .i a4, .i a11, .i a12, .i a13, .i a14, .i a15, .s a16, .i a17, .s a18, .s a19, .l a20, .l ((Eng.sub a21 0 (((g y6 0).int).toNat)) ++ (Eng.sub a21 (IntKind.i64.wrap ((g y6 0).int + 1)).toNat a21.length)), .l a22, .l a23, .l a24, .l a25]) (
 none)) (
 none)) (
 none)) (
 none)) (
 none))) (
 cond (a5 == 4) (
 (L_impl_State_thing none [.s a6, .i a1, .i a2, .i a3, .i a4, .l a20, .l a21, .l a22]).bind fun y8 =>
 cond (!(g y8 1).bool) (
 (L_impl_State_change_1 none [.i 2]).bind fun y9 =>
 some [.i ((g y9 0).int), .i ((g y9 1).int), .i ((g y9 2).int), .i ((g y9 3).int), .i ((g y9 4).int), .l ((g y9 5).list), .l ((g y9 6).list), .l ((g y9 7).list), .s ((g y9 8).str), .i ((g y9 9).int), .s ((g y9 10).str), .s ((g y9 11).str), .i a1, .i a2, .i a3, .i a4, .l a20, .l a21, .l a22]) (
 cond (!a0) (
 (L_impl_State_change_1 none [.i 4]).bind fun y10 =>
 some [.i ((g y10 0).int), .i ((g y10 1).int), .i ((g y10 2).int), .i ((g y10 3).int), .i ((g y10 4).int), .l ((g y10 5).list), .l ((g y10 6).list), .l ((g y10 7).list), .s ((g y10 8).str), .i ((g y10 9).int), .s ((g y10 10).str), .s ((g y10 11).str), .i a1, .i a2, .i a3, .i a4, .l a20, .l a21, .l a22]) (
 (L_impl_State_change_2 none [.s a6, .i a1, .i a2, .i a3, .i a4, .i a5, .s a6, .s a7, .i a8, .s a9, .l a10, .l a20, .l a21, .l a22]).bind fun y11 =>
 some [.i ((g y11 0).int), .i ((g y11 1).int), .i ((g y11 2).int), .i ((g y11 3).int), .i ((g y11 4).int), .l ((g y11 5).list), .l ((g y11 6).list), .l ((g y11 7).list), .s ((g y11 8).str), .i ((g y11 9).int), .s ((g y11 10).str), .s ((g y11 11).str), .i ((g y11 12).int), .i ((g y11 13).int), .i ((g y11 14).int), .i ((g y11 15).int), .l ((g y11 22).list), .l ((g y11 23).list), .l ((g y11 24).list)]))) (
 cond (a5 == 5) (
 (L_impl_State_lease none [.i a8, .i a1, .i a2, .i a3, .i a4, .l a20, .l a21, .l a22]).bind fun y12 =>
 cond (!(g y12 1).bool) (
 (L_impl_State_change_1 none [.i 5]).bind fun y13 =>
 some [.i ((g y13 0).int), .i ((g y13 1).int), .i ((g y13 2).int), .i ((g y13 3).int), .i ((g y13 4).int), .l ((g y13 5).list), .l ((g y13 6).list), .l ((g y13 7).list), .s ((g y13 8).str), .i ((g y13 9).int), .s ((g y13 10).str), .s ((g y13 11).str), .i a1, .i a2, .i a3, .i a4, .l a20, .l a21, .l a22]) (
 cond (decide (0 ≤ (g y12 0).int)) (
 cond (decide ((g y12 0).int ≤ (a22.length : Int))) (
 cond (decide (0 ≤ (IntKind.i64.wrap ((g y12 0).int + 1)))) (
 cond (decide ((IntKind.i64.wrap ((g y12 0).int + 1)) ≤ (a22.length : Int))) (
 cond (decide ((Eng.sub a22 0 (((g y12 0).int).toNat)).length + (Eng.sub a22 (IntKind.i64.wrap ((g y12 0).int + 1)).toNat a22.length).length ≤ most)) (
 L_impl_State_change (some 78) [.i a1, .i a2, .i a3, .i a4, .i a11, .i a12, .i a13, .i a14, .i a15, .s a16, .i a17, .s a18, .s a19, .l a20, .l a21, .l ((Eng.sub a22 0 (((g y12 0).int).toNat)) ++ (Eng.sub a22 (IntKind.i64.wrap ((g y12 0).int + 1)).toNat a22.length)), .l a23, .l a24, .l a25]) (
 none)) (
 none)) (
 none)) (
 none)) (
 none))) (
 cond (a5 == 6) (
 cond (decide (1000000000 < (IntKind.i64.wrap (a2 + a8)))) (
 (L_impl_State_change_1 none [.i 4]).bind fun y14 =>
 some [.i ((g y14 0).int), .i ((g y14 1).int), .i ((g y14 2).int), .i ((g y14 3).int), .i ((g y14 4).int), .l ((g y14 5).list), .l ((g y14 6).list), .l ((g y14 7).list), .s ((g y14 8).str), .i ((g y14 9).int), .s ((g y14 10).str), .s ((g y14 11).str), .i a1, .i a2, .i a3, .i a4, .l a20, .l a21, .l a22]) (
 L_impl_State_change (some 65) [.i (a22.length : Int), .i 0, .i a1, .i (IntKind.i64.wrap (a2 + a8)), .i a3, .i a4, .i a11, .i a12, .i a13, .i a14, .i a15, .s a16, .i a17, .s a18, .s a19, .l [], .l a22, .l a20, .l a21, .l a23, .l a24, .l a25])) (
 cond (a5 == 7) (
 (L_impl_State_thing none [.s a6, .i a1, .i a2, .i a3, .i a4, .l a20, .l a21, .l a22]).bind fun y15 =>
 cond (!(g y15 1).bool) (
 (L_impl_State_change_1 none [.i 2]).bind fun y16 =>
 some [.i ((g y16 0).int), .i ((g y16 1).int), .i ((g y16 2).int), .i ((g y16 3).int), .i ((g y16 4).int), .l ((g y16 5).list), .l ((g y16 6).list), .l ((g y16 7).list), .s ((g y16 8).str), .i ((g y16 9).int), .s ((g y16 10).str), .s ((g y16 11).str), .i a1, .i a2, .i a3, .i a4, .l a20, .l a21, .l a22]) (
 (L_impl_State_held none [.s a6, .i a1, .i a2, .i a3, .i a4, .l a20, .l a21, .l a22]).bind fun y17 =>
 cond ((g y17 0).bool) (
 L_impl_State_change (some 76) [.i a1, .i a2, .i a3, .i a4, .i a11, .i a12, .i a13, .i a14, .i a15, .s a16, .i a17, .s a18, .s a19, .l a20, .l a21, .l a22, .l a23, .l a24, .l a25]) (
 (L_impl_State_isRef none [.s a6, .i a1, .i a2, .i a3, .i a4, .l a20, .l a21, .l a22]).bind fun y18 =>
 cond ((g y18 0).bool) (
 L_impl_State_change (some 76) [.i a1, .i a2, .i a3, .i a4, .i a11, .i a12, .i a13, .i a14, .i a15, .s a16, .i a17, .s a18, .s a19, .l a20, .l a21, .l a22, .l a23, .l a24, .l a25]) (
 cond (decide (0 ≤ (g y15 0).int)) (
 cond (decide ((g y15 0).int ≤ (a20.length : Int))) (
 cond (decide (0 ≤ (IntKind.i64.wrap ((g y15 0).int + 1)))) (
 cond (decide ((IntKind.i64.wrap ((g y15 0).int + 1)) ≤ (a20.length : Int))) (
 cond (decide ((Eng.sub a20 0 (((g y15 0).int).toNat)).length + (Eng.sub a20 (IntKind.i64.wrap ((g y15 0).int + 1)).toNat a20.length).length ≤ most)) (
 L_impl_State_change (some 78) [.i a1, .i a2, .i a3, .i a4, .i a11, .i a12, .i a13, .i a14, .i a15, .s a16, .i a17, .s a18, .s a19, .l ((Eng.sub a20 0 (((g y15 0).int).toNat)) ++ (Eng.sub a20 (IntKind.i64.wrap ((g y15 0).int + 1)).toNat a20.length)), .l a21, .l a22, .l a23, .l a24, .l a25]) (
 none)) (
 none)) (
 none)) (
 none)) (
 none))))) (
 L_impl_State_change (some 78) [.i a1, .i a2, .i a3, .i a4, .i a11, .i a12, .i a13, .i a14, .i a15, .s a16, .i a17, .s a18, .s a19, .l a20, .l a21, .l a22, .l a23, .l a24, .l a25]))))))) := (Lim_eq _ _).trans (by kernel_rfl)
theorem e_impl_State_change_7 (a0 : Bool) (a1 : Rw) (a2 : Int) (a3 : Int) (a4 : Int) (a5 : Int) (a6 : Int) (a7 : Int) (a8 : Int) (a9 : ByteArray) (a10 : ByteArray) (a11 : Int) (a12 : ByteArray) (a13 : Rw) (a14 : Int) (a15 : Int) (a16 : Int) (a17 : Int) (a18 : Int) (a19 : ByteArray) (a20 : Int) (a21 : ByteArray) (a22 : ByteArray) (a23 : Rw) (a24 : Rw) (a25 : Rw) (a26 : Rw) (a27 : Rw) (a28 : Rw) : L_impl_State_change (some 7) [.b a0, .l a1, .i a2, .i a3, .i a4, .i a5, .i a6, .i a7, .i a8, .s a9, .s a10, .i a11, .s a12, .l a13, .i a14, .i a15, .i a16, .i a17, .i a18, .s a19, .i a20, .s a21, .s a22, .l a23, .l a24, .l a25, .l a26, .l a27, .l a28] =
 cond (decide (a3 < a2)) (
 cond (inb a3 a1.length) (
 (L_impl_State_thing none [.s ((rd a1 a3.toNat 0).str), .i a4, .i a5, .i a6, .i a7, .l a23, .l a24, .l a25]).bind fun y1 =>
 cond (!(g y1 1).bool) (
 (L_impl_State_change_1 none [.i 2]).bind fun y2 =>
 some [.i ((g y2 0).int), .i ((g y2 1).int), .i ((g y2 2).int), .i ((g y2 3).int), .i ((g y2 4).int), .l ((g y2 5).list), .l ((g y2 6).list), .l ((g y2 7).list), .s ((g y2 8).str), .i ((g y2 9).int), .s ((g y2 10).str), .s ((g y2 11).str), .i a4, .i a5, .i a6, .i a7, .l a23, .l a24, .l a25]) (
 L_impl_State_change (some 7) [.b a0, .l a1, .i a2, .i (IntKind.i64.wrap (a3 + 1)), .i a4, .i a5, .i a6, .i a7, .i a8, .s a9, .s a10, .i a11, .s a12, .l a13, .i a14, .i a15, .i a16, .i a17, .i a18, .s a19, .i a20, .s a21, .s a22, .l a23, .l a24, .l a25, .l a26, .l a27, .l a28])) (
 none)) (
 (L_impl_form none [.s a12, .l a13]).bind fun y3 =>
 (L_impl_Sum none [.s ((g y3 0).str), .i a4]).bind fun y4 =>
 (L_impl_State_thing none [.s ((g y4 0).str), .i a4, .i a5, .i a6, .i a7, .l a23, .l a24, .l a25]).bind fun y5 =>
 cond ((g y5 1).bool) (
 cond (inb ((g y5 0).int) a23.length) (
 (L_impl_form none [.s ((rd a23 (((g y5 0).int).toNat) 2).str), .l ((rd a23 (((g y5 0).int).toNat) 3).list)]).bind fun y6 =>
 cond (!Eng.seq ((g y6 0).str) ((g y3 0).str)) (
 some [.i 3, .i 0, .i 0, .i 0, .i 0, .l ([]), .l ([]), .l ([]), .s (⟨#[]⟩ : ByteArray), .i 0, .s ((g y6 0).str), .s ((g y3 0).str), .i a4, .i a5, .i a6, .i a7, .l a23, .l a24, .l a25]) (
 cond (!a0) (
 L_impl_State_change (some 21) [.i a4, .i a5, .i a6, .i a7, .i a14, .i a15, .i a16, .i a17, .i a18, .s a19, .i a20, .s a21, .s a22, .l a23, .l a24, .l a25, .l a26, .l a27, .l a28]) (
 cond (!(g y5 1).bool) (
 cond ((a23.length : Int) == 600) (
 L_impl_State_change (some 21) [.i a4, .i a5, .i a6, .i a7, .i a14, .i a15, .i a16, .i a17, .i a18, .s a19, .i a20, .s a21, .s a22, .l a23, .l a24, .l a25, .l a26, .l a27, .l a28]) (
 cond (a7 == 1000000000) (
 L_impl_State_change (some 21) [.i a4, .i a5, .i a6, .i a7, .i a14, .i a15, .i a16, .i a17, .i a18, .s a19, .i a20, .s a21, .s a22, .l a23, .l a24, .l a25, .l a26, .l a27, .l a28]) (
 L_impl_State_change (some 22) [.s ((g y4 0).str), .i ((g y5 0).int), .b ((g y5 1).bool), .i a4, .i a5, .i a6, .i a7, .i a8, .s a9, .s a10, .i a11, .s a12, .l a13, .i a14, .i a15, .i a16, .i a17, .i a18, .s a19, .i a20, .s a21, .s a22, .l a23, .l a24, .l a25, .l a26, .l a27, .l a28]))) (
 L_impl_State_change (some 22) [.s ((g y4 0).str), .i ((g y5 0).int), .b ((g y5 1).bool), .i a4, .i a5, .i a6, .i a7, .i a8, .s a9, .s a10, .i a11, .s a12, .l a13, .i a14, .i a15, .i a16, .i a17, .i a18, .s a19, .i a20, .s a21, .s a22, .l a23, .l a24, .l a25, .l a26, .l a27, .l a28])))) (
 none)) (
 cond (!a0) (
 L_impl_State_change (some 21) [.i a4, .i a5, .i a6, .i a7, .i a14, .i a15, .i a16, .i a17, .i a18, .s a19, .i a20, .s a21, .s a22, .l a23, .l a24, .l a25, .l a26, .l a27, .l a28]) (
 cond (!(g y5 1).bool) (
 cond ((a23.length : Int) == 600) (
 L_impl_State_change (some 21) [.i a4, .i a5, .i a6, .i a7, .i a14, .i a15, .i a16, .i a17, .i a18, .s a19, .i a20, .s a21, .s a22, .l a23, .l a24, .l a25, .l a26, .l a27, .l a28]) (
 cond (a7 == 1000000000) (
 L_impl_State_change (some 21) [.i a4, .i a5, .i a6, .i a7, .i a14, .i a15, .i a16, .i a17, .i a18, .s a19, .i a20, .s a21, .s a22, .l a23, .l a24, .l a25, .l a26, .l a27, .l a28]) (
 L_impl_State_change (some 22) [.s ((g y4 0).str), .i ((g y5 0).int), .b ((g y5 1).bool), .i a4, .i a5, .i a6, .i a7, .i a8, .s a9, .s a10, .i a11, .s a12, .l a13, .i a14, .i a15, .i a16, .i a17, .i a18, .s a19, .i a20, .s a21, .s a22, .l a23, .l a24, .l a25, .l a26, .l a27, .l a28]))) (
 L_impl_State_change (some 22) [.s ((g y4 0).str), .i ((g y5 0).int), .b ((g y5 1).bool), .i a4, .i a5, .i a6, .i a7, .i a8, .s a9, .s a10, .i a11, .s a12, .l a13, .i a14, .i a15, .i a16, .i a17, .i a18, .s a19, .i a20, .s a21, .s a22, .l a23, .l a24, .l a25, .l a26, .l a27, .l a28])))) := (Lim_eq _ _).trans (by kernel_rfl)
theorem e_impl_State_change_21 (a0 : Int) (a1 : Int) (a2 : Int) (a3 : Int) (a4 : Int) (a5 : Int) (a6 : Int) (a7 : Int) (a8 : Int) (a9 : ByteArray) (a10 : Int) (a11 : ByteArray) (a12 : ByteArray) (a13 : Rw) (a14 : Rw) (a15 : Rw) (a16 : Rw) (a17 : Rw) (a18 : Rw) : L_impl_State_change (some 21) [.i a0, .i a1, .i a2, .i a3, .i a4, .i a5, .i a6, .i a7, .i a8, .s a9, .i a10, .s a11, .s a12, .l a13, .l a14, .l a15, .l a16, .l a17, .l a18] =
 (L_impl_State_change_1 none [.i 4]).bind fun y1 =>
 some [.i ((g y1 0).int), .i ((g y1 1).int), .i ((g y1 2).int), .i ((g y1 3).int), .i ((g y1 4).int), .l ((g y1 5).list), .l ((g y1 6).list), .l ((g y1 7).list), .s ((g y1 8).str), .i ((g y1 9).int), .s ((g y1 10).str), .s ((g y1 11).str), .i a0, .i a1, .i a2, .i a3, .l a13, .l a14, .l a15] := (Lim_eq _ _).trans (by kernel_rfl)
theorem e_impl_State_change_22 (a0 : ByteArray) (a1 : Int) (a2 : Bool) (a3 : Int) (a4 : Int) (a5 : Int) (a6 : Int) (a7 : Int) (a8 : ByteArray) (a9 : ByteArray) (a10 : Int) (a11 : ByteArray) (a12 : Rw) (a13 : Int) (a14 : Int) (a15 : Int) (a16 : Int) (a17 : Int) (a18 : ByteArray) (a19 : Int) (a20 : ByteArray) (a21 : ByteArray) (a22 : Rw) (a23 : Rw) (a24 : Rw) (a25 : Rw) (a26 : Rw) (a27 : Rw) : L_impl_State_change (some 22) [.s a0, .i a1, .b a2, .i a3, .i a4, .i a5, .i a6, .i a7, .s a8, .s a9, .i a10, .s a11, .l a12, .i a13, .i a14, .i a15, .i a16, .i a17, .s a18, .i a19, .s a20, .s a21, .l a22, .l a23, .l a24, .l a25, .l a26, .l a27] =
 cond (!a2) (
 cond (decide (0 ≤ a1)) (
 cond (decide (a1 ≤ (a22.length : Int))) (
 cond (decide ((Eng.sub a22 0 a1.toNat).length ≤ most)) (
 (L_impl_copied none [.l a12]).bind fun y1 =>
 cond (decide ((Eng.sub a22 0 a1.toNat).length + ([[.s a0, .i (IntKind.i64.wrap (a6 + 1)), .s a11, .l ((g y1 0).list)]] : Rw).length ≤ most)) (
 cond (decide (0 ≤ a1)) (
 cond (decide (a1 ≤ (a22.length : Int))) (
 cond (decide (((Eng.sub a22 0 a1.toNat) ++ ([[.s a0, .i (IntKind.i64.wrap (a6 + 1)), .s a11, .l ((g y1 0).list)]] : Rw)).length + (Eng.sub a22 a1.toNat a22.length).length ≤ most)) (
 L_impl_State_change (some 27) [.s a0, .i a3, .i a4, .i a5, .i (IntKind.i64.wrap (a6 + 1)), .i a13, .i a14, .i a15, .i a16, .i a17, .s a18, .i a19, .s a20, .s a21, .i a7, .s a8, .s a9, .i a10, .s a11, .l a12, .l (((Eng.sub a22 0 a1.toNat) ++ ([[.s a0, .i (IntKind.i64.wrap (a6 + 1)), .s a11, .l ((g y1 0).list)]] : Rw)) ++ (Eng.sub a22 a1.toNat a22.length)), .l a23, .l a24, .l a25, .l a26, .l a27]) (
 none)) (
 none)) (
 none)) (
 none)) (
 none)) (
 none)) (
 none)) (
 L_impl_State_change (some 27) [.s a0, .i a3, .i a4, .i a5, .i a6, .i a13, .i a14, .i a15, .i a16, .i a17, .s a18, .i a19, .s a20, .s a21, .i a7, .s a8, .s a9, .i a10, .s a11, .l a12, .l a22, .l a23, .l a24, .l a25, .l a26, .l a27]) := (Lim_eq _ _).trans (by kernel_rfl)
theorem e_impl_State_change_27 (a0 : ByteArray) (a1 : Int) (a2 : Int) (a3 : Int) (a4 : Int) (a5 : Int) (a6 : Int) (a7 : Int) (a8 : Int) (a9 : Int) (a10 : ByteArray) (a11 : Int) (a12 : ByteArray) (a13 : ByteArray) (a14 : Int) (a15 : ByteArray) (a16 : ByteArray) (a17 : Int) (a18 : ByteArray) (a19 : Rw) (a20 : Rw) (a21 : Rw) (a22 : Rw) (a23 : Rw) (a24 : Rw) (a25 : Rw) : L_impl_State_change (some 27) [.s a0, .i a1, .i a2, .i a3, .i a4, .i a5, .i a6, .i a7, .i a8, .i a9, .s a10, .i a11, .s a12, .s a13, .i a14, .s a15, .s a16, .i a17, .s a18, .l a19, .l a20, .l a21, .l a22, .l a23, .l a24, .l a25] =
 (L_impl_State_change_2 none [.s a0, .i a1, .i a2, .i a3, .i a4, .i a14, .s a15, .s a16, .i a17, .s a18, .l a19, .l a20, .l a21, .l a22]).bind fun y1 =>
 some [.i ((g y1 0).int), .i ((g y1 1).int), .i ((g y1 2).int), .i ((g y1 3).int), .i ((g y1 4).int), .l ((g y1 5).list), .l ((g y1 6).list), .l ((g y1 7).list), .s a0, .i ((g y1 9).int), .s ((g y1 10).str), .s ((g y1 11).str), .i ((g y1 12).int), .i ((g y1 13).int), .i ((g y1 14).int), .i ((g y1 15).int), .l ((g y1 22).list), .l ((g y1 23).list), .l ((g y1 24).list)] := (Lim_eq _ _).trans (by kernel_rfl)
theorem e_impl_State_change_65 (a0 : Int) (a1 : Int) (a2 : Int) (a3 : Int) (a4 : Int) (a5 : Int) (a6 : Int) (a7 : Int) (a8 : Int) (a9 : Int) (a10 : Int) (a11 : ByteArray) (a12 : Int) (a13 : ByteArray) (a14 : ByteArray) (a15 : Rw) (a16 : Rw) (a17 : Rw) (a18 : Rw) (a19 : Rw) (a20 : Rw) (a21 : Rw) : L_impl_State_change (some 65) [.i a0, .i a1, .i a2, .i a3, .i a4, .i a5, .i a6, .i a7, .i a8, .i a9, .i a10, .s a11, .i a12, .s a13, .s a14, .l a15, .l a16, .l a17, .l a18, .l a19, .l a20, .l a21] =
 cond (decide (a1 < a0)) (
 cond (inb a1 a16.length) (
 cond (decide (a3 < (rd a16 a1.toNat 2).int)) (
 cond (decide (a15.length + ([[.i ((rd a16 a1.toNat 0).int), .s ((rd a16 a1.toNat 1).str), .i ((rd a16 a1.toNat 2).int)]] : Rw).length ≤ most)) (
 L_impl_State_change (some 65) [.i a0, .i (IntKind.i64.wrap (a1 + 1)), .i a2, .i a3, .i a4, .i a5, .i a6, .i a7, .i a8, .i a9, .i a10, .s a11, .i a12, .s a13, .s a14, .l (a15 ++ ([[.i ((rd a16 a1.toNat 0).int), .s ((rd a16 a1.toNat 1).str), .i ((rd a16 a1.toNat 2).int)]] : Rw)), .l a16, .l a17, .l a18, .l a19, .l a20, .l a21]) (
 none)) (
 L_impl_State_change (some 65) [.i a0, .i (IntKind.i64.wrap (a1 + 1)), .i a2, .i a3, .i a4, .i a5, .i a6, .i a7, .i a8, .i a9, .i a10, .s a11, .i a12, .s a13, .s a14, .l a15, .l a16, .l a17, .l a18, .l a19, .l a20, .l a21])) (
 none)) (
 L_impl_State_change (some 78) [.i a2, .i a3, .i a4, .i a5, .i a6, .i a7, .i a8, .i a9, .i a10, .s a11, .i a12, .s a13, .s a14, .l a17, .l a18, .l a15, .l a19, .l a20, .l a21]) := (Lim_eq _ _).trans (by kernel_rfl)
theorem e_impl_State_change_76 (a0 : Int) (a1 : Int) (a2 : Int) (a3 : Int) (a4 : Int) (a5 : Int) (a6 : Int) (a7 : Int) (a8 : Int) (a9 : ByteArray) (a10 : Int) (a11 : ByteArray) (a12 : ByteArray) (a13 : Rw) (a14 : Rw) (a15 : Rw) (a16 : Rw) (a17 : Rw) (a18 : Rw) : L_impl_State_change (some 76) [.i a0, .i a1, .i a2, .i a3, .i a4, .i a5, .i a6, .i a7, .i a8, .s a9, .i a10, .s a11, .s a12, .l a13, .l a14, .l a15, .l a16, .l a17, .l a18] =
 (L_impl_State_change_1 none [.i 6]).bind fun y1 =>
 some [.i ((g y1 0).int), .i ((g y1 1).int), .i ((g y1 2).int), .i ((g y1 3).int), .i ((g y1 4).int), .l ((g y1 5).list), .l ((g y1 6).list), .l ((g y1 7).list), .s ((g y1 8).str), .i ((g y1 9).int), .s ((g y1 10).str), .s ((g y1 11).str), .i a0, .i a1, .i a2, .i a3, .l a13, .l a14, .l a15] := (Lim_eq _ _).trans (by kernel_rfl)
theorem e_impl_State_change_78 (a0 : Int) (a1 : Int) (a2 : Int) (a3 : Int) (a4 : Int) (a5 : Int) (a6 : Int) (a7 : Int) (a8 : Int) (a9 : ByteArray) (a10 : Int) (a11 : ByteArray) (a12 : ByteArray) (a13 : Rw) (a14 : Rw) (a15 : Rw) (a16 : Rw) (a17 : Rw) (a18 : Rw) : L_impl_State_change (some 78) [.i a0, .i a1, .i a2, .i a3, .i a4, .i a5, .i a6, .i a7, .i a8, .s a9, .i a10, .s a11, .s a12, .l a13, .l a14, .l a15, .l a16, .l a17, .l a18] =
 (L_impl_State_change_1 none [.i 0]).bind fun y1 =>
 some [.i ((g y1 0).int), .i ((g y1 1).int), .i ((g y1 2).int), .i ((g y1 3).int), .i ((g y1 4).int), .l ((g y1 5).list), .l ((g y1 6).list), .l ((g y1 7).list), .s ((g y1 8).str), .i ((g y1 9).int), .s ((g y1 10).str), .s ((g y1 11).str), .i a0, .i a1, .i a2, .i a3, .l a13, .l a14, .l a15] := (Lim_eq _ _).trans (by kernel_rfl)
theorem k_impl_State_change : SigOk Tryz.prog (d_impl_State_change.sig (L_impl_State_change none)) ∧ (d_impl_State_change.sig (L_impl_State_change none)).ok = true := sound_lim (known_cons k_impl_Sum (by kernel_rfl) (known_cons k_impl_State_thing (by kernel_rfl) (known_cons k_impl_copied (by kernel_rfl) (known_cons k_impl_form (by kernel_rfl) (known_cons k_impl_State_change_1 (by kernel_rfl) (known_cons k_impl_State_change_2 (by kernel_rfl) (known_cons k_impl_State_pin (by kernel_rfl) (known_cons k_impl_State_lease (by kernel_rfl) (known_cons k_impl_State_held (by kernel_rfl) (known_cons k_impl_State_isRef (by kernel_rfl) known_nil)))))))))) (by kernel_rfl) (by kernel_rfl) (by kernel_rfl)
def d_impl_replay : FD := { fn := 112, nb := 0, pre := ⟨[.sc (.i .i64 0), .sc (.fz 9 false 1)], []⟩, post := ⟨[.tu [(true, [.i .i64 0, .i .i64 1, .i .i64 2, .i .i64 3, .ow 0, .ow 1, .ow 2]), (false, [.i .i64 4])]], [.rw 90 true 5, .rw 156 true 6, .rw 158 true 7]⟩, sh := false, cuts := [⟨3, [0, 4, 6, 13, 14, 15], ⟨[.sc (.i .i64 0), .sc (.pt 0 0), .sc (.pt 1 0), .sc (.fz 9 false 1), .sc (.i .i64 2), .sc (.i .i64 3)], [.bx [.i .i64 4, .i .i64 5, .i .i64 6, .i .i64 7, .ow 2, .ow 3, .ow 4], .bx [.i .i64 8, .i .i64 9, .i .i64 10, .i .i64 11, .ow 5, .ow 6, .ow 7], .rw 90 true 12, .rw 156 true 13, .rw 158 true 14, .rw 90 true 15, .rw 156 true 16, .rw 158 true 17]⟩⟩] }
noncomputable def L_impl_replay : Option Nat → Lv → Option Lv := Lim Tryz.prog [d_impl_ReadEntry.sig (L_impl_ReadEntry none), d_impl_State_change.sig (L_impl_State_change none)] d_impl_replay Tryz.f112
theorem e_impl_replay_i (a0 : Int) (a1 : Rw) : L_impl_replay none [.i a0, .l a1] =
 L_impl_replay (some 3) [.i a0, .l a1, .i (a1.length : Int), .i 0, .i 0, .i 0, .i 0, .i 0, .i a0, .i 0, .i 0, .i 0, .l [], .l [], .l [], .l [], .l [], .l []] := (Lim_eq _ _).trans (by kernel_rfl)
theorem e_impl_replay_3 (a0 : Int) (a1 : Rw) (a2 : Int) (a3 : Int) (a4 : Int) (a5 : Int) (a6 : Int) (a7 : Int) (a8 : Int) (a9 : Int) (a10 : Int) (a11 : Int) (a12 : Rw) (a13 : Rw) (a14 : Rw) (a15 : Rw) (a16 : Rw) (a17 : Rw) : L_impl_replay (some 3) [.i a0, .l a1, .i a2, .i a3, .i a4, .i a5, .i a6, .i a7, .i a8, .i a9, .i a10, .i a11, .l a12, .l a13, .l a14, .l a15, .l a16, .l a17] =
 cond (decide (a3 < a2)) (
 cond (inb a3 a1.length) (
 (L_impl_ReadEntry none [.s ((rd a1 a3.toNat 0).str), .i a0]).bind fun y1 =>
 cond (!(g y1 5).bool) (
 some [.i 0, .i 0, .i 0, .i 0, .i (IntKind.i64.wrap (a3 + 1)), .l [], .l [], .l []]) (
 (L_impl_State_change none [.i ((g y1 0).int), .s ((g y1 1).str), .s ((g y1 2).str), .i ((g y1 3).int), .s ((g y1 4).str), .l ((g y1 6).list), .i a8, .i a9, .i a10, .i a11, .l a15, .l a16, .l a17]).bind fun y2 =>
 cond ((g y2 0).int != 0) (
 some [.i 0, .i 0, .i 0, .i 0, .i (IntKind.i64.wrap (a3 + 1)), .l [], .l [], .l []]) (
 L_impl_replay (some 3) [.i a0, .l a1, .i a2, .i (IntKind.i64.wrap (a3 + 1)), .i a4, .i a5, .i a6, .i a7, .i ((g y2 12).int), .i ((g y2 13).int), .i ((g y2 14).int), .i ((g y2 15).int), .l a12, .l a13, .l a14, .l ((g y2 16).list), .l ((g y2 17).list), .l ((g y2 18).list)]))) (
 none)) (
 some [.i a8, .i a9, .i a10, .i a11, .i 0, .l a15, .l a16, .l a17]) := (Lim_eq _ _).trans (by kernel_rfl)
theorem k_impl_replay : SigOk Tryz.prog (d_impl_replay.sig (L_impl_replay none)) ∧ (d_impl_replay.sig (L_impl_replay none)).ok = true := sound_lim (known_cons k_impl_ReadEntry (by kernel_rfl) (known_cons k_impl_State_change (by kernel_rfl) known_nil)) (by kernel_rfl) (by kernel_rfl) (by kernel_rfl)
def d_impl_entryFits : FD := { fn := 199, nb := 0, pre := ⟨[.sc (.s 0)], []⟩, post := ⟨[.sc (.b 0)], []⟩, sh := false, cuts := [] }
noncomputable def L_impl_entryFits : Option Nat → Lv → Option Lv := Lim Tryz.prog [] d_impl_entryFits Tryz.f199
theorem e_impl_entryFits_i (a0 : ByteArray) : L_impl_entryFits none [.s a0] =
 some [.b (decide ((a0.size : Int) ≤ 5000))] := (Lim_eq _ _).trans (by kernel_rfl)
theorem k_impl_entryFits : SigOk Tryz.prog (d_impl_entryFits.sig (L_impl_entryFits none)) ∧ (d_impl_entryFits.sig (L_impl_entryFits none)).ok = true := sound_lim known_nil (by kernel_rfl) (by kernel_rfl) (by kernel_rfl)
end KV
end
section
set_option maxRecDepth 100000
namespace KV
open Go Go.Eng Go.Proofs
def d_impl_ValidLog : FD := { fn := 133, nb := 0, pre := ⟨[.ag [.fz 9 false 0, .fz 9 false 1]], []⟩, post := ⟨[.sc (.b 0)], []⟩, sh := false, cuts := [⟨2, [1, 11, 12, 13], ⟨[.sc (.pt 0 0), .sc (.ow 1), .sc (.i .i64 0), .sc (.i .i64 1)], [.bx [.fz 9 false 2, .fz 9 false 3], .rw 23 false 4]⟩⟩, ⟨5, [1, 11, 12, 13, 17, 18, 19], ⟨[.sc (.pt 0 0), .sc (.ow 1), .sc (.i .i64 0), .sc (.i .i64 1), .sc (.fz 9 false 2), .sc (.i .i64 3), .sc (.i .i64 4)], [.bx [.fz 9 false 5, .fz 9 false 6], .rw 23 false 7]⟩⟩] }
noncomputable def L_impl_ValidLog : Option Nat → Lv → Option Lv := Lim Tryz.prog [d_impl_entryFits.sig (L_impl_entryFits none)] d_impl_ValidLog Tryz.f133
theorem e_impl_ValidLog_i (a0 : Rw) (a1 : Rw) : L_impl_ValidLog none [.l a0, .l a1] =
 L_impl_ValidLog (some 2) [.i (([[.l a0], [.l a1]] : Rw).length : Int), .i 0, .l a0, .l a1, .l ([[.l a0], [.l a1]] : Rw)] := (Lim_eq _ _).trans (by kernel_rfl)
theorem e_impl_ValidLog_2 (a0 : Int) (a1 : Int) (a2 : Rw) (a3 : Rw) (a4 : Rw) : L_impl_ValidLog (some 2) [.i a0, .i a1, .l a2, .l a3, .l a4] =
 cond (decide (a1 < a0)) (
 cond (inb a1 a4.length) (
 L_impl_ValidLog (some 5) [.i a0, .i a1, .l ((rd a4 a1.toNat 0).list), .i (((rd a4 a1.toNat 0).list).length : Int), .i 0, .l a2, .l a3, .l a4]) (
 none)) (
 some [.b (decide ((IntKind.i64.wrap ((a2.length : Int) + (a3.length : Int))) ≤ 4000))]) := (Lim_eq _ _).trans (by kernel_rfl)
theorem e_impl_ValidLog_5 (a0 : Int) (a1 : Int) (a2 : Rw) (a3 : Int) (a4 : Int) (a5 : Rw) (a6 : Rw) (a7 : Rw) : L_impl_ValidLog (some 5) [.i a0, .i a1, .l a2, .i a3, .i a4, .l a5, .l a6, .l a7] =
 cond (decide (a4 < a3)) (
 cond (inb a4 a2.length) (
 (L_impl_entryFits none [.s ((rd a2 a4.toNat 0).str)]).bind fun y1 =>
 cond (!(g y1 0).bool) (
 some [.b false]) (
 L_impl_ValidLog (some 5) [.i a0, .i a1, .l a2, .i a3, .i (IntKind.i64.wrap (a4 + 1)), .l a5, .l a6, .l a7])) (
 none)) (
 L_impl_ValidLog (some 2) [.i a0, .i (IntKind.i64.wrap (a1 + 1)), .l a5, .l a6, .l a7]) := (Lim_eq _ _).trans (by kernel_rfl)
theorem k_impl_ValidLog : SigOk Tryz.prog (d_impl_ValidLog.sig (L_impl_ValidLog none)) ∧ (d_impl_ValidLog.sig (L_impl_ValidLog none)).ok = true := sound_lim (known_cons k_impl_entryFits (by kernel_rfl) known_nil) (by kernel_rfl) (by kernel_rfl) (by kernel_rfl)
def d_impl_Log_all : FD := { fn := 134, nb := 0, pre := ⟨[.ag [.fz 9 false 0, .fz 9 false 1]], []⟩, post := ⟨[.sc (.ow 0)], [.rw 9 true 0]⟩, sh := false, cuts := [] }
noncomputable def L_impl_Log_all : Option Nat → Lv → Option Lv := Lim Tryz.prog [d_impl_copied.sig (L_impl_copied none)] d_impl_Log_all Tryz.f134
theorem e_impl_Log_all_i (a0 : Rw) (a1 : Rw) : L_impl_Log_all none [.l a0, .l a1] =
 (L_impl_copied none [.l a0]).bind fun y1 =>
 cond (decide (((g y1 0).list).length + a1.length ≤ most)) (
 some [.l ((g y1 0).list ++ a1)]) (
 none) := (Lim_eq _ _).trans (by kernel_rfl)
theorem k_impl_Log_all : SigOk Tryz.prog (d_impl_Log_all.sig (L_impl_Log_all none)) ∧ (d_impl_Log_all.sig (L_impl_Log_all none)).ok = true := sound_lim (known_cons k_impl_copied (by kernel_rfl) known_nil) (by kernel_rfl) (by kernel_rfl) (by kernel_rfl)
def d_impl_copyLog : FD := { fn := 135, nb := 0, pre := ⟨[.ag [.fz 9 false 0, .fz 9 false 1]], []⟩, post := ⟨[.ag [.ow 0, .ow 1]], [.rw 9 true 0, .rw 9 true 1]⟩, sh := false, cuts := [] }
noncomputable def L_impl_copyLog : Option Nat → Lv → Option Lv := Lim Tryz.prog [d_impl_copied.sig (L_impl_copied none)] d_impl_copyLog Tryz.f135
theorem e_impl_copyLog_i (a0 : Rw) (a1 : Rw) : L_impl_copyLog none [.l a0, .l a1] =
 (L_impl_copied none [.l a0]).bind fun y1 =>
 (L_impl_copied none [.l a1]).bind fun y2 =>
 some [.l ((g y1 0).list), .l ((g y2 0).list)] := (Lim_eq _ _).trans (by kernel_rfl)
theorem k_impl_copyLog : SigOk Tryz.prog (d_impl_copyLog.sig (L_impl_copyLog none)) ∧ (d_impl_copyLog.sig (L_impl_copyLog none)).ok = true := sound_lim (known_cons k_impl_copied (by kernel_rfl) known_nil) (by kernel_rfl) (by kernel_rfl) (by kernel_rfl)
def d_impl_Open : FD := { fn := 49, nb := 0, pre := ⟨[.sc (.i .i64 0), .sc (.i .i64 1), .ag [.fz 9 false 2, .fz 9 false 3]], []⟩, post := ⟨[.tu [(true, [.i .i64 0, .i .i64 1, .ow 0, .ow 1, .i .i64 2, .i .i64 3, .i .i64 4, .i .i64 5, .ow 2, .ow 3, .ow 4, .i .i64 6, .fz 9 true 7, .fz 9 true 8, .i .i64 9, .i .i64 10, .i .i64 11]), (false, [.i .i64 12])]], [.rw 9 true 13, .rw 9 true 14, .rw 90 true 15, .rw 156 true 16, .rw 158 true 17]⟩, sh := false, cuts := [] }
noncomputable def L_impl_Open : Option Nat → Lv → Option Lv := Lim Tryz.prog [d_impl_widthOk.sig (L_impl_widthOk none), d_impl_replay.sig (L_impl_replay none), d_impl_ValidLog.sig (L_impl_ValidLog none), d_impl_Log_all.sig (L_impl_Log_all none), d_impl_copyLog.sig (L_impl_copyLog none)] d_impl_Open Tryz.f49
theorem e_impl_Open_i (a0 : Int) (a1 : Int) (a2 : Rw) (a3 : Rw) : L_impl_Open none [.i a0, .i a1, .l a2, .l a3] =
 (L_impl_widthOk none [.i a0]).bind fun y1 =>
 cond (!(g y1 0).bool) (
 some [.i 0, .i 0, .i 0, .i 0, .i 0, .i 0, .i 0, .l ([]), .l ([]), .i 0, .i 0, .i 0, .i 1, .l [], .l [], .l [], .l [], .l []]) (
 cond (decide (a1 < 0)) (
 some [.i 0, .i 0, .i 0, .i 0, .i 0, .i 0, .i 0, .l ([]), .l ([]), .i 0, .i 0, .i 0, .i 1, .l [], .l [], .l [], .l [], .l []]) (
 cond (decide (1000000 < a1)) (
 some [.i 0, .i 0, .i 0, .i 0, .i 0, .i 0, .i 0, .l ([]), .l ([]), .i 0, .i 0, .i 0, .i 1, .l [], .l [], .l [], .l [], .l []]) (
 (L_impl_ValidLog none [.l a2, .l a3]).bind fun y2 =>
 cond (!(g y2 0).bool) (
 some [.i 0, .i 0, .i 0, .i 0, .i 0, .i 0, .i 0, .l ([]), .l ([]), .i 0, .i 0, .i 0, .i 1, .l [], .l [], .l [], .l [], .l []]) (
 (L_impl_Log_all none [.l a2, .l a3]).bind fun y3 =>
 (L_impl_replay none [.i a0, .l ((g y3 0).list)]).bind fun y4 =>
 cond (decide (0 < (g y4 4).int)) (
 some [.i 0, .i 0, .i 0, .i 0, .i 0, .i 0, .i 0, .l ([]), .l ([]), .i 0, .i 0, .i 0, .i 2, .l [], .l [], .l [], .l [], .l []]) (
 (L_impl_copyLog none [.l a2, .l a3]).bind fun y5 =>
 some [.i a0, .i a1, .i ((g y4 0).int), .i ((g y4 1).int), .i ((g y4 2).int), .i ((g y4 3).int), .i 0, .l ([]), .l ([]), .i 0, .i 0, .i 0, .i 0, .l ((g y5 0).list), .l ((g y5 1).list), .l ((g y4 5).list), .l ((g y4 6).list), .l ((g y4 7).list)]))))) := (Lim_eq _ _).trans (by kernel_rfl)
theorem k_impl_Open : SigOk Tryz.prog (d_impl_Open.sig (L_impl_Open none)) ∧ (d_impl_Open.sig (L_impl_Open none)).ok = true := sound_lim (known_cons k_impl_widthOk (by kernel_rfl) (known_cons k_impl_replay (by kernel_rfl) (known_cons k_impl_ValidLog (by kernel_rfl) (known_cons k_impl_Log_all (by kernel_rfl) (known_cons k_impl_copyLog (by kernel_rfl) known_nil))))) (by kernel_rfl) (by kernel_rfl) (by kernel_rfl)
def d_impl_sameState : FD := { fn := 104, nb := 0, pre := ⟨[.ag [.i .i64 0, .i .i64 1, .i .i64 2, .i .i64 3, .fz 90 false 4, .fz 156 false 5, .fz 158 false 6], .ag [.i .i64 7, .i .i64 8, .i .i64 9, .i .i64 10, .fz 90 false 11, .fz 156 false 12, .fz 158 false 13]], []⟩, post := ⟨[.sc (.b 0)], []⟩, sh := false, cuts := [⟨4, [2, 3, 64, 65, 66], ⟨[.sc (.pt 0 0), .sc (.pt 1 0), .sc (.fz 90 false 0), .sc (.i .i64 1), .sc (.i .i64 2)], [.bx [.i .i64 3, .i .i64 4, .i .i64 5, .i .i64 6, .fz 90 false 7, .fz 156 false 8, .fz 158 false 9], .bx [.i .i64 10, .i .i64 11, .i .i64 12, .i .i64 13, .fz 90 false 14, .fz 156 false 15, .fz 158 false 16]]⟩⟩, ⟨11, [2, 3, 120, 121], ⟨[.sc (.pt 0 0), .sc (.pt 1 0), .sc (.i .i64 0), .sc (.i .i64 1)], [.bx [.i .i64 2, .i .i64 3, .i .i64 4, .i .i64 5, .fz 90 false 6, .fz 156 false 7, .fz 158 false 8], .bx [.i .i64 9, .i .i64 10, .i .i64 11, .i .i64 12, .fz 90 false 13, .fz 156 false 14, .fz 158 false 15]]⟩⟩, ⟨17, [2, 3, 138, 139], ⟨[.sc (.pt 0 0), .sc (.pt 1 0), .sc (.i .i64 0), .sc (.i .i64 1)], [.bx [.i .i64 2, .i .i64 3, .i .i64 4, .i .i64 5, .fz 90 false 6, .fz 156 false 7, .fz 158 false 8], .bx [.i .i64 9, .i .i64 10, .i .i64 11, .i .i64 12, .fz 90 false 13, .fz 156 false 14, .fz 158 false 15]]⟩⟩] }
noncomputable def L_impl_sameState : Option Nat → Lv → Option Lv := Lim Tryz.prog [d_impl_form.sig (L_impl_form none)] d_impl_sameState Tryz.f104
theorem e_impl_sameState_i (a0 : Int) (a1 : Int) (a2 : Int) (a3 : Int) (a4 : Rw) (a5 : Rw) (a6 : Rw) (a7 : Int) (a8 : Int) (a9 : Int) (a10 : Int) (a11 : Rw) (a12 : Rw) (a13 : Rw) : L_impl_sameState none [.i a0, .i a1, .i a2, .i a3, .l a4, .l a5, .l a6, .i a7, .i a8, .i a9, .i a10, .l a11, .l a12, .l a13] =
 cond (a0 != a7) (
 some [.b false]) (
 cond (a1 != a8) (
 some [.b false]) (
 cond (a2 != a9) (
 some [.b false]) (
 cond (a3 != a10) (
 some [.b false]) (
 cond ((a4.length : Int) != (a11.length : Int)) (
 some [.b false]) (
 cond ((a5.length : Int) != (a12.length : Int)) (
 some [.b false]) (
 cond ((a6.length : Int) != (a13.length : Int)) (
 some [.b false]) (
 L_impl_sameState (some 4) [.l a4, .i (a4.length : Int), .i 0, .i a0, .i a1, .i a2, .i a3, .l a4, .l a5, .l a6, .i a7, .i a8, .i a9, .i a10, .l a11, .l a12, .l a13]))))))) := (Lim_eq _ _).trans (by kernel_rfl)
theorem e_impl_sameState_4 (a0 : Rw) (a1 : Int) (a2 : Int) (a3 : Int) (a4 : Int) (a5 : Int) (a6 : Int) (a7 : Rw) (a8 : Rw) (a9 : Rw) (a10 : Int) (a11 : Int) (a12 : Int) (a13 : Int) (a14 : Rw) (a15 : Rw) (a16 : Rw) : L_impl_sameState (some 4) [.l a0, .i a1, .i a2, .i a3, .i a4, .i a5, .i a6, .l a7, .l a8, .l a9, .i a10, .i a11, .i a12, .i a13, .l a14, .l a15, .l a16] =
 cond (decide (a2 < a1)) (
 cond (inb a2 a0.length) (
 cond (inb a2 a14.length) (
 cond (!Eng.seq ((rd a0 a2.toNat 0).str) ((rd a14 a2.toNat 0).str)) (
 some [.b false]) (
 cond ((rd a0 a2.toNat 1).int != (rd a14 a2.toNat 1).int) (
 some [.b false]) (
 cond (!Eng.seq ((rd a0 a2.toNat 2).str) ((rd a14 a2.toNat 2).str)) (
 some [.b false]) (
 cond ((((rd a0 a2.toNat 3).list).length : Int) != (((rd a14 a2.toNat 3).list).length : Int)) (
 some [.b false]) (
 (L_impl_form none [.s ((rd a0 a2.toNat 2).str), .l ((rd a0 a2.toNat 3).list)]).bind fun y1 =>
 (L_impl_form none [.s ((rd a14 a2.toNat 2).str), .l ((rd a14 a2.toNat 3).list)]).bind fun y2 =>
 cond (!Eng.seq ((g y1 0).str) ((g y2 0).str)) (
 some [.b false]) (
 L_impl_sameState (some 4) [.l a0, .i a1, .i (IntKind.i64.wrap (a2 + 1)), .i a3, .i a4, .i a5, .i a6, .l a7, .l a8, .l a9, .i a10, .i a11, .i a12, .i a13, .l a14, .l a15, .l a16])))))) (
 none)) (
 none)) (
 L_impl_sameState (some 11) [.i (a8.length : Int), .i 0, .i a3, .i a4, .i a5, .i a6, .l a7, .l a8, .l a9, .i a10, .i a11, .i a12, .i a13, .l a14, .l a15, .l a16]) := (Lim_eq _ _).trans (by kernel_rfl)
theorem e_impl_sameState_11 (a0 : Int) (a1 : Int) (a2 : Int) (a3 : Int) (a4 : Int) (a5 : Int) (a6 : Rw) (a7 : Rw) (a8 : Rw) (a9 : Int) (a10 : Int) (a11 : Int) (a12 : Int) (a13 : Rw) (a14 : Rw) (a15 : Rw) : L_impl_sameState (some 11) [.i a0, .i a1, .i a2, .i a3, .i a4, .i a5, .l a6, .l a7, .l a8, .i a9, .i a10, .i a11, .i a12, .l a13, .l a14, .l a15] =
 cond (decide (a1 < a0)) (
 cond (inb a1 a7.length) (
 cond (inb a1 a14.length) (
 cond (!((Eng.seq ((rd a7 a1.toNat 0).str) ((rd a14 a1.toNat 0).str)) && ((Eng.seq ((rd a7 a1.toNat 1).str) ((rd a14 a1.toNat 1).str)) && true))) (
 some [.b false]) (
 L_impl_sameState (some 11) [.i a0, .i (IntKind.i64.wrap (a1 + 1)), .i a2, .i a3, .i a4, .i a5, .l a6, .l a7, .l a8, .i a9, .i a10, .i a11, .i a12, .l a13, .l a14, .l a15])) (
 none)) (
 none)) (
 L_impl_sameState (some 17) [.i (a8.length : Int), .i 0, .i a2, .i a3, .i a4, .i a5, .l a6, .l a7, .l a8, .i a9, .i a10, .i a11, .i a12, .l a13, .l a14, .l a15]) := (Lim_eq _ _).trans (by kernel_rfl)
theorem e_impl_sameState_17 (a0 : Int) (a1 : Int) (a2 : Int) (a3 : Int) (a4 : Int) (a5 : Int) (a6 : Rw) (a7 : Rw) (a8 : Rw) (a9 : Int) (a10 : Int) (a11 : Int) (a12 : Int) (a13 : Rw) (a14 : Rw) (a15 : Rw) : L_impl_sameState (some 17) [.i a0, .i a1, .i a2, .i a3, .i a4, .i a5, .l a6, .l a7, .l a8, .i a9, .i a10, .i a11, .i a12, .l a13, .l a14, .l a15] =
 cond (decide (a1 < a0)) (
 cond (inb a1 a8.length) (
 cond (inb a1 a15.length) (
 cond (!(((rd a8 a1.toNat 0).int == (rd a15 a1.toNat 0).int) && ((Eng.seq ((rd a8 a1.toNat 1).str) ((rd a15 a1.toNat 1).str)) && (((rd a8 a1.toNat 2).int == (rd a15 a1.toNat 2).int) && true)))) (
 some [.b false]) (
 L_impl_sameState (some 17) [.i a0, .i (IntKind.i64.wrap (a1 + 1)), .i a2, .i a3, .i a4, .i a5, .l a6, .l a7, .l a8, .i a9, .i a10, .i a11, .i a12, .l a13, .l a14, .l a15])) (
 none)) (
 none)) (
 some [.b true]) := (Lim_eq _ _).trans (by kernel_rfl)
theorem k_impl_sameState : SigOk Tryz.prog (d_impl_sameState.sig (L_impl_sameState none)) ∧ (d_impl_sameState.sig (L_impl_sameState none)).ok = true := sound_lim (known_cons k_impl_form (by kernel_rfl) known_nil) (by kernel_rfl) (by kernel_rfl) (by kernel_rfl)
def d_impl_timeOk : FD := { fn := 140, nb := 0, pre := ⟨[.sc (.i .i64 0)], []⟩, post := ⟨[.sc (.b 0)], []⟩, sh := false, cuts := [] }
noncomputable def L_impl_timeOk : Option Nat → Lv → Option Lv := Lim Tryz.prog [] d_impl_timeOk Tryz.f140
theorem e_impl_timeOk_i (a0 : Int) : L_impl_timeOk none [.i a0] =
 cond (decide (0 ≤ a0)) (
 some [.b (decide (a0 ≤ 1000000000))]) (
 some [.b false]) := (Lim_eq _ _).trans (by kernel_rfl)
theorem k_impl_timeOk : SigOk Tryz.prog (d_impl_timeOk.sig (L_impl_timeOk none)) ∧ (d_impl_timeOk.sig (L_impl_timeOk none)).ok = true := sound_lim known_nil (by kernel_rfl) (by kernel_rfl) (by kernel_rfl)
def d_impl_State_roundOk : FD := { fn := 105, nb := 0, pre := ⟨[.sc (.pt 0 0), .ag [.i .i64 0, .fz 9 false 1, .fz 9 false 2, .i .i64 3, .i .i64 4, .i .i64 5]], [.rb [.i .i64 6, .i .i64 7, .i .i64 8, .i .i64 9, .fz 90 false 10, .fz 156 false 11, .fz 158 false 12]]⟩, post := ⟨[.sc (.b 0)], []⟩, sh := false, cuts := [⟨5, [0, 3, 5, 38, 39, 40], ⟨[.sc (.pt 0 0), .sc (.pt 1 0), .sc (.mp 2), .sc (.fz 9 false 0), .sc (.i .i64 1), .sc (.i .i64 2)], [.rb [.i .i64 3, .i .i64 4, .i .i64 5, .i .i64 6, .fz 90 false 7, .fz 156 false 8, .fz 158 false 9], .bx [.i .i64 10, .fz 9 false 11, .fz 9 false 12, .i .i64 13, .i .i64 14, .i .i64 15], .mp 9 4 16]⟩⟩, ⟨12, [0, 3, 60, 61, 62], ⟨[.sc (.pt 0 0), .sc (.pt 1 0), .sc (.fz 9 false 0), .sc (.i .i64 1), .sc (.i .i64 2)], [.rb [.i .i64 3, .i .i64 4, .i .i64 5, .i .i64 6, .fz 90 false 7, .fz 156 false 8, .fz 158 false 9], .bx [.i .i64 10, .fz 9 false 11, .fz 9 false 12, .i .i64 13, .i .i64 14, .i .i64 15]]⟩⟩] }
noncomputable def L_impl_State_roundOk : Option Nat → Lv → Option Lv := Lim Tryz.prog [d_impl_timeOk.sig (L_impl_timeOk none)] d_impl_State_roundOk Tryz.f105
theorem e_impl_State_roundOk_i (a0 : Int) (a1 : Rw) (a2 : Rw) (a3 : Int) (a4 : Int) (a5 : Int) (a6 : Int) (a7 : Int) (a8 : Int) (a9 : Int) (a10 : Rw) (a11 : Rw) (a12 : Rw) : L_impl_State_roundOk none [.i a0, .l a1, .l a2, .i a3, .i a4, .i a5, .i a6, .i a7, .i a8, .i a9, .l a10, .l a11, .l a12] =
 cond (decide (a0 < 0)) (
 some [.b false]) (
 cond (decide (2 < a0)) (
 some [.b false]) (
 (L_impl_timeOk none [.i a5]).bind fun y1 =>
 cond (!(g y1 0).bool) (
 some [.b false]) (
 cond (decide (23200 < (a1.length : Int))) (
 some [.b false]) (
 cond (decide (600 < (a2.length : Int))) (
 some [.b false]) (
 L_impl_State_roundOk (some 5) [.l a2, .i (a2.length : Int), .i 0, .i a6, .i a7, .i a8, .i a9, .l a10, .l a11, .l a12, .i a0, .l a1, .l a2, .i a3, .i a4, .i a5, .m ([])]))))) := (Lim_eq _ _).trans (by kernel_rfl)
theorem e_impl_State_roundOk_5 (a0 : Rw) (a1 : Int) (a2 : Int) (a3 : Int) (a4 : Int) (a5 : Int) (a6 : Int) (a7 : Rw) (a8 : Rw) (a9 : Rw) (a10 : Int) (a11 : Rw) (a12 : Rw) (a13 : Int) (a14 : Int) (a15 : Int) (a16 : List (C × C)) : L_impl_State_roundOk (some 5) [.l a0, .i a1, .i a2, .i a3, .i a4, .i a5, .i a6, .l a7, .l a8, .l a9, .i a10, .l a11, .l a12, .i a13, .i a14, .i a15, .m a16] =
 cond (decide (a2 < a1)) (
 cond (inb a2 a0.length) (
 cond ((((rd a0 a2.toNat 0).str).size : Int) != a3) (
 some [.b false]) (
 cond (((mget .s (.s ((rd a0 a2.toNat 0).str)) a16).getD (.b false)).bool) (
 some [.b false]) (
 L_impl_State_roundOk (some 5) [.l a0, .i a1, .i (IntKind.i64.wrap (a2 + 1)), .i a3, .i a4, .i a5, .i a6, .l a7, .l a8, .l a9, .i a10, .l a11, .l a12, .i a13, .i a14, .i a15, .m (mput .s (.s ((rd a0 a2.toNat 0).str)) (.b true) a16)]))) (
 none)) (
 L_impl_State_roundOk (some 12) [.l a11, .i (a11.length : Int), .i 0, .i a3, .i a4, .i a5, .i a6, .l a7, .l a8, .l a9, .i a10, .l a11, .l a12, .i a13, .i a14, .i a15]) := (Lim_eq _ _).trans (by kernel_rfl)
theorem e_impl_State_roundOk_12 (a0 : Rw) (a1 : Int) (a2 : Int) (a3 : Int) (a4 : Int) (a5 : Int) (a6 : Int) (a7 : Rw) (a8 : Rw) (a9 : Rw) (a10 : Int) (a11 : Rw) (a12 : Rw) (a13 : Int) (a14 : Int) (a15 : Int) : L_impl_State_roundOk (some 12) [.l a0, .i a1, .i a2, .i a3, .i a4, .i a5, .i a6, .l a7, .l a8, .l a9, .i a10, .l a11, .l a12, .i a13, .i a14, .i a15] =
 cond (decide (a2 < a1)) (
 cond (inb a2 a0.length) (
 cond ((((rd a0 a2.toNat 0).str).size : Int) != a3) (
 some [.b false]) (
 L_impl_State_roundOk (some 12) [.l a0, .i a1, .i (IntKind.i64.wrap (a2 + 1)), .i a3, .i a4, .i a5, .i a6, .l a7, .l a8, .l a9, .i a10, .l a11, .l a12, .i a13, .i a14, .i a15])) (
 none)) (
 cond (a10 == 0) (
 cond ((IntKind.i64.wrap ((a11.length : Int) + (a12.length : Int))) == 0) (
 cond (a13 == 0) (
 some [.b (a14 == 0)]) (
 some [.b false])) (
 some [.b false])) (
 cond (decide (0 ≤ a13)) (
 cond (decide (a13 ≤ a6)) (
 cond (decide (1 ≤ a14)) (
 cond (decide (a14 ≤ (IntKind.i64.wrap (a13 + 1)))) (
 cond (a10 != 1) (
 some [.b true]) (
 some [.b (a14 == (IntKind.i64.wrap (a13 + 1)))])) (
 some [.b false])) (
 some [.b false])) (
 some [.b false])) (
 some [.b false]))) := (Lim_eq _ _).trans (by kernel_rfl)
theorem k_impl_State_roundOk : SigOk Tryz.prog (d_impl_State_roundOk.sig (L_impl_State_roundOk none)) ∧ (d_impl_State_roundOk.sig (L_impl_State_roundOk none)).ok = true := sound_lim (known_cons k_impl_timeOk (by kernel_rfl) known_nil) (by kernel_rfl) (by kernel_rfl) (by kernel_rfl)
def d_impl_ValidVault : FD := { fn := 30, nb := 0, pre := ⟨[.ag [.i .i64 0, .i .i64 1, .fz 9 false 2, .fz 9 false 3, .i .i64 4, .i .i64 5, .i .i64 6, .i .i64 7, .fz 90 false 8, .fz 156 false 9, .fz 158 false 10, .i .i64 11, .fz 9 false 12, .fz 9 false 13, .i .i64 14, .i .i64 15, .i .i64 16]], []⟩, post := ⟨[.sc (.b 0)], []⟩, sh := false, cuts := [] }
noncomputable def L_impl_ValidVault : Option Nat → Lv → Option Lv := Lim Tryz.prog [d_impl_Open.sig (L_impl_Open none), d_impl_sameState.sig (L_impl_sameState none), d_impl_State_roundOk.sig (L_impl_State_roundOk none)] d_impl_ValidVault Tryz.f30
theorem e_impl_ValidVault_i (a0 : Int) (a1 : Int) (a2 : Rw) (a3 : Rw) (a4 : Int) (a5 : Int) (a6 : Int) (a7 : Int) (a8 : Rw) (a9 : Rw) (a10 : Rw) (a11 : Int) (a12 : Rw) (a13 : Rw) (a14 : Int) (a15 : Int) (a16 : Int) : L_impl_ValidVault none [.i a0, .i a1, .l a2, .l a3, .i a4, .i a5, .i a6, .i a7, .l a8, .l a9, .l a10, .i a11, .l a12, .l a13, .i a14, .i a15, .i a16] =
 (L_impl_Open none [.i a0, .i a1, .l a2, .l a3]).bind fun y1 =>
 cond ((g y1 12).int == 0) (
 (L_impl_sameState none [.i ((g y1 2).int), .i ((g y1 3).int), .i ((g y1 4).int), .i ((g y1 5).int), .l ((g y1 15).list), .l ((g y1 16).list), .l ((g y1 17).list), .i a4, .i a5, .i a6, .i a7, .l a8, .l a9, .l a10]).bind fun y2 =>
 cond ((g y2 0).bool) (
 (L_impl_State_roundOk none [.i a11, .l a12, .l a13, .i a14, .i a15, .i a16, .i a4, .i a5, .i a6, .i a7, .l a8, .l a9, .l a10]).bind fun y3 =>
 some [.b ((g y3 0).bool)]) (
 some [.b false])) (
 some [.b false]) := (Lim_eq _ _).trans (by kernel_rfl)
theorem k_impl_ValidVault : SigOk Tryz.prog (d_impl_ValidVault.sig (L_impl_ValidVault none)) ∧ (d_impl_ValidVault.sig (L_impl_ValidVault none)).ok = true := sound_lim (known_cons k_impl_Open (by kernel_rfl) (known_cons k_impl_sameState (by kernel_rfl) (known_cons k_impl_State_roundOk (by kernel_rfl) known_nil))) (by kernel_rfl) (by kernel_rfl) (by kernel_rfl)
def d_impl_Crash : FD := { fn := 132, nb := 0, pre := ⟨[.ag [.fz 9 false 0, .fz 9 false 1], .sc (.i .i64 2)], []⟩, post := ⟨[.ag [.ow 0, .fz 9 true 0]], [.rw 9 true 1]⟩, sh := false, cuts := [] }
noncomputable def L_impl_Crash : Option Nat → Lv → Option Lv := Lim Tryz.prog [d_impl_copied.sig (L_impl_copied none), d_impl_ValidLog.sig (L_impl_ValidLog none)] d_impl_Crash Tryz.f132
theorem e_impl_Crash_i (a0 : Rw) (a1 : Rw) (a2 : Int) : L_impl_Crash none [.l a0, .l a1, .i a2] =
 (L_impl_ValidLog none [.l a0, .l a1]).bind fun y1 =>
 cond (!(g y1 0).bool) (
 some [.l ([]), .l []]) (
 (L_impl_copied none [.l a0]).bind fun y2 =>
 cond (decide (0 ≤ (mx2 0 (mn2 a2 (a1.length : Int))))) (
 cond (decide ((mx2 0 (mn2 a2 (a1.length : Int))) ≤ (a1.length : Int))) (
 cond (decide (((g y2 0).list).length + (Eng.sub a1 0 ((mx2 0 (mn2 a2 (a1.length : Int))).toNat)).length ≤ most)) (
 some [.l ([]), .l ((g y2 0).list ++ (Eng.sub a1 0 ((mx2 0 (mn2 a2 (a1.length : Int))).toNat)))]) (
 none)) (
 none)) (
 none)) := (Lim_eq _ _).trans (by kernel_rfl)
theorem k_impl_Crash : SigOk Tryz.prog (d_impl_Crash.sig (L_impl_Crash none)) ∧ (d_impl_Crash.sig (L_impl_Crash none)).ok = true := sound_lim (known_cons k_impl_copied (by kernel_rfl) (known_cons k_impl_ValidLog (by kernel_rfl) known_nil)) (by kernel_rfl) (by kernel_rfl) (by kernel_rfl)
def d_impl_Lose : FD := { fn := 48, nb := 0, pre := ⟨[.ag [.i .i64 0, .i .i64 1, .fz 9 false 2, .fz 9 false 3, .i .i64 4, .i .i64 5, .i .i64 6, .i .i64 7, .fz 90 false 8, .fz 156 false 9, .fz 158 false 10, .i .i64 11, .fz 9 false 12, .fz 9 false 13, .i .i64 14, .i .i64 15, .i .i64 16], .sc (.i .i64 17)], []⟩, post := ⟨[.ag [.i .i64 0, .i .i64 1, .ow 0, .ow 1, .i .i64 2, .i .i64 3, .i .i64 4, .i .i64 5, .ow 2, .ow 3, .ow 4, .i .i64 6, .fz 9 true 7, .fz 9 true 8, .i .i64 9, .i .i64 10, .i .i64 11]], [.rw 9 true 12, .rw 9 true 13, .rw 90 true 14, .rw 156 true 15, .rw 158 true 16]⟩, sh := false, cuts := [] }
noncomputable def L_impl_Lose : Option Nat → Lv → Option Lv := Lim Tryz.prog [d_impl_Open.sig (L_impl_Open none), d_impl_ValidVault.sig (L_impl_ValidVault none), d_impl_Crash.sig (L_impl_Crash none)] d_impl_Lose Tryz.f48
theorem e_impl_Lose_i (a0 : Int) (a1 : Int) (a2 : Rw) (a3 : Rw) (a4 : Int) (a5 : Int) (a6 : Int) (a7 : Int) (a8 : Rw) (a9 : Rw) (a10 : Rw) (a11 : Int) (a12 : Rw) (a13 : Rw) (a14 : Int) (a15 : Int) (a16 : Int) (a17 : Int) : L_impl_Lose none [.i a0, .i a1, .l a2, .l a3, .i a4, .i a5, .i a6, .i a7, .l a8, .l a9, .l a10, .i a11, .l a12, .l a13, .i a14, .i a15, .i a16, .i a17] =
 (L_impl_ValidVault none [.i a0, .i a1, .l a2, .l a3, .i a4, .i a5, .i a6, .i a7, .l a8, .l a9, .l a10, .i a11, .l a12, .l a13, .i a14, .i a15, .i a16]).bind fun y1 =>
 cond (!(g y1 0).bool) (
 some [.i 0, .i 0, .i 0, .i 0, .i 0, .i 0, .i 0, .l ([]), .l ([]), .i 0, .i 0, .i 0, .l [], .l [], .l [], .l [], .l []]) (
 (L_impl_Crash none [.l a2, .l a3, .i a17]).bind fun y2 =>
 (L_impl_Open none [.i a0, .i a1, .l ((g y2 1).list), .l ((g y2 0).list)]).bind fun y3 =>
 some [.i ((g y3 0).int), .i ((g y3 1).int), .i ((g y3 2).int), .i ((g y3 3).int), .i ((g y3 4).int), .i ((g y3 5).int), .i ((g y3 6).int), .l ((g y3 7).list), .l ((g y3 8).list), .i ((g y3 9).int), .i ((g y3 10).int), .i ((g y3 11).int), .l ((g y3 13).list), .l ((g y3 14).list), .l ((g y3 15).list), .l ((g y3 16).list), .l ((g y3 17).list)]) := (Lim_eq _ _).trans (by kernel_rfl)
theorem k_impl_Lose : SigOk Tryz.prog (d_impl_Lose.sig (L_impl_Lose none)) ∧ (d_impl_Lose.sig (L_impl_Lose none)).ok = true := sound_lim (known_cons k_impl_Open (by kernel_rfl) (known_cons k_impl_ValidVault (by kernel_rfl) (known_cons k_impl_Crash (by kernel_rfl) known_nil))) (by kernel_rfl) (by kernel_rfl) (by kernel_rfl)
def d_impl_copyState : FD := { fn := 119, nb := 0, pre := ⟨[.ag [.i .i64 0, .i .i64 1, .i .i64 2, .i .i64 3, .fz 90 false 4, .fz 156 false 5, .fz 158 false 6]], []⟩, post := ⟨[.ag [.i .i64 0, .i .i64 1, .i .i64 2, .i .i64 3, .ow 0, .ow 1, .ow 2]], [.rw 90 true 4, .rw 156 true 5, .rw 158 true 6]⟩, sh := false, cuts := [⟨4, [1, 2, 9, 10, 11], ⟨[.sc (.pt 0 0), .sc (.pt 1 0), .sc (.fz 90 false 0), .sc (.i .i64 1), .sc (.i .i64 2)], [.bx [.i .i64 3, .i .i64 4, .i .i64 5, .i .i64 6, .ow 2, .fz 156 false 7, .fz 158 false 8], .bx [.i .i64 9, .i .i64 10, .i .i64 11, .i .i64 12, .ow 3, .ow 4, .ow 5], .rw 90 true 13, .rw 90 true 14, .rw 156 true 15, .rw 158 true 16]⟩⟩] }
noncomputable def L_impl_copyState : Option Nat → Lv → Option Lv := Lim Tryz.prog [d_impl_copied.sig (L_impl_copied none)] d_impl_copyState Tryz.f119
theorem e_impl_copyState_i (a0 : Int) (a1 : Int) (a2 : Int) (a3 : Int) (a4 : Rw) (a5 : Rw) (a6 : Rw) : L_impl_copyState none [.i a0, .i a1, .i a2, .i a3, .l a4, .l a5, .l a6] =
 L_impl_copyState (some 4) [.l a4, .i (a4.length : Int), .i 0, .i a0, .i a1, .i a2, .i a3, .l a5, .l a6, .i 0, .i 0, .i 0, .i 0, .l [], .l [], .l [], .l []] := (Lim_eq _ _).trans (by kernel_rfl)
theorem e_impl_copyState_4 (a0 : Rw) (a1 : Int) (a2 : Int) (a3 : Int) (a4 : Int) (a5 : Int) (a6 : Int) (a7 : Rw) (a8 : Rw) (a9 : Int) (a10 : Int) (a11 : Int) (a12 : Int) (a13 : Rw) (a14 : Rw) (a15 : Rw) (a16 : Rw) : L_impl_copyState (some 4) [.l a0, .i a1, .i a2, .i a3, .i a4, .i a5, .i a6, .l a7, .l a8, .i a9, .i a10, .i a11, .i a12, .l a13, .l a14, .l a15, .l a16] =
 cond (decide (a2 < a1)) (
 cond (inb a2 a0.length) (
 (L_impl_copied none [.l ((rd a0 a2.toNat 3).list)]).bind fun y1 =>
 cond (decide (a13.length + ([[.s ((rd a0 a2.toNat 0).str), .i ((rd a0 a2.toNat 1).int), .s ((rd a0 a2.toNat 2).str), .l ((g y1 0).list)]] : Rw).length ≤ most)) (
 L_impl_copyState (some 4) [.l a0, .i a1, .i (IntKind.i64.wrap (a2 + 1)), .i a3, .i a4, .i a5, .i a6, .l a7, .l a8, .i a9, .i a10, .i a11, .i a12, .l (a13 ++ ([[.s ((rd a0 a2.toNat 0).str), .i ((rd a0 a2.toNat 1).int), .s ((rd a0 a2.toNat 2).str), .l ((g y1 0).list)]] : Rw)), .l a14, .l a15, .l a16]) (
 none)) (
 none)) (
 cond (decide (a7.length ≤ most)) (
 cond (decide (a8.length ≤ most)) (
 some [.i a3, .i a4, .i a5, .i a6, .l a13, .l a7, .l a8]) (
 none)) (
 none)) := (Lim_eq _ _).trans (by kernel_rfl)
theorem k_impl_copyState : SigOk Tryz.prog (d_impl_copyState.sig (L_impl_copyState none)) ∧ (d_impl_copyState.sig (L_impl_copyState none)).ok = true := sound_lim (known_cons k_impl_copied (by kernel_rfl) known_nil) (by kernel_rfl) (by kernel_rfl) (by kernel_rfl)
def d_impl_copyRound : FD := { fn := 192, nb := 0, pre := ⟨[.ag [.i .i64 0, .fz 9 false 1, .fz 9 false 2, .i .i64 3, .i .i64 4, .i .i64 5]], []⟩, post := ⟨[.ag [.i .i64 0, .ow 0, .ow 1, .i .i64 1, .i .i64 2, .i .i64 3]], [.rw 9 true 4, .rw 9 true 5]⟩, sh := false, cuts := [] }
noncomputable def L_impl_copyRound : Option Nat → Lv → Option Lv := Lim Tryz.prog [d_impl_copied.sig (L_impl_copied none)] d_impl_copyRound Tryz.f192
theorem e_impl_copyRound_i (a0 : Int) (a1 : Rw) (a2 : Rw) (a3 : Int) (a4 : Int) (a5 : Int) : L_impl_copyRound none [.i a0, .l a1, .l a2, .i a3, .i a4, .i a5] =
 (L_impl_copied none [.l a1]).bind fun y1 =>
 (L_impl_copied none [.l a2]).bind fun y2 =>
 some [.i a0, .i a3, .i a4, .i a5, .l ((g y1 0).list), .l ((g y2 0).list)] := (Lim_eq _ _).trans (by kernel_rfl)
theorem k_impl_copyRound : SigOk Tryz.prog (d_impl_copyRound.sig (L_impl_copyRound none)) ∧ (d_impl_copyRound.sig (L_impl_copyRound none)).ok = true := sound_lim (known_cons k_impl_copied (by kernel_rfl) known_nil) (by kernel_rfl) (by kernel_rfl) (by kernel_rfl)
def d_impl_copyVault : FD := { fn := 123, nb := 0, pre := ⟨[.ag [.i .i64 0, .i .i64 1, .fz 9 false 2, .fz 9 false 3, .i .i64 4, .i .i64 5, .i .i64 6, .i .i64 7, .fz 90 false 8, .fz 156 false 9, .fz 158 false 10, .i .i64 11, .fz 9 false 12, .fz 9 false 13, .i .i64 14, .i .i64 15, .i .i64 16]], []⟩, post := ⟨[.ag [.i .i64 0, .i .i64 1, .ow 0, .ow 1, .i .i64 2, .i .i64 3, .i .i64 4, .i .i64 5, .ow 2, .ow 3, .ow 4, .i .i64 6, .ow 5, .ow 6, .i .i64 7, .i .i64 8, .i .i64 9]], [.rw 9 true 10, .rw 9 true 11, .rw 90 true 12, .rw 156 true 13, .rw 158 true 14, .rw 9 true 15, .rw 9 true 16]⟩, sh := false, cuts := [] }
noncomputable def L_impl_copyVault : Option Nat → Lv → Option Lv := Lim Tryz.prog [d_impl_copyLog.sig (L_impl_copyLog none), d_impl_copyState.sig (L_impl_copyState none), d_impl_copyRound.sig (L_impl_copyRound none)] d_impl_copyVault Tryz.f123
theorem e_impl_copyVault_i (a0 : Int) (a1 : Int) (a2 : Rw) (a3 : Rw) (a4 : Int) (a5 : Int) (a6 : Int) (a7 : Int) (a8 : Rw) (a9 : Rw) (a10 : Rw) (a11 : Int) (a12 : Rw) (a13 : Rw) (a14 : Int) (a15 : Int) (a16 : Int) : L_impl_copyVault none [.i a0, .i a1, .l a2, .l a3, .i a4, .i a5, .i a6, .i a7, .l a8, .l a9, .l a10, .i a11, .l a12, .l a13, .i a14, .i a15, .i a16] =
 (L_impl_copyLog none [.l a2, .l a3]).bind fun y1 =>
 (L_impl_copyState none [.i a4, .i a5, .i a6, .i a7, .l a8, .l a9, .l a10]).bind fun y2 =>
 (L_impl_copyRound none [.i a11, .l a12, .l a13, .i a14, .i a15, .i a16]).bind fun y3 =>
 some [.i a0, .i a1, .i ((g y2 0).int), .i ((g y2 1).int), .i ((g y2 2).int), .i ((g y2 3).int), .i ((g y3 0).int), .i ((g y3 1).int), .i ((g y3 2).int), .i ((g y3 3).int), .l ((g y1 0).list), .l ((g y1 1).list), .l ((g y2 4).list), .l ((g y2 5).list), .l ((g y2 6).list), .l ((g y3 4).list), .l ((g y3 5).list)] := (Lim_eq _ _).trans (by kernel_rfl)
theorem k_impl_copyVault : SigOk Tryz.prog (d_impl_copyVault.sig (L_impl_copyVault none)) ∧ (d_impl_copyVault.sig (L_impl_copyVault none)).ok = true := sound_lim (known_cons k_impl_copyLog (by kernel_rfl) (known_cons k_impl_copyState (by kernel_rfl) (known_cons k_impl_copyRound (by kernel_rfl) known_nil))) (by kernel_rfl) (by kernel_rfl) (by kernel_rfl)
def d_impl_Sync : FD := { fn := 136, nb := 0, pre := ⟨[.ag [.fz 9 false 0, .fz 9 false 1]], []⟩, post := ⟨[.ag [.ow 0, .fz 9 true 0]], [.rw 9 true 1]⟩, sh := false, cuts := [] }
noncomputable def L_impl_Sync : Option Nat → Lv → Option Lv := Lim Tryz.prog [d_impl_copied.sig (L_impl_copied none), d_impl_ValidLog.sig (L_impl_ValidLog none)] d_impl_Sync Tryz.f136
theorem e_impl_Sync_i (a0 : Rw) (a1 : Rw) : L_impl_Sync none [.l a0, .l a1] =
 (L_impl_ValidLog none [.l a0, .l a1]).bind fun y1 =>
 cond (!(g y1 0).bool) (
 some [.l ([]), .l []]) (
 (L_impl_copied none [.l a0]).bind fun y2 =>
 cond (decide (((g y2 0).list).length + a1.length ≤ most)) (
 some [.l ([]), .l ((g y2 0).list ++ a1)]) (
 none)) := (Lim_eq _ _).trans (by kernel_rfl)
theorem k_impl_Sync : SigOk Tryz.prog (d_impl_Sync.sig (L_impl_Sync none)) ∧ (d_impl_Sync.sig (L_impl_Sync none)).ok = true := sound_lim (known_cons k_impl_copied (by kernel_rfl) (known_cons k_impl_ValidLog (by kernel_rfl) known_nil)) (by kernel_rfl) (by kernel_rfl) (by kernel_rfl)
end KV
end
section
set_option maxRecDepth 100000
namespace KV
open Go Go.Eng Go.Proofs
def d_impl_Flush : FD := { fn := 51, nb := 0, pre := ⟨[.ag [.i .i64 0, .i .i64 1, .fz 9 false 2, .fz 9 false 3, .i .i64 4, .i .i64 5, .i .i64 6, .i .i64 7, .fz 90 false 8, .fz 156 false 9, .fz 158 false 10, .i .i64 11, .fz 9 false 12, .fz 9 false 13, .i .i64 14, .i .i64 15, .i .i64 16]], []⟩, post := ⟨[.ag [.i .i64 0, .i .i64 1, .ow 0, .fz 9 true 2, .i .i64 3, .i .i64 4, .i .i64 5, .i .i64 6, .ow 1, .ow 2, .ow 3, .i .i64 7, .ow 4, .ow 5, .i .i64 8, .i .i64 9, .i .i64 10]], [.rw 9 true 11, .rw 90 true 12, .rw 156 true 13, .rw 158 true 14, .rw 9 true 15, .rw 9 true 16]⟩, sh := false, cuts := [] }
noncomputable def L_impl_Flush : Option Nat → Lv → Option Lv := Lim Tryz.prog [d_impl_ValidVault.sig (L_impl_ValidVault none), d_impl_copyVault.sig (L_impl_copyVault none), d_impl_Sync.sig (L_impl_Sync none)] d_impl_Flush Tryz.f51
theorem e_impl_Flush_i (a0 : Int) (a1 : Int) (a2 : Rw) (a3 : Rw) (a4 : Int) (a5 : Int) (a6 : Int) (a7 : Int) (a8 : Rw) (a9 : Rw) (a10 : Rw) (a11 : Int) (a12 : Rw) (a13 : Rw) (a14 : Int) (a15 : Int) (a16 : Int) : L_impl_Flush none [.i a0, .i a1, .l a2, .l a3, .i a4, .i a5, .i a6, .i a7, .l a8, .l a9, .l a10, .i a11, .l a12, .l a13, .i a14, .i a15, .i a16] =
 (L_impl_ValidVault none [.i a0, .i a1, .l a2, .l a3, .i a4, .i a5, .i a6, .i a7, .l a8, .l a9, .l a10, .i a11, .l a12, .l a13, .i a14, .i a15, .i a16]).bind fun y1 =>
 cond (!(g y1 0).bool) (
 some [.i 0, .i 0, .l ([]), .i 0, .i 0, .i 0, .i 0, .i 0, .i 0, .i 0, .i 0, .l [], .l [], .l [], .l [], .l [], .l []]) (
 (L_impl_copyVault none [.i a0, .i a1, .l a2, .l a3, .i a4, .i a5, .i a6, .i a7, .l a8, .l a9, .l a10, .i a11, .l a12, .l a13, .i a14, .i a15, .i a16]).bind fun y2 =>
 (L_impl_Sync none [.l ((g y2 10).list), .l ((g y2 11).list)]).bind fun y3 =>
 some [.i ((g y2 0).int), .i ((g y2 1).int), .l ((g y3 0).list), .i ((g y2 2).int), .i ((g y2 3).int), .i ((g y2 4).int), .i ((g y2 5).int), .i ((g y2 6).int), .i ((g y2 7).int), .i ((g y2 8).int), .i ((g y2 9).int), .l ((g y3 1).list), .l ((g y2 12).list), .l ((g y2 13).list), .l ((g y2 14).list), .l ((g y2 15).list), .l ((g y2 16).list)]) := (Lim_eq _ _).trans (by kernel_rfl)
theorem k_impl_Flush : SigOk Tryz.prog (d_impl_Flush.sig (L_impl_Flush none)) ∧ (d_impl_Flush.sig (L_impl_Flush none)).ok = true := sound_lim (known_cons k_impl_ValidVault (by kernel_rfl) (known_cons k_impl_copyVault (by kernel_rfl) (known_cons k_impl_Sync (by kernel_rfl) known_nil))) (by kernel_rfl) (by kernel_rfl) (by kernel_rfl)
def d_spec_l1Width : FD := { fn := 86, nb := 0, pre := ⟨[.sc (.i .i64 0)], []⟩, post := ⟨[.sc (.b 0)], []⟩, sh := false, cuts := [] }
noncomputable def L_spec_l1Width : Option Nat → Lv → Option Lv := Lim Tryz.prog [] d_spec_l1Width Tryz.f86
theorem e_spec_l1Width_i (a0 : Int) : L_spec_l1Width none [.i a0] =
 cond (decide (1 ≤ a0)) (
 some [.b (decide (a0 ≤ 8))]) (
 some [.b false]) := (Lim_eq _ _).trans (by kernel_rfl)
theorem k_spec_l1Width : SigOk Tryz.prog (d_spec_l1Width.sig (L_spec_l1Width none)) ∧ (d_spec_l1Width.sig (L_spec_l1Width none)).ok = true := sound_lim known_nil (by kernel_rfl) (by kernel_rfl) (by kernel_rfl)
def d_spec_l1ThingOk : FD := { fn := 92, nb := 0, pre := ⟨[.ag [.s 0, .fz 9 false 1], .sc (.i .i64 2)], []⟩, post := ⟨[.sc (.b 0)], []⟩, sh := false, cuts := [⟨4, [1, 2, 5], ⟨[.sc (.i .i64 0), .sc (.pt 0 0), .sc (.i .i64 1)], [.bx [.s 2, .fz 9 false 3]]⟩⟩] }
noncomputable def L_spec_l1ThingOk : Option Nat → Lv → Option Lv := Lim Tryz.prog [d_spec_l1Width.sig (L_spec_l1Width none)] d_spec_l1ThingOk Tryz.f92
theorem e_spec_l1ThingOk_i (a0 : ByteArray) (a1 : Rw) (a2 : Int) : L_spec_l1ThingOk none [.s a0, .l a1, .i a2] =
 (L_spec_l1Width none [.i a2]).bind fun y1 =>
 cond (!(g y1 0).bool) (
 some [.b false]) (
 cond (decide (2000 < (a0.size : Int))) (
 some [.b false]) (
 cond (decide (30 < (a1.length : Int))) (
 some [.b false]) (
 L_spec_l1ThingOk (some 4) [.i a2, .i 0, .s a0, .l a1]))) := (Lim_eq _ _).trans (by kernel_rfl)
theorem e_spec_l1ThingOk_4 (a0 : Int) (a1 : Int) (a2 : ByteArray) (a3 : Rw) : L_spec_l1ThingOk (some 4) [.i a0, .i a1, .s a2, .l a3] =
 cond (decide (a1 < (a3.length : Int))) (
 cond (inb a1 a3.length) (
 cond ((((rd a3 a1.toNat 0).str).size : Int) != a0) (
 some [.b false]) (
 cond (decide (0 < a1)) (
 cond (inb (IntKind.i64.wrap (a1 - 1)) a3.length) (
 cond (inb a1 a3.length) (
 cond (!slt ((rd a3 ((IntKind.i64.wrap (a1 - 1)).toNat) 0).str) ((rd a3 a1.toNat 0).str)) (
 some [.b false]) (
 L_spec_l1ThingOk (some 4) [.i a0, .i (IntKind.i64.wrap (a1 + 1)), .s a2, .l a3])) (
 none)) (
 none)) (
 L_spec_l1ThingOk (some 4) [.i a0, .i (IntKind.i64.wrap (a1 + 1)), .s a2, .l a3]))) (
 none)) (
 some [.b true]) := (Lim_eq _ _).trans (by kernel_rfl)
theorem k_spec_l1ThingOk : SigOk Tryz.prog (d_spec_l1ThingOk.sig (L_spec_l1ThingOk none)) ∧ (d_spec_l1ThingOk.sig (L_spec_l1ThingOk none)).ok = true := sound_lim (known_cons k_spec_l1Width (by kernel_rfl) known_nil) (by kernel_rfl) (by kernel_rfl) (by kernel_rfl)
def d_spec_l3NameOk : FD := { fn := 127, nb := 0, pre := ⟨[.sc (.s 0)], []⟩, post := ⟨[.sc (.b 0)], []⟩, sh := false, cuts := [⟨2, [0, 3], ⟨[.sc (.s 0), .sc (.i .i64 1)], []⟩⟩] }
noncomputable def L_spec_l3NameOk : Option Nat → Lv → Option Lv := Lim Tryz.prog [] d_spec_l3NameOk Tryz.f127
theorem e_spec_l3NameOk_i (a0 : ByteArray) : L_spec_l3NameOk none [.s a0] =
 L_spec_l3NameOk (some 2) [.s a0, .i 0] := (Lim_eq _ _).trans (by kernel_rfl)
theorem e_spec_l3NameOk_2 (a0 : ByteArray) (a1 : Int) : L_spec_l3NameOk (some 2) [.s a0, .i a1] =
 cond (decide (a1 < (a0.size : Int))) (
 cond (inb a1 a0.size) (
 cond (decide ((byteAt a0 a1.toNat) < 33)) (
 some [.b false]) (
 cond (inb a1 a0.size) (
 cond (decide (126 < (byteAt a0 a1.toNat))) (
 some [.b false]) (
 L_spec_l3NameOk (some 2) [.s a0, .i (IntKind.i64.wrap (a1 + 1))])) (
 none))) (
 none)) (
 cond (decide (1 ≤ (a0.size : Int))) (
 some [.b (decide ((a0.size : Int) ≤ 40))]) (
 some [.b false])) := (Lim_eq _ _).trans (by kernel_rfl)
theorem k_spec_l3NameOk : SigOk Tryz.prog (d_spec_l3NameOk.sig (L_spec_l3NameOk none)) ∧ (d_spec_l3NameOk.sig (L_spec_l3NameOk none)).ok = true := sound_lim known_nil (by kernel_rfl) (by kernel_rfl) (by kernel_rfl)
def d_spec_l3Uses : FD := { fn := 150, nb := 0, pre := ⟨[.sc (.i .i64 0)], []⟩, post := ⟨[.tu [(false, [.b 0]), (false, [.b 1]), (false, [.i .i64 2]), (false, [.b 3])]], []⟩, sh := false, cuts := [] }
noncomputable def L_spec_l3Uses : Option Nat → Lv → Option Lv := Lim Tryz.prog [] d_spec_l3Uses Tryz.f150
theorem e_spec_l3Uses_i (a0 : Int) : L_spec_l3Uses none [.i a0] =
 cond (a0 == 1) (
 some [.b false, .b false, .i 1, .b true]) (
 cond (a0 == 2) (
 some [.b true, .b true, .i 0, .b false]) (
 cond (a0 == 3) (
 some [.b false, .b true, .i 0, .b false]) (
 cond (a0 == 4) (
 some [.b true, .b false, .i 1, .b false]) (
 cond (a0 == 5) (
 some [.b false, .b false, .i 2, .b false]) (
 cond (a0 == 6) (
 some [.b false, .b false, .i 1, .b false]) (
 cond (a0 == 7) (
 some [.b true, .b false, .i 0, .b false]) (
 some [.b false, .b false, .i 0, .b false]))))))) := (Lim_eq _ _).trans (by kernel_rfl)
theorem k_spec_l3Uses : SigOk Tryz.prog (d_spec_l3Uses.sig (L_spec_l3Uses none)) ∧ (d_spec_l3Uses.sig (L_spec_l3Uses none)).ok = true := sound_lim known_nil (by kernel_rfl) (by kernel_rfl) (by kernel_rfl)
def d_spec_l3NumberOk : FD := { fn := 204, nb := 0, pre := ⟨[.sc (.i .i64 0), .sc (.i .i64 1)], []⟩, post := ⟨[.sc (.b 0)], []⟩, sh := false, cuts := [] }
noncomputable def L_spec_l3NumberOk : Option Nat → Lv → Option Lv := Lim Tryz.prog [] d_spec_l3NumberOk Tryz.f204
theorem e_spec_l3NumberOk_i (a0 : Int) (a1 : Int) : L_spec_l3NumberOk none [.i a0, .i a1] =
 cond (a1 == 1) (
 cond (decide (1 ≤ a0)) (
 some [.b (decide (a0 ≤ 100000))]) (
 some [.b false])) (
 cond (a1 == 2) (
 cond (decide (1 ≤ a0)) (
 some [.b (decide (a0 ≤ 1000000000))]) (
 some [.b false])) (
 some [.b (a0 == 0)])) := (Lim_eq _ _).trans (by kernel_rfl)
theorem k_spec_l3NumberOk : SigOk Tryz.prog (d_spec_l3NumberOk.sig (L_spec_l3NumberOk none)) ∧ (d_spec_l3NumberOk.sig (L_spec_l3NumberOk none)).ok = true := sound_lim known_nil (by kernel_rfl) (by kernel_rfl) (by kernel_rfl)
def d_spec_l3Ok : FD := { fn := 152, nb := 0, pre := ⟨[.ag [.i .i64 0, .s 1, .s 2, .i .i64 3, .s 4, .fz 9 false 5], .sc (.i .i64 6)], []⟩, post := ⟨[.sc (.b 0)], []⟩, sh := false, cuts := [⟨6, [1, 2, 6, 8], ⟨[.sc (.i .i64 0), .sc (.pt 0 0), .sc (.b 1), .sc (.b 2)], [.bx [.i .i64 3, .s 4, .s 5, .i .i64 6, .s 7, .fz 9 false 8]]⟩⟩, ⟨8, [1, 2, 8], ⟨[.sc (.i .i64 0), .sc (.pt 0 0), .sc (.b 1)], [.bx [.i .i64 2, .s 3, .s 4, .i .i64 5, .s 6, .fz 9 false 7]]⟩⟩] }
noncomputable def L_spec_l3Ok : Option Nat → Lv → Option Lv := Lim Tryz.prog [d_spec_l1Width.sig (L_spec_l1Width none), d_spec_l1ThingOk.sig (L_spec_l1ThingOk none), d_spec_l3NameOk.sig (L_spec_l3NameOk none), d_spec_l3Uses.sig (L_spec_l3Uses none), d_spec_l3NumberOk.sig (L_spec_l3NumberOk none)] d_spec_l3Ok Tryz.f152
theorem e_spec_l3Ok_i (a0 : Int) (a1 : ByteArray) (a2 : ByteArray) (a3 : Int) (a4 : ByteArray) (a5 : Rw) (a6 : Int) : L_spec_l3Ok none [.i a0, .s a1, .s a2, .i a3, .s a4, .l a5, .i a6] =
 (L_spec_l1Width none [.i a6]).bind fun y1 =>
 cond (!(g y1 0).bool) (
 some [.b false]) (
 cond (decide (a0 < 1)) (
 some [.b false]) (
 cond (decide (7 < a0)) (
 some [.b false]) (
 (L_spec_l3Uses none [.i a0]).bind fun y2 =>
 cond ((g y2 0).bool) (
 cond ((a1.size : Int) != a6) (
 some [.b false]) (
 cond (!(g y2 0).bool) (
 cond (!Eng.seq a1 (⟨#[]⟩ : ByteArray)) (
 some [.b false]) (
 (L_spec_l3NumberOk none [.i a3, .i ((g y2 2).int)]).bind fun y3 =>
 cond (!(g y3 0).bool) (
 some [.b false]) (
 L_spec_l3Ok (some 6) [.i a6, .b ((g y2 1).bool), .b ((g y2 3).bool), .i a0, .s a1, .s a2, .i a3, .s a4, .l a5]))) (
 (L_spec_l3NumberOk none [.i a3, .i ((g y2 2).int)]).bind fun y4 =>
 cond (!(g y4 0).bool) (
 some [.b false]) (
 L_spec_l3Ok (some 6) [.i a6, .b ((g y2 1).bool), .b ((g y2 3).bool), .i a0, .s a1, .s a2, .i a3, .s a4, .l a5])))) (
 cond (!(g y2 0).bool) (
 cond (!Eng.seq a1 (⟨#[]⟩ : ByteArray)) (
 some [.b false]) (
 (L_spec_l3NumberOk none [.i a3, .i ((g y2 2).int)]).bind fun y5 =>
 cond (!(g y5 0).bool) (
 some [.b false]) (
 L_spec_l3Ok (some 6) [.i a6, .b ((g y2 1).bool), .b ((g y2 3).bool), .i a0, .s a1, .s a2, .i a3, .s a4, .l a5]))) (
 (L_spec_l3NumberOk none [.i a3, .i ((g y2 2).int)]).bind fun y6 =>
 cond (!(g y6 0).bool) (
 some [.b false]) (
 L_spec_l3Ok (some 6) [.i a6, .b ((g y2 1).bool), .b ((g y2 3).bool), .i a0, .s a1, .s a2, .i a3, .s a4, .l a5])))))) := (Lim_eq _ _).trans (by kernel_rfl)
theorem e_spec_l3Ok_6 (a0 : Int) (a1 : Bool) (a2 : Bool) (a3 : Int) (a4 : ByteArray) (a5 : ByteArray) (a6 : Int) (a7 : ByteArray) (a8 : Rw) : L_spec_l3Ok (some 6) [.i a0, .b a1, .b a2, .i a3, .s a4, .s a5, .i a6, .s a7, .l a8] =
 cond a1 (
 (L_spec_l3NameOk none [.s a5]).bind fun y1 =>
 cond (!(g y1 0).bool) (
 some [.b false]) (
 cond (!a1) (
 cond (!Eng.seq a5 (⟨#[]⟩ : ByteArray)) (
 some [.b false]) (
 L_spec_l3Ok (some 8) [.i a0, .b a2, .i a3, .s a4, .s a5, .i a6, .s a7, .l a8])) (
 L_spec_l3Ok (some 8) [.i a0, .b a2, .i a3, .s a4, .s a5, .i a6, .s a7, .l a8]))) (
 cond (!a1) (
 cond (!Eng.seq a5 (⟨#[]⟩ : ByteArray)) (
 some [.b false]) (
 L_spec_l3Ok (some 8) [.i a0, .b a2, .i a3, .s a4, .s a5, .i a6, .s a7, .l a8])) (
 L_spec_l3Ok (some 8) [.i a0, .b a2, .i a3, .s a4, .s a5, .i a6, .s a7, .l a8])) := (Lim_eq _ _).trans (by kernel_rfl)
theorem e_spec_l3Ok_8 (a0 : Int) (a1 : Bool) (a2 : Int) (a3 : ByteArray) (a4 : ByteArray) (a5 : Int) (a6 : ByteArray) (a7 : Rw) : L_spec_l3Ok (some 8) [.i a0, .b a1, .i a2, .s a3, .s a4, .i a5, .s a6, .l a7] =
 cond a1 (
 (L_spec_l1ThingOk none [.s a6, .l a7, .i a0]).bind fun y1 =>
 some [.b ((g y1 0).bool)]) (
 cond (Eng.seq a6 (⟨#[]⟩ : ByteArray)) (
 some [.b ((a7.length : Int) == 0)]) (
 some [.b false])) := (Lim_eq _ _).trans (by kernel_rfl)
theorem k_spec_l3Ok : SigOk Tryz.prog (d_spec_l3Ok.sig (L_spec_l3Ok none)) ∧ (d_spec_l3Ok.sig (L_spec_l3Ok none)).ok = true := sound_lim (known_cons k_spec_l1Width (by kernel_rfl) (known_cons k_spec_l1ThingOk (by kernel_rfl) (known_cons k_spec_l3NameOk (by kernel_rfl) (known_cons k_spec_l3Uses (by kernel_rfl) (known_cons k_spec_l3NumberOk (by kernel_rfl) known_nil))))) (by kernel_rfl) (by kernel_rfl) (by kernel_rfl)
def d_spec_FormThing : FD := { fn := 22, nb := 0, pre := ⟨[.ag [.s 0, .fz 9 false 1], .sc (.i .i64 2)], []⟩, post := ⟨[.sc (.s 0)], []⟩, sh := false, cuts := [⟨5, [2, 5, 6], ⟨[.sc (.pt 0 0), .sc (.ow 1), .sc (.i .i64 0)], [.bx [.s 1, .fz 9 false 2], .rw 5 true 3]⟩⟩] }
noncomputable def L_spec_FormThing : Option Nat → Lv → Option Lv := Lim Tryz.prog [d_spec_l1ThingOk.sig (L_spec_l1ThingOk none)] d_spec_FormThing Tryz.f22
theorem e_spec_FormThing_i (a0 : ByteArray) (a1 : Rw) (a2 : Int) : L_spec_FormThing none [.s a0, .l a1, .i a2] =
 (L_spec_l1ThingOk none [.s a0, .l a1, .i a2]).bind fun y1 =>
 cond (!(g y1 0).bool) (
 some [.s (⟨#[]⟩ : ByteArray)]) (
 L_spec_FormThing (some 5) [.i 0, .s a0, .l a1, .l ([[.i (IntKind.u8.wrap (a1.length : Int))]] : Rw)]) := (Lim_eq _ _).trans (by kernel_rfl)
theorem e_spec_FormThing_5 (a0 : Int) (a1 : ByteArray) (a2 : Rw) (a3 : Rw) : L_spec_FormThing (some 5) [.i a0, .s a1, .l a2, .l a3] =
 cond (decide (a0 < (a2.length : Int))) (
 cond (inb a0 a2.length) (
 cond (decide (a3.length + (rowsOf ((rd a2 a0.toNat 0).str)).length ≤ most)) (
 L_spec_FormThing (some 5) [.i (IntKind.i64.wrap (a0 + 1)), .s a1, .l a2, .l (a3 ++ (rowsOf ((rd a2 a0.toNat 0).str)))]) (
 none)) (
 none)) (
 cond (decide (a3.length + (rowsOf a1).length ≤ most)) (
 some [.s (bytesOf (a3 ++ (rowsOf a1)))]) (
 none)) := (Lim_eq _ _).trans (by kernel_rfl)
theorem k_spec_FormThing : SigOk Tryz.prog (d_spec_FormThing.sig (L_spec_FormThing none)) ∧ (d_spec_FormThing.sig (L_spec_FormThing none)).ok = true := sound_lim (known_cons k_spec_l1ThingOk (by kernel_rfl) known_nil) (by kernel_rfl) (by kernel_rfl) (by kernel_rfl)
def d_spec_FormEntry : FD := { fn := 158, nb := 0, pre := ⟨[.ag [.i .i64 0, .s 1, .s 2, .i .i64 3, .s 4, .fz 9 false 5], .sc (.i .i64 6)], []⟩, post := ⟨[.sc (.s 0)], []⟩, sh := false, cuts := [] }
noncomputable def L_spec_FormEntry : Option Nat → Lv → Option Lv := Lim Tryz.prog [d_spec_FormThing.sig (L_spec_FormThing none), d_spec_l3Ok.sig (L_spec_l3Ok none)] d_spec_FormEntry Tryz.f158
theorem e_spec_FormEntry_i (a0 : Int) (a1 : ByteArray) (a2 : ByteArray) (a3 : Int) (a4 : ByteArray) (a5 : Rw) (a6 : Int) : L_spec_FormEntry none [.i a0, .s a1, .s a2, .i a3, .s a4, .l a5, .i a6] =
 (L_spec_l3Ok none [.i a0, .s a1, .s a2, .i a3, .s a4, .l a5, .i a6]).bind fun y1 =>
 cond (!(g y1 0).bool) (
 some [.s (⟨#[]⟩ : ByteArray)]) (
 cond (decide (([[.i (IntKind.u8.wrap a0)], [.i (IntKind.u8.wrap (IntKind.i64.wrap (a3.tdiv 16777216)))], [.i (IntKind.u8.wrap ((IntKind.i64.wrap (a3.tdiv 65536)).tmod 256))], [.i (IntKind.u8.wrap ((IntKind.i64.wrap (a3.tdiv 256)).tmod 256))], [.i (IntKind.u8.wrap (a3.tmod 256))], [.i (IntKind.u8.wrap (a2.size : Int))]] : Rw).length + (rowsOf a2).length ≤ most)) (
 cond (decide ((([[.i (IntKind.u8.wrap a0)], [.i (IntKind.u8.wrap (IntKind.i64.wrap (a3.tdiv 16777216)))], [.i (IntKind.u8.wrap ((IntKind.i64.wrap (a3.tdiv 65536)).tmod 256))], [.i (IntKind.u8.wrap ((IntKind.i64.wrap (a3.tdiv 256)).tmod 256))], [.i (IntKind.u8.wrap (a3.tmod 256))], [.i (IntKind.u8.wrap (a2.size : Int))]] : Rw) ++ (rowsOf a2)).length + (rowsOf a1).length ≤ most)) (
 cond (a0 == 1) (
 (L_spec_FormThing none [.s a4, .l a5, .i a6]).bind fun y2 =>
 cond (decide (((([[.i (IntKind.u8.wrap a0)], [.i (IntKind.u8.wrap (IntKind.i64.wrap (a3.tdiv 16777216)))], [.i (IntKind.u8.wrap ((IntKind.i64.wrap (a3.tdiv 65536)).tmod 256))], [.i (IntKind.u8.wrap ((IntKind.i64.wrap (a3.tdiv 256)).tmod 256))], [.i (IntKind.u8.wrap (a3.tmod 256))], [.i (IntKind.u8.wrap (a2.size : Int))]] : Rw) ++ (rowsOf a2)) ++ (rowsOf a1)).length + (rowsOf ((g y2 0).str)).length ≤ most)) (
 some [.s (bytesOf (((([[.i (IntKind.u8.wrap a0)], [.i (IntKind.u8.wrap (IntKind.i64.wrap (a3.tdiv 16777216)))], [.i (IntKind.u8.wrap ((IntKind.i64.wrap (a3.tdiv 65536)).tmod 256))], [.i (IntKind.u8.wrap ((IntKind.i64.wrap (a3.tdiv 256)).tmod 256))], [.i (IntKind.u8.wrap (a3.tmod 256))], [.i (IntKind.u8.wrap (a2.size : Int))]] : Rw) ++ (rowsOf a2)) ++ (rowsOf a1)) ++ (rowsOf ((g y2 0).str))))]) (
 none)) (
 some [.s (bytesOf ((([[.i (IntKind.u8.wrap a0)], [.i (IntKind.u8.wrap (IntKind.i64.wrap (a3.tdiv 16777216)))], [.i (IntKind.u8.wrap ((IntKind.i64.wrap (a3.tdiv 65536)).tmod 256))], [.i (IntKind.u8.wrap ((IntKind.i64.wrap (a3.tdiv 256)).tmod 256))], [.i (IntKind.u8.wrap (a3.tmod 256))], [.i (IntKind.u8.wrap (a2.size : Int))]] : Rw) ++ (rowsOf a2)) ++ (rowsOf a1)))])) (
 none)) (
 none)) := (Lim_eq _ _).trans (by kernel_rfl)
theorem k_spec_FormEntry : SigOk Tryz.prog (d_spec_FormEntry.sig (L_spec_FormEntry none)) ∧ (d_spec_FormEntry.sig (L_spec_FormEntry none)).ok = true := sound_lim (known_cons k_spec_FormThing (by kernel_rfl) (known_cons k_spec_l3Ok (by kernel_rfl) known_nil)) (by kernel_rfl) (by kernel_rfl) (by kernel_rfl)
def d_spec_ReadThing : FD := { fn := 176, nb := 0, pre := ⟨[.sc (.s 0), .sc (.i .i64 1)], []⟩, post := ⟨[.tu [(true, [.s 0, .ow 0]), (false, [.b 1])]], [.rw 9 true 2]⟩, sh := false, cuts := [⟨6, [0, 1, 4, 6, 7, 8], ⟨[.sc (.s 0), .sc (.i .i64 1), .sc (.pt 0 0), .sc (.i .i64 2), .sc (.pt 1 0), .sc (.i .i64 3)], [.bx [.s 4, .ow 2], .bx [.s 5, .ow 3], .rw 9 true 6, .rw 9 true 7]⟩⟩] }
noncomputable def L_spec_ReadThing : Option Nat → Lv → Option Lv := Lim Tryz.prog [d_spec_l1Width.sig (L_spec_l1Width none), d_spec_l1ThingOk.sig (L_spec_l1ThingOk none)] d_spec_ReadThing Tryz.f176
theorem e_spec_ReadThing_i (a0 : ByteArray) (a1 : Int) : L_spec_ReadThing none [.s a0, .i a1] =
 (L_spec_l1Width none [.i a1]).bind fun y1 =>
 cond (!(g y1 0).bool) (
 some [.s (⟨#[]⟩ : ByteArray), .b false, .l []]) (
 cond ((a0.size : Int) == 0) (
 some [.s (⟨#[]⟩ : ByteArray), .b false, .l []]) (
 cond (inb 0 a0.size) (
 cond (decide ((a0.size : Int) < (IntKind.i64.wrap (1 + (IntKind.i64.wrap ((IntKind.i64.wrap (byteAt a0 0)) * a1)))))) (
 some [.s (⟨#[]⟩ : ByteArray), .b false, .l []]) (
 cond (inb 0 a0.size) (
 cond (decide (0 ≤ (IntKind.i64.wrap (1 + (IntKind.i64.wrap ((IntKind.i64.wrap (byteAt a0 0)) * a1)))))) (
 cond (decide ((IntKind.i64.wrap (1 + (IntKind.i64.wrap ((IntKind.i64.wrap (byteAt a0 0)) * a1)))) ≤ (a0.size : Int))) (
 L_spec_ReadThing (some 6) [.s a0, .i a1, .i (IntKind.i64.wrap (byteAt a0 0)), .i 0, .s (⟨#[]⟩ : ByteArray), .s (a0.extract ((IntKind.i64.wrap (1 + (IntKind.i64.wrap ((IntKind.i64.wrap (byteAt a0 0)) * a1)))).toNat) a0.size), .l [], .l []]) (
 none)) (
 none)) (
 none))) (
 none))) := (Lim_eq _ _).trans (by kernel_rfl)
theorem e_spec_ReadThing_6 (a0 : ByteArray) (a1 : Int) (a2 : Int) (a3 : Int) (a4 : ByteArray) (a5 : ByteArray) (a6 : Rw) (a7 : Rw) : L_spec_ReadThing (some 6) [.s a0, .i a1, .i a2, .i a3, .s a4, .s a5, .l a6, .l a7] =
 cond (decide (a3 < a2)) (
 cond (decide (0 ≤ (IntKind.i64.wrap ((IntKind.i64.wrap (1 + (IntKind.i64.wrap (a3 * a1)))) + a1)))) (
 cond (decide ((IntKind.i64.wrap ((IntKind.i64.wrap (1 + (IntKind.i64.wrap (a3 * a1)))) + a1)) ≤ (a0.size : Int))) (
 cond (decide (0 ≤ (IntKind.i64.wrap (1 + (IntKind.i64.wrap (a3 * a1)))))) (
 cond (decide ((IntKind.i64.wrap (1 + (IntKind.i64.wrap (a3 * a1)))) ≤ ((IntKind.i64.wrap ((IntKind.i64.wrap (1 + (IntKind.i64.wrap (a3 * a1)))) + a1)).toNat : Int))) (
 cond (decide (a7.length + ([[.s (a0.extract ((IntKind.i64.wrap (1 + (IntKind.i64.wrap (a3 * a1)))).toNat) ((IntKind.i64.wrap ((IntKind.i64.wrap (1 + (IntKind.i64.wrap (a3 * a1)))) + a1)).toNat))]] : Rw).length ≤ most)) (
 L_spec_ReadThing (some 6) [.s a0, .i a1, .i a2, .i (IntKind.i64.wrap (a3 + 1)), .s a4, .s a5, .l a6, .l (a7 ++ ([[.s (a0.extract ((IntKind.i64.wrap (1 + (IntKind.i64.wrap (a3 * a1)))).toNat) ((IntKind.i64.wrap ((IntKind.i64.wrap (1 + (IntKind.i64.wrap (a3 * a1)))) + a1)).toNat))]] : Rw))]) (
 none)) (
 none)) (
 none)) (
 none)) (
 none)) (
 (L_spec_l1ThingOk none [.s a5, .l a7, .i a1]).bind fun y1 =>
 cond (!(g y1 0).bool) (
 some [.s (⟨#[]⟩ : ByteArray), .b false, .l []]) (
 some [.s a5, .b true, .l a7])) := (Lim_eq _ _).trans (by kernel_rfl)
theorem k_spec_ReadThing : SigOk Tryz.prog (d_spec_ReadThing.sig (L_spec_ReadThing none)) ∧ (d_spec_ReadThing.sig (L_spec_ReadThing none)).ok = true := sound_lim (known_cons k_spec_l1Width (by kernel_rfl) (known_cons k_spec_l1ThingOk (by kernel_rfl) known_nil)) (by kernel_rfl) (by kernel_rfl) (by kernel_rfl)
def d_spec_ReadEntry : FD := { fn := 113, nb := 0, pre := ⟨[.sc (.s 0), .sc (.i .i64 1)], []⟩, post := ⟨[.tu [(true, [.i .i64 0, .s 1, .s 2, .i .i64 3, .s 4, .ow 0]), (false, [.b 5])]], [.rw 9 true 6]⟩, sh := false, cuts := [⟨9, [0, 1, 4, 6], ⟨[.sc (.s 0), .sc (.i .i64 1), .sc (.pt 0 0), .sc (.pt 1 0)], [.bx [.i .i64 2, .s 3, .s 4, .i .i64 5, .s 6, .ow 3], .bx [.i .i64 7, .s 8, .s 9, .i .i64 10, .s 11, .ow 2], .rw 9 true 12, .rw 9 true 13]⟩⟩] }
noncomputable def L_spec_ReadEntry : Option Nat → Lv → Option Lv := Lim Tryz.prog [d_spec_l1Width.sig (L_spec_l1Width none), d_spec_l3Ok.sig (L_spec_l3Ok none), d_spec_FormEntry.sig (L_spec_FormEntry none), d_spec_ReadThing.sig (L_spec_ReadThing none)] d_spec_ReadEntry Tryz.f113
theorem e_spec_ReadEntry_i (a0 : ByteArray) (a1 : Int) : L_spec_ReadEntry none [.s a0, .i a1] =
 (L_spec_l1Width none [.i a1]).bind fun y1 =>
 cond (!(g y1 0).bool) (
 some [.i 0, .s (⟨#[]⟩ : ByteArray), .s (⟨#[]⟩ : ByteArray), .i 0, .s (⟨#[]⟩ : ByteArray), .b false, .l []]) (
 cond (decide ((a0.size : Int) < 6)) (
 some [.i 0, .s (⟨#[]⟩ : ByteArray), .s (⟨#[]⟩ : ByteArray), .i 0, .s (⟨#[]⟩ : ByteArray), .b false, .l []]) (
 cond (inb 5 a0.size) (
 cond (decide ((a0.size : Int) < (IntKind.i64.wrap (6 + (IntKind.i64.wrap (byteAt a0 5)))))) (
 some [.i 0, .s (⟨#[]⟩ : ByteArray), .s (⟨#[]⟩ : ByteArray), .i 0, .s (⟨#[]⟩ : ByteArray), .b false, .l []]) (
 cond (inb 0 a0.size) (
 cond (inb 1 a0.size) (
 cond (inb 2 a0.size) (
 cond (inb 3 a0.size) (
 cond (inb 4 a0.size) (
 cond (inb 5 a0.size) (
 cond (decide (0 ≤ (IntKind.i64.wrap (6 + (IntKind.i64.wrap (byteAt a0 5)))))) (
 cond (decide ((IntKind.i64.wrap (6 + (IntKind.i64.wrap (byteAt a0 5)))) ≤ (a0.size : Int))) (
 cond (decide (6 ≤ ((IntKind.i64.wrap (6 + (IntKind.i64.wrap (byteAt a0 5)))).toNat : Int))) (
 cond (inb 5 a0.size) (
 cond (decide (0 ≤ (IntKind.i64.wrap (6 + (IntKind.i64.wrap (byteAt a0 5)))))) (
 cond (decide ((IntKind.i64.wrap (6 + (IntKind.i64.wrap (byteAt a0 5)))) ≤ (a0.size : Int))) (
 cond ((IntKind.i64.wrap (byteAt a0 0)) == 1) (
 (L_spec_ReadThing none [.s (a0.extract ((IntKind.i64.wrap (6 + (IntKind.i64.wrap (byteAt a0 5)))).toNat) a0.size), .i a1]).bind fun y2 =>
 L_spec_ReadEntry (some 9) [.s a0, .i a1, .i 0, .s (⟨#[]⟩ : ByteArray), .s (⟨#[]⟩ : ByteArray), .i 0, .s (⟨#[]⟩ : ByteArray), .i (IntKind.i64.wrap (byteAt a0 0)), .s (⟨#[]⟩ : ByteArray), .s (a0.extract 6 ((IntKind.i64.wrap (6 + (IntKind.i64.wrap (byteAt a0 5)))).toNat)), .i (IntKind.i64.wrap ((IntKind.i64.wrap ((IntKind.i64.wrap ((IntKind.i64.wrap ((IntKind.i64.wrap (byteAt a0 1)) * 16777216)) + (IntKind.i64.wrap ((IntKind.i64.wrap (byteAt a0 2)) * 65536)))) + (IntKind.i64.wrap ((IntKind.i64.wrap (byteAt a0 3)) * 256)))) + (IntKind.i64.wrap (byteAt a0 4)))), .s ((g y2 0).str), .l ((g y2 2).list), .l []]) (
 L_spec_ReadEntry (some 9) [.s a0, .i a1, .i 0, .s (⟨#[]⟩ : ByteArray), .s (⟨#[]⟩ : ByteArray), .i 0, .s (⟨#[]⟩ : ByteArray), .i (IntKind.i64.wrap (byteAt a0 0)), .s (a0.extract ((IntKind.i64.wrap (6 + (IntKind.i64.wrap (byteAt a0 5)))).toNat) a0.size), .s (a0.extract 6 ((IntKind.i64.wrap (6 + (IntKind.i64.wrap (byteAt a0 5)))).toNat)), .i (IntKind.i64.wrap ((IntKind.i64.wrap ((IntKind.i64.wrap ((IntKind.i64.wrap ((IntKind.i64.wrap (byteAt a0 1)) * 16777216)) + (IntKind.i64.wrap ((IntKind.i64.wrap (byteAt a0 2)) * 65536)))) + (IntKind.i64.wrap ((IntKind.i64.wrap (byteAt a0 3)) * 256)))) + (IntKind.i64.wrap (byteAt a0 4)))), .s (⟨#[]⟩ : ByteArray), .l [], .l []])) (
 none)) (
 none)) (
 none)) (
 none)) (
 none)) (
 none)) (
 none)) (
 none)) (
 none)) (
 none)) (
 none)) (
 none))) (
 none))) := (Lim_eq _ _).trans (by kernel_rfl)
theorem e_spec_ReadEntry_9 (a0 : ByteArray) (a1 : Int) (a2 : Int) (a3 : ByteArray) (a4 : ByteArray) (a5 : Int) (a6 : ByteArray) (a7 : Int) (a8 : ByteArray) (a9 : ByteArray) (a10 : Int) (a11 : ByteArray) (a12 : Rw) (a13 : Rw) : L_spec_ReadEntry (some 9) [.s a0, .i a1, .i a2, .s a3, .s a4, .i a5, .s a6, .i a7, .s a8, .s a9, .i a10, .s a11, .l a12, .l a13] =
 (L_spec_l3Ok none [.i a7, .s a8, .s a9, .i a10, .s a11, .l a12, .i a1]).bind fun y1 =>
 cond (!(g y1 0).bool) (
 some [.i 0, .s (⟨#[]⟩ : ByteArray), .s (⟨#[]⟩ : ByteArray), .i 0, .s (⟨#[]⟩ : ByteArray), .b false, .l []]) (
 (L_spec_FormEntry none [.i a7, .s a8, .s a9, .i a10, .s a11, .l a12, .i a1]).bind fun y2 =>
 cond (!Eng.seq ((g y2 0).str) a0) (
 some [.i 0, .s (⟨#[]⟩ : ByteArray), .s (⟨#[]⟩ : ByteArray), .i 0, .s (⟨#[]⟩ : ByteArray), .b false, .l []]) (
 some [.i a7, .s a8, .s a9, .i a10, .s a11, .b true, .l a12])) := (Lim_eq _ _).trans (by kernel_rfl)
theorem k_spec_ReadEntry : SigOk Tryz.prog (d_spec_ReadEntry.sig (L_spec_ReadEntry none)) ∧ (d_spec_ReadEntry.sig (L_spec_ReadEntry none)).ok = true := sound_lim (known_cons k_spec_l1Width (by kernel_rfl) (known_cons k_spec_l3Ok (by kernel_rfl) (known_cons k_spec_FormEntry (by kernel_rfl) (known_cons k_spec_ReadThing (by kernel_rfl) known_nil)))) (by kernel_rfl) (by kernel_rfl) (by kernel_rfl)
def d_spec_l1Thing : FD := { fn := 148, nb := 0, pre := ⟨[.ag [.s 0, .fz 9 false 1]], []⟩, post := ⟨[.ag [.s 0, .ow 0]], [.rw 9 true 1]⟩, sh := false, cuts := [] }
noncomputable def L_spec_l1Thing : Option Nat → Lv → Option Lv := Lim Tryz.prog [] d_spec_l1Thing Tryz.f148
theorem e_spec_l1Thing_i (a0 : ByteArray) (a1 : Rw) : L_spec_l1Thing none [.s a0, .l a1] =
 cond (decide (([] : Rw).length + a1.length ≤ most)) (
 some [.s a0, .l (([] : Rw) ++ a1)]) (
 none) := (Lim_eq _ _).trans (by kernel_rfl)
theorem k_spec_l1Thing : SigOk Tryz.prog (d_spec_l1Thing.sig (L_spec_l1Thing none)) ∧ (d_spec_l1Thing.sig (L_spec_l1Thing none)).ok = true := sound_lim known_nil (by kernel_rfl) (by kernel_rfl) (by kernel_rfl)
def d_spec_l4Copy : FD := { fn := 115, nb := 0, pre := ⟨[.ag [.i .i64 0, .i .i64 1, .i .i64 2, .i .i64 3, .fz 90 false 4, .fz 156 false 5, .fz 158 false 6]], []⟩, post := ⟨[.ag [.i .i64 0, .i .i64 1, .i .i64 2, .i .i64 3, .ow 0, .ow 1, .ow 2]], [.rw 90 true 4, .rw 156 true 5, .rw 158 true 6]⟩, sh := false, cuts := [⟨4, [1, 2, 3, 4], ⟨[.sc (.pt 0 0), .sc (.pt 1 0), .sc (.pt 2 0), .sc (.i .i64 0)], [.bx [.i .i64 1, .i .i64 2, .i .i64 3, .i .i64 4, .fz 90 false 5, .fz 156 false 6, .fz 158 false 7], .bx [.i .i64 8, .i .i64 9, .i .i64 10, .i .i64 11, .ow 3, .ow 4, .ow 5], .bx [.i .i64 12, .i .i64 13, .i .i64 14, .i .i64 15, .ow 6, .fz 156 false 16, .fz 158 false 17], .rw 90 true 18, .rw 156 true 19, .rw 158 true 20, .rw 90 true 21]⟩⟩] }
noncomputable def L_spec_l4Copy : Option Nat → Lv → Option Lv := Lim Tryz.prog [d_spec_l1Thing.sig (L_spec_l1Thing none)] d_spec_l4Copy Tryz.f115
theorem e_spec_l4Copy_i (a0 : Int) (a1 : Int) (a2 : Int) (a3 : Int) (a4 : Rw) (a5 : Rw) (a6 : Rw) : L_spec_l4Copy none [.i a0, .i a1, .i a2, .i a3, .l a4, .l a5, .l a6] =
 L_spec_l4Copy (some 4) [.i 0, .i a0, .i a1, .i a2, .i a3, .l a4, .l a5, .l a6, .i 0, .i 0, .i 0, .i 0, .i a0, .i a1, .i a2, .i a3, .l a5, .l a6, .l [], .l [], .l [], .l ([] : Rw)] := (Lim_eq _ _).trans (by kernel_rfl)
theorem e_spec_l4Copy_4 (a0 : Int) (a1 : Int) (a2 : Int) (a3 : Int) (a4 : Int) (a5 : Rw) (a6 : Rw) (a7 : Rw) (a8 : Int) (a9 : Int) (a10 : Int) (a11 : Int) (a12 : Int) (a13 : Int) (a14 : Int) (a15 : Int) (a16 : Rw) (a17 : Rw) (a18 : Rw) (a19 : Rw) (a20 : Rw) (a21 : Rw) : L_spec_l4Copy (some 4) [.i a0, .i a1, .i a2, .i a3, .i a4, .l a5, .l a6, .l a7, .i a8, .i a9, .i a10, .i a11, .i a12, .i a13, .i a14, .i a15, .l a16, .l a17, .l a18, .l a19, .l a20, .l a21] =
 cond (decide (a0 < (a5.length : Int))) (
 cond (inb a0 a5.length) (
 (L_spec_l1Thing none [.s ((rd a5 a0.toNat 2).str), .l ((rd a5 a0.toNat 3).list)]).bind fun y1 =>
 cond (decide (a21.length + ([[.s ((rd a5 a0.toNat 0).str), .i ((rd a5 a0.toNat 1).int), .s ((g y1 0).str), .l ((g y1 1).list)]] : Rw).length ≤ most)) (
 L_spec_l4Copy (some 4) [.i (IntKind.i64.wrap (a0 + 1)), .i a1, .i a2, .i a3, .i a4, .l a5, .l a6, .l a7, .i a8, .i a9, .i a10, .i a11, .i a12, .i a13, .i a14, .i a15, .l a16, .l a17, .l a18, .l a19, .l a20, .l (a21 ++ ([[.s ((rd a5 a0.toNat 0).str), .i ((rd a5 a0.toNat 1).int), .s ((g y1 0).str), .l ((g y1 1).list)]] : Rw))]) (
 none)) (
 none)) (
 cond (decide (([] : Rw).length + a6.length ≤ most)) (
 cond (decide (([] : Rw).length + a7.length ≤ most)) (
 some [.i a12, .i a13, .i a14, .i a15, .l a21, .l (([] : Rw) ++ a6), .l (([] : Rw) ++ a7)]) (
 none)) (
 none)) := (Lim_eq _ _).trans (by kernel_rfl)
theorem k_spec_l4Copy : SigOk Tryz.prog (d_spec_l4Copy.sig (L_spec_l4Copy none)) ∧ (d_spec_l4Copy.sig (L_spec_l4Copy none)).ok = true := sound_lim (known_cons k_spec_l1Thing (by kernel_rfl) known_nil) (by kernel_rfl) (by kernel_rfl) (by kernel_rfl)
def d_spec_l4Find : FD := { fn := 128, nb := 0, pre := ⟨[.ag [.i .i64 0, .i .i64 1, .i .i64 2, .i .i64 3, .fz 90 false 4, .fz 156 false 5, .fz 158 false 6], .sc (.s 7)], []⟩, post := ⟨[.sc (.i .i64 0)], []⟩, sh := false, cuts := [⟨2, [1, 2, 5], ⟨[.sc (.s 0), .sc (.pt 0 0), .sc (.i .i64 1)], [.bx [.i .i64 2, .i .i64 3, .i .i64 4, .i .i64 5, .fz 90 false 6, .fz 156 false 7, .fz 158 false 8]]⟩⟩] }
noncomputable def L_spec_l4Find : Option Nat → Lv → Option Lv := Lim Tryz.prog [] d_spec_l4Find Tryz.f128
theorem e_spec_l4Find_i (a0 : Int) (a1 : Int) (a2 : Int) (a3 : Int) (a4 : Rw) (a5 : Rw) (a6 : Rw) (a7 : ByteArray) : L_spec_l4Find none [.i a0, .i a1, .i a2, .i a3, .l a4, .l a5, .l a6, .s a7] =
 L_spec_l4Find (some 2) [.s a7, .i 0, .i a0, .i a1, .i a2, .i a3, .l a4, .l a5, .l a6] := (Lim_eq _ _).trans (by kernel_rfl)
theorem e_spec_l4Find_2 (a0 : ByteArray) (a1 : Int) (a2 : Int) (a3 : Int) (a4 : Int) (a5 : Int) (a6 : Rw) (a7 : Rw) (a8 : Rw) : L_spec_l4Find (some 2) [.s a0, .i a1, .i a2, .i a3, .i a4, .i a5, .l a6, .l a7, .l a8] =
 cond (decide (a1 < (a6.length : Int))) (
 cond (inb a1 a6.length) (
 cond (Eng.seq ((rd a6 a1.toNat 0).str) a0) (
 some [.i a1]) (
 L_spec_l4Find (some 2) [.s a0, .i (IntKind.i64.wrap (a1 + 1)), .i a2, .i a3, .i a4, .i a5, .l a6, .l a7, .l a8])) (
 none)) (
 some [.i (-1)]) := (Lim_eq _ _).trans (by kernel_rfl)
theorem k_spec_l4Find : SigOk Tryz.prog (d_spec_l4Find.sig (L_spec_l4Find none)) ∧ (d_spec_l4Find.sig (L_spec_l4Find none)).ok = true := sound_lim known_nil (by kernel_rfl) (by kernel_rfl) (by kernel_rfl)
end KV
end
section
set_option maxRecDepth 100000
namespace KV
open Go Go.Eng Go.Proofs
def d_spec_l4Lease : FD := { fn := 180, nb := 0, pre := ⟨[.ag [.i .i64 0, .i .i64 1, .i .i64 2, .i .i64 3, .fz 90 false 4, .fz 156 false 5, .ow 0], .sc (.s 6), .sc (.i .i64 7)], [.rw 158 false 8]⟩, post := ⟨[.ag [.i .i64 0, .i .i64 1, .i .i64 2, .i .i64 3, .i .i64 4, .fz 90 false 5, .fz 156 false 6, .ow 0, .s 7, .i .i64 8, .s 9, .s 10]], [.rw 158 false 11]⟩, sh := true, cuts := [] }
noncomputable def L_spec_l4Lease : Option Nat → Lv → Option Lv := Lim Tryz.prog [] d_spec_l4Lease Tryz.f180
theorem e_spec_l4Lease_i (a0 : Int) (a1 : Int) (a2 : Int) (a3 : Int) (a4 : Rw) (a5 : Rw) (a6 : ByteArray) (a7 : Int) (a8 : Rw) : L_spec_l4Lease none [.i a0, .i a1, .i a2, .i a3, .l a4, .l a5, .s a6, .i a7, .l a8] =
 cond (decide (200 ≤ (a8.length : Int))) (
 some [.i 4, .i 0, .i 0, .i 0, .i 0, .l ([]), .l ([]), .s (⟨#[]⟩ : ByteArray), .i 0, .s (⟨#[]⟩ : ByteArray), .s (⟨#[]⟩ : ByteArray), .l []]) (
 cond (decide (1000000000 ≤ a2)) (
 some [.i 4, .i 0, .i 0, .i 0, .i 0, .l ([]), .l ([]), .s (⟨#[]⟩ : ByteArray), .i 0, .s (⟨#[]⟩ : ByteArray), .s (⟨#[]⟩ : ByteArray), .l []]) (
 cond (decide (a8.length + ([[.i (IntKind.i64.wrap (a2 + 1)), .s a6, .i (IntKind.i64.wrap (a1 + a7))]] : Rw).length ≤ most)) (
 some [.i 0, .i a0, .i a1, .i (IntKind.i64.wrap (a2 + 1)), .i a3, .l a4, .l a5, .s (⟨#[]⟩ : ByteArray), .i (IntKind.i64.wrap (a2 + 1)), .s (⟨#[]⟩ : ByteArray), .s (⟨#[]⟩ : ByteArray), .l (a8 ++ ([[.i (IntKind.i64.wrap (a2 + 1)), .s a6, .i (IntKind.i64.wrap (a1 + a7))]] : Rw))]) (
 none))) := (Lim_eq _ _).trans (by kernel_rfl)
theorem k_spec_l4Lease : SigOk Tryz.prog (d_spec_l4Lease.sig (L_spec_l4Lease none)) ∧ (d_spec_l4Lease.sig (L_spec_l4Lease none)).ok = true := sound_lim known_nil (by kernel_rfl) (by kernel_rfl) (by kernel_rfl)
def d_spec_Sum : FD := { fn := 21, nb := 0, pre := ⟨[.sc (.s 0), .sc (.i .i64 1)], []⟩, post := ⟨[.sc (.s 0)], []⟩, sh := false, cuts := [⟨5, [0, 1, 5, 6], ⟨[.sc (.s 0), .sc (.i .i64 1), .sc (.i .u64 2), .sc (.i .i64 3)], []⟩⟩, ⟨10, [1, 5, 7, 8], ⟨[.sc (.i .i64 0), .sc (.i .u64 1), .sc (.ow 0), .sc (.i .i64 2)], [.rw 5 true 3]⟩⟩] }
noncomputable def L_spec_Sum : Option Nat → Lv → Option Lv := Lim Tryz.prog [d_spec_l1Width.sig (L_spec_l1Width none)] d_spec_Sum Tryz.f21
theorem e_spec_Sum_i (a0 : ByteArray) (a1 : Int) : L_spec_Sum none [.s a0, .i a1] =
 (L_spec_l1Width none [.i a1]).bind fun y1 =>
 cond (!(g y1 0).bool) (
 some [.s (⟨#[]⟩ : ByteArray)]) (
 L_spec_Sum (some 5) [.s a0, .i a1, .i 14695981039346656037, .i 0]) := (Lim_eq _ _).trans (by kernel_rfl)
theorem e_spec_Sum_5 (a0 : ByteArray) (a1 : Int) (a2 : Int) (a3 : Int) : L_spec_Sum (some 5) [.s a0, .i a1, .i a2, .i a3] =
 cond (decide (a3 < (a0.size : Int))) (
 cond (inb a3 a0.size) (
 L_spec_Sum (some 5) [.s a0, .i a1, .i (IntKind.u64.wrap ((IntKind.u64.wrap (BitVec.ofInt (IntKind.u64).bits a2 ^^^ BitVec.ofInt (IntKind.u64).bits (IntKind.u64.wrap (byteAt a0 a3.toNat))).toNat) * 1099511628211)), .i (IntKind.i64.wrap (a3 + 1))]) (
 none)) (
 L_spec_Sum (some 10) [.i a1, .i a2, .i 0, .l ([] : Rw)]) := (Lim_eq _ _).trans (by kernel_rfl)
theorem e_spec_Sum_10 (a0 : Int) (a1 : Int) (a2 : Int) (a3 : Rw) : L_spec_Sum (some 10) [.i a0, .i a1, .i a2, .l a3] =
 cond (decide (a2 < a0)) (
 cond (decide (([[.i (IntKind.u8.wrap (a1.tmod 256))]] : Rw).length + a3.length ≤ most)) (
 L_spec_Sum (some 10) [.i a0, .i (IntKind.u64.wrap (a1.tdiv 256)), .i (IntKind.i64.wrap (a2 + 1)), .l (([[.i (IntKind.u8.wrap (a1.tmod 256))]] : Rw) ++ a3)]) (
 none)) (
 some [.s (bytesOf a3)]) := (Lim_eq _ _).trans (by kernel_rfl)
theorem k_spec_Sum : SigOk Tryz.prog (d_spec_Sum.sig (L_spec_Sum none)) ∧ (d_spec_Sum.sig (L_spec_Sum none)).ok = true := sound_lim (known_cons k_spec_l1Width (by kernel_rfl) known_nil) (by kernel_rfl) (by kernel_rfl) (by kernel_rfl)
def d_spec_l4Put : FD := { fn := 177, nb := 0, pre := ⟨[.ag [.i .i64 0, .i .i64 1, .i .i64 2, .i .i64 3, .fz 90 false 4, .fz 156 false 5, .ow 0], .ag [.i .i64 6, .s 7, .s 8, .i .i64 9, .s 10, .fz 9 false 11]], [.rw 158 false 12]⟩, post := ⟨[.ag [.i .i64 0, .i .i64 1, .i .i64 2, .i .i64 3, .i .i64 4, .fz 90 false 5, .fz 156 false 6, .ow 0, .s 7, .i .i64 8, .s 9, .s 10]], [.rw 158 false 11]⟩, sh := true, cuts := [⟨4, [2, 3, 4, 5, 6, 7], ⟨[.sc (.pt 0 0), .sc (.pt 1 0), .sc (.pt 2 0), .sc (.s 0), .sc (.s 1), .sc (.i .i64 2)], [.bx [.i .i64 3, .i .i64 4, .i .i64 5, .i .i64 6, .fz 90 false 7, .fz 156 false 8, .ow 3], .bx [.i .i64 9, .s 10, .s 11, .i .i64 12, .s 13, .fz 9 false 14], .bx [.i .i64 15, .i .i64 16, .i .i64 17, .i .i64 18, .i .i64 19, .ow 4, .ow 5, .ow 6, .s 20, .i .i64 21, .s 22, .s 23], .rw 158 false 24, .rw 90 true 25, .rw 156 true 26, .rw 158 true 27]⟩⟩, ⟨20, [2, 3, 4, 6, 10, 11, 12, 13], ⟨[.sc (.pt 0 0), .sc (.pt 1 0), .sc (.pt 2 0), .sc (.s 0), .sc (.ow 3), .sc (.b 1), .sc (.pt 4 0), .sc (.i .i64 2)], [.bx [.i .i64 3, .i .i64 4, .i .i64 5, .i .i64 6, .fz 90 false 7, .fz 156 false 8, .ow 5], .bx [.i .i64 9, .s 10, .s 11, .i .i64 12, .s 13, .fz 9 false 14], .bx [.i .i64 15, .i .i64 16, .i .i64 17, .i .i64 18, .i .i64 19, .ow 6, .ow 7, .ow 8, .s 20, .i .i64 21, .s 22, .s 23], .rw 90 false 24, .bx [.s 25, .i .i64 26, .s 27, .fz 9 true 28], .rw 158 false 29, .rw 90 true 30, .rw 156 true 31, .rw 158 true 32]⟩⟩] }
noncomputable def L_spec_l4Put : Option Nat → Lv → Option Lv := Lim Tryz.prog [d_spec_FormThing.sig (L_spec_FormThing none), d_spec_l1Thing.sig (L_spec_l1Thing none), d_spec_Sum.sig (L_spec_Sum none), d_spec_l4Find.sig (L_spec_l4Find none), d_spec_l4Lease.sig (L_spec_l4Lease none)] d_spec_l4Put Tryz.f177
theorem e_spec_l4Put_i (a0 : Int) (a1 : Int) (a2 : Int) (a3 : Int) (a4 : Rw) (a5 : Rw) (a6 : Int) (a7 : ByteArray) (a8 : ByteArray) (a9 : Int) (a10 : ByteArray) (a11 : Rw) (a12 : Rw) : L_spec_l4Put none [.i a0, .i a1, .i a2, .i a3, .l a4, .l a5, .i a6, .s a7, .s a8, .i a9, .s a10, .l a11, .l a12] =
 (L_spec_FormThing none [.s a10, .l a11, .i a0]).bind fun y1 =>
 (L_spec_Sum none [.s ((g y1 0).str), .i a0]).bind fun y2 =>
 L_spec_l4Put (some 4) [.s ((g y1 0).str), .s ((g y2 0).str), .i 0, .i a0, .i a1, .i a2, .i a3, .l a4, .l a5, .i a6, .s a7, .s a8, .i a9, .s a10, .l a11, .i 0, .i 0, .i 0, .i 0, .i 0, .s (⟨#[]⟩ : ByteArray), .i 0, .s (⟨#[]⟩ : ByteArray), .s (⟨#[]⟩ : ByteArray), .l a12, .l [], .l [], .l []] := (Lim_eq _ _).trans (by kernel_rfl)
theorem e_spec_l4Put_4 (a0 : ByteArray) (a1 : ByteArray) (a2 : Int) (a3 : Int) (a4 : Int) (a5 : Int) (a6 : Int) (a7 : Rw) (a8 : Rw) (a9 : Int) (a10 : ByteArray) (a11 : ByteArray) (a12 : Int) (a13 : ByteArray) (a14 : Rw) (a15 : Int) (a16 : Int) (a17 : Int) (a18 : Int) (a19 : Int) (a20 : ByteArray) (a21 : Int) (a22 : ByteArray) (a23 : ByteArray) (a24 : Rw) (a25 : Rw) (a26 : Rw) (a27 : Rw) : L_spec_l4Put (some 4) [.s a0, .s a1, .i a2, .i a3, .i a4, .i a5, .i a6, .l a7, .l a8, .i a9, .s a10, .s a11, .i a12, .s a13, .l a14, .i a15, .i a16, .i a17, .i a18, .i a19, .s a20, .i a21, .s a22, .s a23, .l a24, .l a25, .l a26, .l a27] =
 cond (decide (a2 < (a14.length : Int))) (
 cond (inb a2 a14.length) (
 (L_spec_l4Find none [.i a3, .i a4, .i a5, .i a6, .l a7, .l a8, .l a24, .s ((rd a14 a2.toNat 0).str)]).bind fun y1 =>
 cond (decide ((g y1 0).int < 0)) (
 some [.i 2, .i 0, .i 0, .i 0, .i 0, .l ([]), .l ([]), .s (⟨#[]⟩ : ByteArray), .i 0, .s (⟨#[]⟩ : ByteArray), .s (⟨#[]⟩ : ByteArray), .l []]) (
 L_spec_l4Put (some 4) [.s a0, .s a1, .i (IntKind.i64.wrap (a2 + 1)), .i a3, .i a4, .i a5, .i a6, .l a7, .l a8, .i a9, .s a10, .s a11, .i a12, .s a13, .l a14, .i a15, .i a16, .i a17, .i a18, .i a19, .s a20, .i a21, .s a22, .s a23, .l a24, .l a25, .l a26, .l a27])) (
 none)) (
 (L_spec_l4Find none [.i a3, .i a4, .i a5, .i a6, .l a7, .l a8, .l a24, .s a1]).bind fun y2 =>
 cond (decide (0 ≤ (g y2 0).int)) (
 cond (inb ((g y2 0).int) a7.length) (
 (L_spec_FormThing none [.s ((rd a7 (((g y2 0).int).toNat) 2).str), .l ((rd a7 (((g y2 0).int).toNat) 3).list), .i a3]).bind fun y3 =>
 cond (!Eng.seq ((g y3 0).str) a0) (
 some [.i 3, .i 0, .i 0, .i 0, .i 0, .l ([]), .l ([]), .s (⟨#[]⟩ : ByteArray), .i 0, .s ((g y3 0).str), .s a0, .l []]) (
 (L_spec_l4Lease none [.i a3, .i a4, .i a5, .i a6, .l a7, .l a8, .s a1, .i a12, .l a24]).bind fun y4 =>
 cond ((g y4 0).int == 0) (
 some [.i ((g y4 0).int), .i ((g y4 1).int), .i ((g y4 2).int), .i ((g y4 3).int), .i ((g y4 4).int), .l ((g y4 5).list), .l ((g y4 6).list), .s a1, .i ((g y4 8).int), .s ((g y4 9).str), .s ((g y4 10).str), .l ((g y4 11).list)]) (
 some [.i ((g y4 0).int), .i ((g y4 1).int), .i ((g y4 2).int), .i ((g y4 3).int), .i ((g y4 4).int), .l ((g y4 5).list), .l ((g y4 6).list), .s ((g y4 7).str), .i ((g y4 8).int), .s ((g y4 9).str), .s ((g y4 10).str), .l ((g y4 11).list)]))) (
 none)) (
 cond (decide (600 ≤ (a7.length : Int))) (
 some [.i 4, .i 0, .i 0, .i 0, .i 0, .l ([]), .l ([]), .s (⟨#[]⟩ : ByteArray), .i 0, .s (⟨#[]⟩ : ByteArray), .s (⟨#[]⟩ : ByteArray), .l []]) (
 cond (decide (1000000000 ≤ a6)) (
 some [.i 4, .i 0, .i 0, .i 0, .i 0, .l ([]), .l ([]), .s (⟨#[]⟩ : ByteArray), .i 0, .s (⟨#[]⟩ : ByteArray), .s (⟨#[]⟩ : ByteArray), .l []]) (
 (L_spec_l1Thing none [.s a13, .l a14]).bind fun y5 =>
 L_spec_l4Put (some 20) [.s a1, .b false, .i 0, .i a3, .i a4, .i a5, .i (IntKind.i64.wrap (a6 + 1)), .l a7, .l a8, .i a9, .s a10, .s a11, .i a12, .s a13, .l a14, .i a15, .i a16, .i a17, .i a18, .i a19, .s a20, .i a21, .s a22, .s a23, .l ([] : Rw), .s a1, .i (IntKind.i64.wrap (a6 + 1)), .s ((g y5 0).str), .l ((g y5 1).list), .l a24, .l a25, .l a26, .l a27])))) := (Lim_eq _ _).trans (by kernel_rfl)
theorem e_spec_l4Put_20 (a0 : ByteArray) (a1 : Bool) (a2 : Int) (a3 : Int) (a4 : Int) (a5 : Int) (a6 : Int) (a7 : Rw) (a8 : Rw) (a9 : Int) (a10 : ByteArray) (a11 : ByteArray) (a12 : Int) (a13 : ByteArray) (a14 : Rw) (a15 : Int) (a16 : Int) (a17 : Int) (a18 : Int) (a19 : Int) (a20 : ByteArray) (a21 : Int) (a22 : ByteArray) (a23 : ByteArray) (a24 : Rw) (a25 : ByteArray) (a26 : Int) (a27 : ByteArray) (a28 : Rw) (a29 : Rw) (a30 : Rw) (a31 : Rw) (a32 : Rw) : L_spec_l4Put (some 20) [.s a0, .b a1, .i a2, .i a3, .i a4, .i a5, .i a6, .l a7, .l a8, .i a9, .s a10, .s a11, .i a12, .s a13, .l a14, .i a15, .i a16, .i a17, .i a18, .i a19, .s a20, .i a21, .s a22, .s a23, .l a24, .s a25, .i a26, .s a27, .l a28, .l a29, .l a30, .l a31, .l a32] =
 cond (decide (a2 < (a7.length : Int))) (
 cond (!a1) (
 cond (inb a2 a7.length) (
 cond (!(slt ((rd a7 a2.toNat 0).str) a0 || Eng.seq ((rd a7 a2.toNat 0).str) a0)) (
 cond (decide (a24.length + ([[.s a25, .i a26, .s a27, .l a28]] : Rw).length ≤ most)) (
 cond (inb a2 a7.length) (
 cond (decide ((a24 ++ ([[.s a25, .i a26, .s a27, .l a28]] : Rw)).length + ([[.s ((rd a7 a2.toNat 0).str), .i ((rd a7 a2.toNat 1).int), .s ((rd a7 a2.toNat 2).str), .l ((rd a7 a2.toNat 3).list)]] : Rw).length ≤ most)) (
 L_spec_l4Put (some 20) [.s a0, .b true, .i (IntKind.i64.wrap (a2 + 1)), .i a3, .i a4, .i a5, .i a6, .l a7, .l a8, .i a9, .s a10, .s a11, .i a12, .s a13, .l a14, .i a15, .i a16, .i a17, .i a18, .i a19, .s a20, .i a21, .s a22, .s a23, .l ((a24 ++ ([[.s a25, .i a26, .s a27, .l a28]] : Rw)) ++ ([[.s ((rd a7 a2.toNat 0).str), .i ((rd a7 a2.toNat 1).int), .s ((rd a7 a2.toNat 2).str), .l ((rd a7 a2.toNat 3).list)]] : Rw)), .s a25, .i a26, .s a27, .l a28, .l a29, .l a30, .l a31, .l a32]) (
 none)) (
 none)) (
 none)) (
 cond (inb a2 a7.length) (
 cond (decide (a24.length + ([[.s ((rd a7 a2.toNat 0).str), .i ((rd a7 a2.toNat 1).int), .s ((rd a7 a2.toNat 2).str), .l ((rd a7 a2.toNat 3).list)]] : Rw).length ≤ most)) (
 L_spec_l4Put (some 20) [.s a0, .b a1, .i (IntKind.i64.wrap (a2 + 1)), .i a3, .i a4, .i a5, .i a6, .l a7, .l a8, .i a9, .s a10, .s a11, .i a12, .s a13, .l a14, .i a15, .i a16, .i a17, .i a18, .i a19, .s a20, .i a21, .s a22, .s a23, .l (a24 ++ ([[.s ((rd a7 a2.toNat 0).str), .i ((rd a7 a2.toNat 1).int), .s ((rd a7 a2.toNat 2).str), .l ((rd a7 a2.toNat 3).list)]] : Rw)), .s a25, .i a26, .s a27, .l a28, .l a29, .l a30, .l a31, .l a32]) (
 none)) (
 none))) (
 none)) (
 cond (inb a2 a7.length) (
 cond (decide (a24.length + ([[.s ((rd a7 a2.toNat 0).str), .i ((rd a7 a2.toNat 1).int), .s ((rd a7 a2.toNat 2).str), .l ((rd a7 a2.toNat 3).list)]] : Rw).length ≤ most)) (
 L_spec_l4Put (some 20) [.s a0, .b a1, .i (IntKind.i64.wrap (a2 + 1)), .i a3, .i a4, .i a5, .i a6, .l a7, .l a8, .i a9, .s a10, .s a11, .i a12, .s a13, .l a14, .i a15, .i a16, .i a17, .i a18, .i a19, .s a20, .i a21, .s a22, .s a23, .l (a24 ++ ([[.s ((rd a7 a2.toNat 0).str), .i ((rd a7 a2.toNat 1).int), .s ((rd a7 a2.toNat 2).str), .l ((rd a7 a2.toNat 3).list)]] : Rw)), .s a25, .i a26, .s a27, .l a28, .l a29, .l a30, .l a31, .l a32]) (
 none)) (
 none))) (
 cond (!a1) (
 cond (decide (a24.length + ([[.s a25, .i a26, .s a27, .l a28]] : Rw).length ≤ most)) (
 (L_spec_l4Lease none [.i a3, .i a4, .i a5, .i a6, .l (a24 ++ ([[.s a25, .i a26, .s a27, .l a28]] : Rw)), .l a8, .s a0, .i a12, .l a29]).bind fun y1 =>
 cond ((g y1 0).int == 0) (
 some [.i ((g y1 0).int), .i ((g y1 1).int), .i ((g y1 2).int), .i ((g y1 3).int), .i ((g y1 4).int), .l ((g y1 5).list), .l ((g y1 6).list), .s a0, .i ((g y1 8).int), .s ((g y1 9).str), .s ((g y1 10).str), .l ((g y1 11).list)]) (
 some [.i ((g y1 0).int), .i ((g y1 1).int), .i ((g y1 2).int), .i ((g y1 3).int), .i ((g y1 4).int), .l ((g y1 5).list), .l ((g y1 6).list), .s ((g y1 7).str), .i ((g y1 8).int), .s ((g y1 9).str), .s ((g y1 10).str), .l ((g y1 11).list)])) (
 none)) (
 (L_spec_l4Lease none [.i a3, .i a4, .i a5, .i a6, .l a24, .l a8, .s a0, .i a12, .l a29]).bind fun y2 =>
 cond ((g y2 0).int == 0) (
 some [.i ((g y2 0).int), .i ((g y2 1).int), .i ((g y2 2).int), .i ((g y2 3).int), .i ((g y2 4).int), .l ((g y2 5).list), .l ((g y2 6).list), .s a0, .i ((g y2 8).int), .s ((g y2 9).str), .s ((g y2 10).str), .l ((g y2 11).list)]) (
 some [.i ((g y2 0).int), .i ((g y2 1).int), .i ((g y2 2).int), .i ((g y2 3).int), .i ((g y2 4).int), .l ((g y2 5).list), .l ((g y2 6).list), .s ((g y2 7).str), .i ((g y2 8).int), .s ((g y2 9).str), .s ((g y2 10).str), .l ((g y2 11).list)]))) := (Lim_eq _ _).trans (by kernel_rfl)
theorem k_spec_l4Put : SigOk Tryz.prog (d_spec_l4Put.sig (L_spec_l4Put none)) ∧ (d_spec_l4Put.sig (L_spec_l4Put none)).ok = true := sound_lim (known_cons k_spec_FormThing (by kernel_rfl) (known_cons k_spec_l1Thing (by kernel_rfl) (known_cons k_spec_Sum (by kernel_rfl) (known_cons k_spec_l4Find (by kernel_rfl) (known_cons k_spec_l4Lease (by kernel_rfl) known_nil))))) (by kernel_rfl) (by kernel_rfl) (by kernel_rfl)
def d_spec_l4Pin : FD := { fn := 178, nb := 0, pre := ⟨[.ag [.i .i64 0, .i .i64 1, .i .i64 2, .i .i64 3, .fz 90 false 4, .fz 156 false 5, .ow 0], .ag [.i .i64 6, .s 7, .s 8, .i .i64 9, .s 10, .fz 9 false 11]], [.rw 158 false 12]⟩, post := ⟨[.ag [.i .i64 0, .i .i64 1, .i .i64 2, .i .i64 3, .i .i64 4, .fz 90 false 5, .ow 0, .ow 1, .s 6, .i .i64 7, .s 8, .s 9]], [.rw 156 true 10, .rw 158 false 11]⟩, sh := true, cuts := [⟨6, [2, 3, 4, 5, 6, 7], ⟨[.sc (.pt 0 0), .sc (.pt 1 0), .sc (.pt 2 0), .sc (.ow 3), .sc (.b 0), .sc (.i .i64 1)], [.bx [.i .i64 2, .i .i64 3, .i .i64 4, .i .i64 5, .fz 90 false 6, .fz 156 false 7, .ow 4], .bx [.i .i64 8, .s 9, .s 10, .i .i64 11, .s 12, .fz 9 false 13], .bx [.i .i64 14, .i .i64 15, .i .i64 16, .i .i64 17, .i .i64 18, .ow 5, .ow 6, .ow 7, .s 19, .i .i64 20, .s 21, .s 22], .rw 156 true 23, .rw 158 false 24, .rw 90 true 25, .rw 156 true 26, .rw 158 true 27]⟩⟩, ⟨11, [2, 3, 4, 5, 6, 7], ⟨[.sc (.pt 0 0), .sc (.pt 1 0), .sc (.pt 2 0), .sc (.ow 3), .sc (.b 0), .sc (.i .i64 1)], [.bx [.i .i64 2, .i .i64 3, .i .i64 4, .i .i64 5, .fz 90 false 6, .fz 156 false 7, .ow 4], .bx [.i .i64 8, .s 9, .s 10, .i .i64 11, .s 12, .fz 9 false 13], .bx [.i .i64 14, .i .i64 15, .i .i64 16, .i .i64 17, .i .i64 18, .ow 5, .ow 6, .ow 7, .s 19, .i .i64 20, .s 21, .s 22], .rw 156 true 23, .rw 158 false 24, .rw 90 true 25, .rw 156 true 26, .rw 158 true 27]⟩⟩] }
noncomputable def L_spec_l4Pin : Option Nat → Lv → Option Lv := Lim Tryz.prog [d_spec_l4Find.sig (L_spec_l4Find none)] d_spec_l4Pin Tryz.f178
theorem e_spec_l4Pin_i (a0 : Int) (a1 : Int) (a2 : Int) (a3 : Int) (a4 : Rw) (a5 : Rw) (a6 : Int) (a7 : ByteArray) (a8 : ByteArray) (a9 : Int) (a10 : ByteArray) (a11 : Rw) (a12 : Rw) : L_spec_l4Pin none [.i a0, .i a1, .i a2, .i a3, .l a4, .l a5, .i a6, .s a7, .s a8, .i a9, .s a10, .l a11, .l a12] =
 (L_spec_l4Find none [.i a0, .i a1, .i a2, .i a3, .l a4, .l a5, .l a12, .s a7]).bind fun y1 =>
 cond (decide ((g y1 0).int < 0)) (
 some [.i 2, .i 0, .i 0, .i 0, .i 0, .l ([]), .s (⟨#[]⟩ : ByteArray), .i 0, .s (⟨#[]⟩ : ByteArray), .s (⟨#[]⟩ : ByteArray), .l [], .l []]) (
 L_spec_l4Pin (some 6) [.b false, .i 0, .i a0, .i a1, .i a2, .i a3, .l a4, .l a5, .i a6, .s a7, .s a8, .i a9, .s a10, .l a11, .i 0, .i 0, .i 0, .i 0, .i 0, .s (⟨#[]⟩ : ByteArray), .i 0, .s (⟨#[]⟩ : ByteArray), .s (⟨#[]⟩ : ByteArray), .l ([] : Rw), .l a12, .l [], .l [], .l []]) := (Lim_eq _ _).trans (by kernel_rfl)
theorem e_spec_l4Pin_6 (a0 : Bool) (a1 : Int) (a2 : Int) (a3 : Int) (a4 : Int) (a5 : Int) (a6 : Rw) (a7 : Rw) (a8 : Int) (a9 : ByteArray) (a10 : ByteArray) (a11 : Int) (a12 : ByteArray) (a13 : Rw) (a14 : Int) (a15 : Int) (a16 : Int) (a17 : Int) (a18 : Int) (a19 : ByteArray) (a20 : Int) (a21 : ByteArray) (a22 : ByteArray) (a23 : Rw) (a24 : Rw) (a25 : Rw) (a26 : Rw) (a27 : Rw) : L_spec_l4Pin (some 6) [.b a0, .i a1, .i a2, .i a3, .i a4, .i a5, .l a6, .l a7, .i a8, .s a9, .s a10, .i a11, .s a12, .l a13, .i a14, .i a15, .i a16, .i a17, .i a18, .s a19, .i a20, .s a21, .s a22, .l a23, .l a24, .l a25, .l a26, .l a27] =
 cond (decide (a1 < (a7.length : Int))) (
 cond (!a0) (
 cond (inb a1 a7.length) (
 cond (!slt ((rd a7 a1.toNat 0).str) a10) (
 cond (decide (a23.length + ([[.s a10, .s a9]] : Rw).length ≤ most)) (
 L_spec_l4Pin (some 11) [.b true, .i a1, .i a2, .i a3, .i a4, .i a5, .l a6, .l a7, .i a8, .s a9, .s a10, .i a11, .s a12, .l a13, .i a14, .i a15, .i a16, .i a17, .i a18, .s a19, .i a20, .s a21, .s a22, .l (a23 ++ ([[.s a10, .s a9]] : Rw)), .l a24, .l a25, .l a26, .l a27]) (
 none)) (
 L_spec_l4Pin (some 11) [.b a0, .i a1, .i a2, .i a3, .i a4, .i a5, .l a6, .l a7, .i a8, .s a9, .s a10, .i a11, .s a12, .l a13, .i a14, .i a15, .i a16, .i a17, .i a18, .s a19, .i a20, .s a21, .s a22, .l a23, .l a24, .l a25, .l a26, .l a27])) (
 none)) (
 L_spec_l4Pin (some 11) [.b a0, .i a1, .i a2, .i a3, .i a4, .i a5, .l a6, .l a7, .i a8, .s a9, .s a10, .i a11, .s a12, .l a13, .i a14, .i a15, .i a16, .i a17, .i a18, .s a19, .i a20, .s a21, .s a22, .l a23, .l a24, .l a25, .l a26, .l a27])) (
 cond (!a0) (
 cond (decide (a23.length + ([[.s a10, .s a9]] : Rw).length ≤ most)) (
 cond (decide (100 < ((a23 ++ ([[.s a10, .s a9]] : Rw)).length : Int))) (
 some [.i 4, .i 0, .i 0, .i 0, .i 0, .l ([]), .s (⟨#[]⟩ : ByteArray), .i 0, .s (⟨#[]⟩ : ByteArray), .s (⟨#[]⟩ : ByteArray), .l [], .l []]) (
 some [.i 0, .i a2, .i a3, .i a4, .i a5, .l a6, .s (⟨#[]⟩ : ByteArray), .i 0, .s (⟨#[]⟩ : ByteArray), .s (⟨#[]⟩ : ByteArray), .l (a23 ++ ([[.s a10, .s a9]] : Rw)), .l a24])) (
 none)) (
 cond (decide (100 < (a23.length : Int))) (
 some [.i 4, .i 0, .i 0, .i 0, .i 0, .l ([]), .s (⟨#[]⟩ : ByteArray), .i 0, .s (⟨#[]⟩ : ByteArray), .s (⟨#[]⟩ : ByteArray), .l [], .l []]) (
 some [.i 0, .i a2, .i a3, .i a4, .i a5, .l a6, .s (⟨#[]⟩ : ByteArray), .i 0, .s (⟨#[]⟩ : ByteArray), .s (⟨#[]⟩ : ByteArray), .l a23, .l a24]))) := (Lim_eq _ _).trans (by kernel_rfl)
theorem e_spec_l4Pin_11 (a0 : Bool) (a1 : Int) (a2 : Int) (a3 : Int) (a4 : Int) (a5 : Int) (a6 : Rw) (a7 : Rw) (a8 : Int) (a9 : ByteArray) (a10 : ByteArray) (a11 : Int) (a12 : ByteArray) (a13 : Rw) (a14 : Int) (a15 : Int) (a16 : Int) (a17 : Int) (a18 : Int) (a19 : ByteArray) (a20 : Int) (a21 : ByteArray) (a22 : ByteArray) (a23 : Rw) (a24 : Rw) (a25 : Rw) (a26 : Rw) (a27 : Rw) : L_spec_l4Pin (some 11) [.b a0, .i a1, .i a2, .i a3, .i a4, .i a5, .l a6, .l a7, .i a8, .s a9, .s a10, .i a11, .s a12, .l a13, .i a14, .i a15, .i a16, .i a17, .i a18, .s a19, .i a20, .s a21, .s a22, .l a23, .l a24, .l a25, .l a26, .l a27] =
 cond (inb a1 a7.length) (
 cond (!Eng.seq ((rd a7 a1.toNat 0).str) a10) (
 cond (inb a1 a7.length) (
 cond (decide (a23.length + ([[.s ((rd a7 a1.toNat 0).str), .s ((rd a7 a1.toNat 1).str)]] : Rw).length ≤ most)) (
 L_spec_l4Pin (some 6) [.b a0, .i (IntKind.i64.wrap (a1 + 1)), .i a2, .i a3, .i a4, .i a5, .l a6, .l a7, .i a8, .s a9, .s a10, .i a11, .s a12, .l a13, .i a14, .i a15, .i a16, .i a17, .i a18, .s a19, .i a20, .s a21, .s a22, .l (a23 ++ ([[.s ((rd a7 a1.toNat 0).str), .s ((rd a7 a1.toNat 1).str)]] : Rw)), .l a24, .l a25, .l a26, .l a27]) (
 none)) (
 none)) (
 L_spec_l4Pin (some 6) [.b a0, .i (IntKind.i64.wrap (a1 + 1)), .i a2, .i a3, .i a4, .i a5, .l a6, .l a7, .i a8, .s a9, .s a10, .i a11, .s a12, .l a13, .i a14, .i a15, .i a16, .i a17, .i a18, .s a19, .i a20, .s a21, .s a22, .l a23, .l a24, .l a25, .l a26, .l a27])) (
 none) := (Lim_eq _ _).trans (by kernel_rfl)
theorem k_spec_l4Pin : SigOk Tryz.prog (d_spec_l4Pin.sig (L_spec_l4Pin none)) ∧ (d_spec_l4Pin.sig (L_spec_l4Pin none)).ok = true := sound_lim (known_cons k_spec_l4Find (by kernel_rfl) known_nil) (by kernel_rfl) (by kernel_rfl) (by kernel_rfl)
def d_spec_l4Unpin : FD := { fn := 179, nb := 0, pre := ⟨[.ag [.i .i64 0, .i .i64 1, .i .i64 2, .i .i64 3, .fz 90 false 4, .fz 156 false 5, .ow 0], .sc (.s 6)], [.rw 158 false 7]⟩, post := ⟨[.ag [.i .i64 0, .i .i64 1, .i .i64 2, .i .i64 3, .i .i64 4, .fz 90 false 5, .ow 0, .ow 1, .s 6, .i .i64 7, .s 8, .s 9]], [.rw 156 true 10, .rw 158 false 11]⟩, sh := true, cuts := [⟨3, [1, 2, 4, 5, 6], ⟨[.sc (.s 0), .sc (.pt 0 0), .sc (.pt 1 0), .sc (.ow 2), .sc (.i .i64 1)], [.bx [.i .i64 2, .i .i64 3, .i .i64 4, .i .i64 5, .fz 90 false 6, .fz 156 false 7, .ow 3], .bx [.i .i64 8, .i .i64 9, .i .i64 10, .i .i64 11, .i .i64 12, .ow 4, .ow 5, .ow 6, .s 13, .i .i64 14, .s 15, .s 16], .rw 156 true 17, .rw 158 false 18, .rw 90 true 19, .rw 156 true 20, .rw 158 true 21]⟩⟩] }
noncomputable def L_spec_l4Unpin : Option Nat → Lv → Option Lv := Lim Tryz.prog [] d_spec_l4Unpin Tryz.f179
theorem e_spec_l4Unpin_i (a0 : Int) (a1 : Int) (a2 : Int) (a3 : Int) (a4 : Rw) (a5 : Rw) (a6 : ByteArray) (a7 : Rw) : L_spec_l4Unpin none [.i a0, .i a1, .i a2, .i a3, .l a4, .l a5, .s a6, .l a7] =
 L_spec_l4Unpin (some 3) [.s a6, .i 0, .i a0, .i a1, .i a2, .i a3, .l a4, .l a5, .i 0, .i 0, .i 0, .i 0, .i 0, .s (⟨#[]⟩ : ByteArray), .i 0, .s (⟨#[]⟩ : ByteArray), .s (⟨#[]⟩ : ByteArray), .l ([] : Rw), .l a7, .l [], .l [], .l []] := (Lim_eq _ _).trans (by kernel_rfl)
theorem e_spec_l4Unpin_3 (a0 : ByteArray) (a1 : Int) (a2 : Int) (a3 : Int) (a4 : Int) (a5 : Int) (a6 : Rw) (a7 : Rw) (a8 : Int) (a9 : Int) (a10 : Int) (a11 : Int) (a12 : Int) (a13 : ByteArray) (a14 : Int) (a15 : ByteArray) (a16 : ByteArray) (a17 : Rw) (a18 : Rw) (a19 : Rw) (a20 : Rw) (a21 : Rw) : L_spec_l4Unpin (some 3) [.s a0, .i a1, .i a2, .i a3, .i a4, .i a5, .l a6, .l a7, .i a8, .i a9, .i a10, .i a11, .i a12, .s a13, .i a14, .s a15, .s a16, .l a17, .l a18, .l a19, .l a20, .l a21] =
 cond (decide (a1 < (a7.length : Int))) (
 cond (inb a1 a7.length) (
 cond (!Eng.seq ((rd a7 a1.toNat 0).str) a0) (
 cond (inb a1 a7.length) (
 cond (decide (a17.length + ([[.s ((rd a7 a1.toNat 0).str), .s ((rd a7 a1.toNat 1).str)]] : Rw).length ≤ most)) (
 L_spec_l4Unpin (some 3) [.s a0, .i (IntKind.i64.wrap (a1 + 1)), .i a2, .i a3, .i a4, .i a5, .l a6, .l a7, .i a8, .i a9, .i a10, .i a11, .i a12, .s a13, .i a14, .s a15, .s a16, .l (a17 ++ ([[.s ((rd a7 a1.toNat 0).str), .s ((rd a7 a1.toNat 1).str)]] : Rw)), .l a18, .l a19, .l a20, .l a21]) (
 none)) (
 none)) (
 L_spec_l4Unpin (some 3) [.s a0, .i (IntKind.i64.wrap (a1 + 1)), .i a2, .i a3, .i a4, .i a5, .l a6, .l a7, .i a8, .i a9, .i a10, .i a11, .i a12, .s a13, .i a14, .s a15, .s a16, .l a17, .l a18, .l a19, .l a20, .l a21])) (
 none)) (
 cond ((a17.length : Int) == (a7.length : Int)) (
 some [.i 5, .i 0, .i 0, .i 0, .i 0, .l ([]), .s (⟨#[]⟩ : ByteArray), .i 0, .s (⟨#[]⟩ : ByteArray), .s (⟨#[]⟩ : ByteArray), .l [], .l []]) (
 some [.i 0, .i a2, .i a3, .i a4, .i a5, .l a6, .s (⟨#[]⟩ : ByteArray), .i 0, .s (⟨#[]⟩ : ByteArray), .s (⟨#[]⟩ : ByteArray), .l a17, .l a18])) := (Lim_eq _ _).trans (by kernel_rfl)
theorem k_spec_l4Unpin : SigOk Tryz.prog (d_spec_l4Unpin.sig (L_spec_l4Unpin none)) ∧ (d_spec_l4Unpin.sig (L_spec_l4Unpin none)).ok = true := sound_lim known_nil (by kernel_rfl) (by kernel_rfl) (by kernel_rfl)
def d_spec_l4Give : FD := { fn := 181, nb := 0, pre := ⟨[.ag [.i .i64 0, .i .i64 1, .i .i64 2, .i .i64 3, .fz 90 false 4, .fz 156 false 5, .ow 0], .sc (.i .i64 6)], [.rw 158 false 7]⟩, post := ⟨[.ag [.i .i64 0, .i .i64 1, .i .i64 2, .i .i64 3, .i .i64 4, .fz 90 false 5, .fz 156 false 6, .ow 0, .s 7, .i .i64 8, .s 9, .s 10]], [.rw 158 true 11]⟩, sh := true, cuts := [⟨3, [1, 2, 4, 5, 6], ⟨[.sc (.i .i64 0), .sc (.pt 0 0), .sc (.pt 1 0), .sc (.ow 2), .sc (.i .i64 1)], [.bx [.i .i64 2, .i .i64 3, .i .i64 4, .i .i64 5, .fz 90 false 6, .fz 156 false 7, .ow 3], .bx [.i .i64 8, .i .i64 9, .i .i64 10, .i .i64 11, .i .i64 12, .ow 4, .ow 5, .ow 6, .s 13, .i .i64 14, .s 15, .s 16], .rw 158 true 17, .rw 158 false 18, .rw 90 true 19, .rw 156 true 20, .rw 158 true 21]⟩⟩] }
noncomputable def L_spec_l4Give : Option Nat → Lv → Option Lv := Lim Tryz.prog [] d_spec_l4Give Tryz.f181
theorem e_spec_l4Give_i (a0 : Int) (a1 : Int) (a2 : Int) (a3 : Int) (a4 : Rw) (a5 : Rw) (a6 : Int) (a7 : Rw) : L_spec_l4Give none [.i a0, .i a1, .i a2, .i a3, .l a4, .l a5, .i a6, .l a7] =
 L_spec_l4Give (some 3) [.i a6, .i 0, .i a0, .i a1, .i a2, .i a3, .l a4, .l a5, .i 0, .i 0, .i 0, .i 0, .i 0, .s (⟨#[]⟩ : ByteArray), .i 0, .s (⟨#[]⟩ : ByteArray), .s (⟨#[]⟩ : ByteArray), .l ([] : Rw), .l a7, .l [], .l [], .l []] := (Lim_eq _ _).trans (by kernel_rfl)
theorem e_spec_l4Give_3 (a0 : Int) (a1 : Int) (a2 : Int) (a3 : Int) (a4 : Int) (a5 : Int) (a6 : Rw) (a7 : Rw) (a8 : Int) (a9 : Int) (a10 : Int) (a11 : Int) (a12 : Int) (a13 : ByteArray) (a14 : Int) (a15 : ByteArray) (a16 : ByteArray) (a17 : Rw) (a18 : Rw) (a19 : Rw) (a20 : Rw) (a21 : Rw) : L_spec_l4Give (some 3) [.i a0, .i a1, .i a2, .i a3, .i a4, .i a5, .l a6, .l a7, .i a8, .i a9, .i a10, .i a11, .i a12, .s a13, .i a14, .s a15, .s a16, .l a17, .l a18, .l a19, .l a20, .l a21] =
 cond (decide (a1 < (a18.length : Int))) (
 cond (inb a1 a18.length) (
 cond ((rd a18 a1.toNat 0).int != a0) (
 cond (inb a1 a18.length) (
 cond (decide (a17.length + ([[.i ((rd a18 a1.toNat 0).int), .s ((rd a18 a1.toNat 1).str), .i ((rd a18 a1.toNat 2).int)]] : Rw).length ≤ most)) (
 L_spec_l4Give (some 3) [.i a0, .i (IntKind.i64.wrap (a1 + 1)), .i a2, .i a3, .i a4, .i a5, .l a6, .l a7, .i a8, .i a9, .i a10, .i a11, .i a12, .s a13, .i a14, .s a15, .s a16, .l (a17 ++ ([[.i ((rd a18 a1.toNat 0).int), .s ((rd a18 a1.toNat 1).str), .i ((rd a18 a1.toNat 2).int)]] : Rw)), .l a18, .l a19, .l a20, .l a21]) (
 none)) (
 none)) (
 L_spec_l4Give (some 3) [.i a0, .i (IntKind.i64.wrap (a1 + 1)), .i a2, .i a3, .i a4, .i a5, .l a6, .l a7, .i a8, .i a9, .i a10, .i a11, .i a12, .s a13, .i a14, .s a15, .s a16, .l a17, .l a18, .l a19, .l a20, .l a21])) (
 none)) (
 cond ((a17.length : Int) == (a18.length : Int)) (
 some [.i 5, .i 0, .i 0, .i 0, .i 0, .l ([]), .l ([]), .s (⟨#[]⟩ : ByteArray), .i 0, .s (⟨#[]⟩ : ByteArray), .s (⟨#[]⟩ : ByteArray), .l []]) (
 some [.i 0, .i a2, .i a3, .i a4, .i a5, .l a6, .l a7, .s (⟨#[]⟩ : ByteArray), .i 0, .s (⟨#[]⟩ : ByteArray), .s (⟨#[]⟩ : ByteArray), .l a17])) := (Lim_eq _ _).trans (by kernel_rfl)
theorem k_spec_l4Give : SigOk Tryz.prog (d_spec_l4Give.sig (L_spec_l4Give none)) ∧ (d_spec_l4Give.sig (L_spec_l4Give none)).ok = true := sound_lim known_nil (by kernel_rfl) (by kernel_rfl) (by kernel_rfl)
def d_spec_l4Wait : FD := { fn := 182, nb := 0, pre := ⟨[.ag [.i .i64 0, .i .i64 1, .i .i64 2, .i .i64 3, .fz 90 false 4, .fz 156 false 5, .ow 0], .sc (.i .i64 6)], [.rw 158 false 7]⟩, post := ⟨[.ag [.i .i64 0, .i .i64 1, .i .i64 2, .i .i64 3, .i .i64 4, .fz 90 false 5, .fz 156 false 6, .ow 0, .s 7, .i .i64 8, .s 9, .s 10]], [.rw 158 true 11]⟩, sh := true, cuts := [⟨6, [2, 4, 5, 6], ⟨[.sc (.pt 0 0), .sc (.pt 1 0), .sc (.ow 2), .sc (.i .i64 0)], [.bx [.i .i64 1, .i .i64 2, .i .i64 3, .i .i64 4, .fz 90 false 5, .fz 156 false 6, .ow 3], .bx [.i .i64 7, .i .i64 8, .i .i64 9, .i .i64 10, .i .i64 11, .ow 4, .ow 5, .ow 6, .s 12, .i .i64 13, .s 14, .s 15], .rw 158 true 16, .rw 158 false 17, .rw 90 true 18, .rw 156 true 19, .rw 158 true 20]⟩⟩] }
noncomputable def L_spec_l4Wait : Option Nat → Lv → Option Lv := Lim Tryz.prog [] d_spec_l4Wait Tryz.f182
theorem e_spec_l4Wait_i (a0 : Int) (a1 : Int) (a2 : Int) (a3 : Int) (a4 : Rw) (a5 : Rw) (a6 : Int) (a7 : Rw) : L_spec_l4Wait none [.i a0, .i a1, .i a2, .i a3, .l a4, .l a5, .i a6, .l a7] =
 cond (decide (1000000000 < (IntKind.i64.wrap (a1 + a6)))) (
 some [.i 4, .i 0, .i 0, .i 0, .i 0, .l ([]), .l ([]), .s (⟨#[]⟩ : ByteArray), .i 0, .s (⟨#[]⟩ : ByteArray), .s (⟨#[]⟩ : ByteArray), .l []]) (
 L_spec_l4Wait (some 6) [.i 0, .i a0, .i (IntKind.i64.wrap (a1 + a6)), .i a2, .i a3, .l a4, .l a5, .i 0, .i 0, .i 0, .i 0, .i 0, .s (⟨#[]⟩ : ByteArray), .i 0, .s (⟨#[]⟩ : ByteArray), .s (⟨#[]⟩ : ByteArray), .l ([] : Rw), .l a7, .l [], .l [], .l []]) := (Lim_eq _ _).trans (by kernel_rfl)
theorem e_spec_l4Wait_6 (a0 : Int) (a1 : Int) (a2 : Int) (a3 : Int) (a4 : Int) (a5 : Rw) (a6 : Rw) (a7 : Int) (a8 : Int) (a9 : Int) (a10 : Int) (a11 : Int) (a12 : ByteArray) (a13 : Int) (a14 : ByteArray) (a15 : ByteArray) (a16 : Rw) (a17 : Rw) (a18 : Rw) (a19 : Rw) (a20 : Rw) : L_spec_l4Wait (some 6) [.i a0, .i a1, .i a2, .i a3, .i a4, .l a5, .l a6, .i a7, .i a8, .i a9, .i a10, .i a11, .s a12, .i a13, .s a14, .s a15, .l a16, .l a17, .l a18, .l a19, .l a20] =
 cond (decide (a0 < (a17.length : Int))) (
 cond (inb a0 a17.length) (
 cond (decide (a2 < (rd a17 a0.toNat 2).int)) (
 cond (inb a0 a17.length) (
 cond (decide (a16.length + ([[.i ((rd a17 a0.toNat 0).int), .s ((rd a17 a0.toNat 1).str), .i ((rd a17 a0.toNat 2).int)]] : Rw).length ≤ most)) (
 L_spec_l4Wait (some 6) [.i (IntKind.i64.wrap (a0 + 1)), .i a1, .i a2, .i a3, .i a4, .l a5, .l a6, .i a7, .i a8, .i a9, .i a10, .i a11, .s a12, .i a13, .s a14, .s a15, .l (a16 ++ ([[.i ((rd a17 a0.toNat 0).int), .s ((rd a17 a0.toNat 1).str), .i ((rd a17 a0.toNat 2).int)]] : Rw)), .l a17, .l a18, .l a19, .l a20]) (
 none)) (
 none)) (
 L_spec_l4Wait (some 6) [.i (IntKind.i64.wrap (a0 + 1)), .i a1, .i a2, .i a3, .i a4, .l a5, .l a6, .i a7, .i a8, .i a9, .i a10, .i a11, .s a12, .i a13, .s a14, .s a15, .l a16, .l a17, .l a18, .l a19, .l a20])) (
 none)) (
 some [.i 0, .i a1, .i a2, .i a3, .i a4, .l a5, .l a6, .s (⟨#[]⟩ : ByteArray), .i 0, .s (⟨#[]⟩ : ByteArray), .s (⟨#[]⟩ : ByteArray), .l a16]) := (Lim_eq _ _).trans (by kernel_rfl)
theorem k_spec_l4Wait : SigOk Tryz.prog (d_spec_l4Wait.sig (L_spec_l4Wait none)) ∧ (d_spec_l4Wait.sig (L_spec_l4Wait none)).ok = true := sound_lim known_nil (by kernel_rfl) (by kernel_rfl) (by kernel_rfl)
def d_spec_l4Has : FD := { fn := 130, nb := 0, pre := ⟨[.sc (.fz 9 false 0), .sc (.s 1)], []⟩, post := ⟨[.sc (.b 0)], []⟩, sh := false, cuts := [⟨2, [0, 1, 5], ⟨[.sc (.fz 9 false 0), .sc (.s 1), .sc (.i .i64 2)], []⟩⟩] }
noncomputable def L_spec_l4Has : Option Nat → Lv → Option Lv := Lim Tryz.prog [] d_spec_l4Has Tryz.f130
theorem e_spec_l4Has_i (a0 : Rw) (a1 : ByteArray) : L_spec_l4Has none [.l a0, .s a1] =
 L_spec_l4Has (some 2) [.l a0, .s a1, .i 0] := (Lim_eq _ _).trans (by kernel_rfl)
theorem e_spec_l4Has_2 (a0 : Rw) (a1 : ByteArray) (a2 : Int) : L_spec_l4Has (some 2) [.l a0, .s a1, .i a2] =
 cond (decide (a2 < (a0.length : Int))) (
 cond (inb a2 a0.length) (
 cond (Eng.seq ((rd a0 a2.toNat 0).str) a1) (
 some [.b true]) (
 L_spec_l4Has (some 2) [.l a0, .s a1, .i (IntKind.i64.wrap (a2 + 1))])) (
 none)) (
 some [.b false]) := (Lim_eq _ _).trans (by kernel_rfl)
theorem k_spec_l4Has : SigOk Tryz.prog (d_spec_l4Has.sig (L_spec_l4Has none)) ∧ (d_spec_l4Has.sig (L_spec_l4Has none)).ok = true := sound_lim known_nil (by kernel_rfl) (by kernel_rfl) (by kernel_rfl)
def d_spec_l4Held : FD := { fn := 220, nb := 0, pre := ⟨[.ag [.i .i64 0, .i .i64 1, .i .i64 2, .i .i64 3, .fz 90 false 4, .fz 156 false 5, .fz 158 false 6], .sc (.s 7)], []⟩, post := ⟨[.sc (.b 0)], []⟩, sh := false, cuts := [⟨2, [1, 2, 5], ⟨[.sc (.s 0), .sc (.pt 0 0), .sc (.i .i64 1)], [.bx [.i .i64 2, .i .i64 3, .i .i64 4, .i .i64 5, .fz 90 false 6, .fz 156 false 7, .fz 158 false 8]]⟩⟩, ⟨7, [1, 2, 6], ⟨[.sc (.s 0), .sc (.pt 0 0), .sc (.i .i64 1)], [.bx [.i .i64 2, .i .i64 3, .i .i64 4, .i .i64 5, .fz 90 false 6, .fz 156 false 7, .fz 158 false 8]]⟩⟩] }
noncomputable def L_spec_l4Held : Option Nat → Lv → Option Lv := Lim Tryz.prog [] d_spec_l4Held Tryz.f220
theorem e_spec_l4Held_i (a0 : Int) (a1 : Int) (a2 : Int) (a3 : Int) (a4 : Rw) (a5 : Rw) (a6 : Rw) (a7 : ByteArray) : L_spec_l4Held none [.i a0, .i a1, .i a2, .i a3, .l a4, .l a5, .l a6, .s a7] =
 L_spec_l4Held (some 2) [.s a7, .i 0, .i a0, .i a1, .i a2, .i a3, .l a4, .l a5, .l a6] := (Lim_eq _ _).trans (by kernel_rfl)
theorem e_spec_l4Held_2 (a0 : ByteArray) (a1 : Int) (a2 : Int) (a3 : Int) (a4 : Int) (a5 : Int) (a6 : Rw) (a7 : Rw) (a8 : Rw) : L_spec_l4Held (some 2) [.s a0, .i a1, .i a2, .i a3, .i a4, .i a5, .l a6, .l a7, .l a8] =
 cond (decide (a1 < (a7.length : Int))) (
 cond (inb a1 a7.length) (
 cond (Eng.seq ((rd a7 a1.toNat 1).str) a0) (
 some [.b true]) (
 L_spec_l4Held (some 2) [.s a0, .i (IntKind.i64.wrap (a1 + 1)), .i a2, .i a3, .i a4, .i a5, .l a6, .l a7, .l a8])) (
 none)) (
 L_spec_l4Held (some 7) [.s a0, .i 0, .i a2, .i a3, .i a4, .i a5, .l a6, .l a7, .l a8]) := (Lim_eq _ _).trans (by kernel_rfl)
theorem e_spec_l4Held_7 (a0 : ByteArray) (a1 : Int) (a2 : Int) (a3 : Int) (a4 : Int) (a5 : Int) (a6 : Rw) (a7 : Rw) (a8 : Rw) : L_spec_l4Held (some 7) [.s a0, .i a1, .i a2, .i a3, .i a4, .i a5, .l a6, .l a7, .l a8] =
 cond (decide (a1 < (a8.length : Int))) (
 cond (inb a1 a8.length) (
 cond (Eng.seq ((rd a8 a1.toNat 1).str) a0) (
 some [.b true]) (
 L_spec_l4Held (some 7) [.s a0, .i (IntKind.i64.wrap (a1 + 1)), .i a2, .i a3, .i a4, .i a5, .l a6, .l a7, .l a8])) (
 none)) (
 some [.b false]) := (Lim_eq _ _).trans (by kernel_rfl)
theorem k_spec_l4Held : SigOk Tryz.prog (d_spec_l4Held.sig (L_spec_l4Held none)) ∧ (d_spec_l4Held.sig (L_spec_l4Held none)).ok = true := sound_lim known_nil (by kernel_rfl) (by kernel_rfl) (by kernel_rfl)
def d_spec_l4Drop : FD := { fn := 183, nb := 0, pre := ⟨[.ag [.i .i64 0, .i .i64 1, .i .i64 2, .i .i64 3, .fz 90 false 4, .fz 156 false 5, .ow 0], .sc (.s 6)], [.rw 158 false 7]⟩, post := ⟨[.ag [.i .i64 0, .i .i64 1, .i .i64 2, .i .i64 3, .i .i64 4, .ow 0, .fz 156 false 5, .ow 1, .s 6, .i .i64 7, .s 8, .s 9]], [.rw 90 false 10, .rw 158 false 11]⟩, sh := true, cuts := [⟨7, [1, 2, 4, 5, 6], ⟨[.sc (.s 0), .sc (.pt 0 0), .sc (.pt 1 0), .sc (.ow 2), .sc (.i .i64 1)], [.bx [.i .i64 2, .i .i64 3, .i .i64 4, .i .i64 5, .fz 90 false 6, .fz 156 false 7, .ow 3], .bx [.i .i64 8, .i .i64 9, .i .i64 10, .i .i64 11, .i .i64 12, .ow 4, .ow 5, .ow 6, .s 13, .i .i64 14, .s 15, .s 16], .rw 90 false 17, .rw 158 false 18, .rw 90 true 19, .rw 156 true 20, .rw 158 true 21]⟩⟩] }
noncomputable def L_spec_l4Drop : Option Nat → Lv → Option Lv := Lim Tryz.prog [d_spec_l4Find.sig (L_spec_l4Find none), d_spec_l4Has.sig (L_spec_l4Has none), d_spec_l4Held.sig (L_spec_l4Held none)] d_spec_l4Drop Tryz.f183
theorem e_spec_l4Drop_i (a0 : Int) (a1 : Int) (a2 : Int) (a3 : Int) (a4 : Rw) (a5 : Rw) (a6 : ByteArray) (a7 : Rw) : L_spec_l4Drop none [.i a0, .i a1, .i a2, .i a3, .l a4, .l a5, .s a6, .l a7] =
 (L_spec_l4Find none [.i a0, .i a1, .i a2, .i a3, .l a4, .l a5, .l a7, .s a6]).bind fun y1 =>
 cond (decide ((g y1 0).int < 0)) (
 some [.i 2, .i 0, .i 0, .i 0, .i 0, .l ([]), .s (⟨#[]⟩ : ByteArray), .i 0, .s (⟨#[]⟩ : ByteArray), .s (⟨#[]⟩ : ByteArray), .l [], .l []]) (
 (L_spec_l4Held none [.i a0, .i a1, .i a2, .i a3, .l a4, .l a5, .l a7, .s a6]).bind fun y2 =>
 cond ((g y2 0).bool) (
 some [.i 6, .i 0, .i 0, .i 0, .i 0, .l ([]), .s (⟨#[]⟩ : ByteArray), .i 0, .s (⟨#[]⟩ : ByteArray), .s (⟨#[]⟩ : ByteArray), .l [], .l []]) (
 L_spec_l4Drop (some 7) [.s a6, .i 0, .i a0, .i a1, .i a2, .i a3, .l a4, .l a5, .i 0, .i 0, .i 0, .i 0, .i 0, .s (⟨#[]⟩ : ByteArray), .i 0, .s (⟨#[]⟩ : ByteArray), .s (⟨#[]⟩ : ByteArray), .l ([] : Rw), .l a7, .l [], .l [], .l []])) := (Lim_eq _ _).trans (by kernel_rfl)
theorem e_spec_l4Drop_7 (a0 : ByteArray) (a1 : Int) (a2 : Int) (a3 : Int) (a4 : Int) (a5 : Int) (a6 : Rw) (a7 : Rw) (a8 : Int) (a9 : Int) (a10 : Int) (a11 : Int) (a12 : Int) (a13 : ByteArray) (a14 : Int) (a15 : ByteArray) (a16 : ByteArray) (a17 : Rw) (a18 : Rw) (a19 : Rw) (a20 : Rw) (a21 : Rw) : L_spec_l4Drop (some 7) [.s a0, .i a1, .i a2, .i a3, .i a4, .i a5, .l a6, .l a7, .i a8, .i a9, .i a10, .i a11, .i a12, .s a13, .i a14, .s a15, .s a16, .l a17, .l a18, .l a19, .l a20, .l a21] =
 cond (decide (a1 < (a6.length : Int))) (
 cond (inb a1 a6.length) (
 (L_spec_l4Has none [.l ((rd a6 a1.toNat 3).list), .s a0]).bind fun y1 =>
 cond ((g y1 0).bool) (
 some [.i 6, .i 0, .i 0, .i 0, .i 0, .l ([]), .s (⟨#[]⟩ : ByteArray), .i 0, .s (⟨#[]⟩ : ByteArray), .s (⟨#[]⟩ : ByteArray), .l [], .l []]) (
 cond (inb a1 a6.length) (
 cond (!Eng.seq ((rd a6 a1.toNat 0).str) a0) (
 cond (inb a1 a6.length) (
 cond (decide (a17.length + ([[.s ((rd a6 a1.toNat 0).str), .i ((rd a6 a1.toNat 1).int), .s ((rd a6 a1.toNat 2).str), .l ((rd a6 a1.toNat 3).list)]] : Rw).length ≤ most)) (
 L_spec_l4Drop (some 7) [.s a0, .i (IntKind.i64.wrap (a1 + 1)), .i a2, .i a3, .i a4, .i a5, .l a6, .l a7, .i a8, .i a9, .i a10, .i a11, .i a12, .s a13, .i a14, .s a15, .s a16, .l (a17 ++ ([[.s ((rd a6 a1.toNat 0).str), .i ((rd a6 a1.toNat 1).int), .s ((rd a6 a1.toNat 2).str), .l ((rd a6 a1.toNat 3).list)]] : Rw)), .l a18, .l a19, .l a20, .l a21]) (
 none)) (
 none)) (
 L_spec_l4Drop (some 7) [.s a0, .i (IntKind.i64.wrap (a1 + 1)), .i a2, .i a3, .i a4, .i a5, .l a6, .l a7, .i a8, .i a9, .i a10, .i a11, .i a12, .s a13, .i a14, .s a15, .s a16, .l a17, .l a18, .l a19, .l a20, .l a21])) (
 none))) (
 none)) (
 some [.i 0, .i a2, .i a3, .i a4, .i a5, .l a7, .s (⟨#[]⟩ : ByteArray), .i 0, .s (⟨#[]⟩ : ByteArray), .s (⟨#[]⟩ : ByteArray), .l a17, .l a18]) := (Lim_eq _ _).trans (by kernel_rfl)
theorem k_spec_l4Drop : SigOk Tryz.prog (d_spec_l4Drop.sig (L_spec_l4Drop none)) ∧ (d_spec_l4Drop.sig (L_spec_l4Drop none)).ok = true := sound_lim (known_cons k_spec_l4Find (by kernel_rfl) (known_cons k_spec_l4Has (by kernel_rfl) (known_cons k_spec_l4Held (by kernel_rfl) known_nil))) (by kernel_rfl) (by kernel_rfl) (by kernel_rfl)
def d_spec_l4Apply : FD := { fn := 114, nb := 0, pre := ⟨[.ag [.i .i64 0, .i .i64 1, .i .i64 2, .i .i64 3, .fz 90 false 4, .fz 156 false 5, .ow 0], .ag [.i .i64 6, .s 7, .s 8, .i .i64 9, .s 10, .fz 9 false 11]], [.rw 158 false 12]⟩, post := ⟨[.ag [.i .i64 0, .i .i64 1, .i .i64 2, .i .i64 3, .i .i64 4, .fz 90 false 5, .fz 156 false 6, .ow 0, .s 7, .i .i64 8, .s 9, .s 10]], [.rw 158 false 11]⟩, sh := true, cuts := [] }
noncomputable def L_spec_l4Apply : Option Nat → Lv → Option Lv := Lim Tryz.prog [d_spec_l4Copy.sig (L_spec_l4Copy none), d_spec_l4Find.sig (L_spec_l4Find none), d_spec_l4Lease.sig (L_spec_l4Lease none), d_spec_l4Put.sig (L_spec_l4Put none), d_spec_l4Pin.sig (L_spec_l4Pin none), d_spec_l4Unpin.sig (L_spec_l4Unpin none), d_spec_l4Give.sig (L_spec_l4Give none), d_spec_l4Wait.sig (L_spec_l4Wait none), d_spec_l4Drop.sig (L_spec_l4Drop none)] d_spec_l4Apply Tryz.f114
theorem e_spec_l4Apply_i (a0 : Int) (a1 : Int) (a2 : Int) (a3 : Int) (a4 : Rw) (a5 : Rw) (a6 : Int) (a7 : ByteArray) (a8 : ByteArray) (a9 : Int) (a10 : ByteArray) (a11 : Rw) (a12 : Rw) : L_spec_l4Apply none [.i a0, .i a1, .i a2, .i a3, .l a4, .l a5, .i a6, .s a7, .s a8, .i a9, .s a10, .l a11, .l a12] =
 cond (a6 == 1) (
 (L_spec_l4Put none [.i a0, .i a1, .i a2, .i a3, .l a4, .l a5, .i a6, .s a7, .s a8, .i a9, .s a10, .l a11, .l a12]).bind fun y1 =>
 some [.i ((g y1 0).int), .i ((g y1 1).int), .i ((g y1 2).int), .i ((g y1 3).int), .i ((g y1 4).int), .l ((g y1 5).list), .l ((g y1 6).list), .s ((g y1 7).str), .i ((g y1 8).int), .s ((g y1 9).str), .s ((g y1 10).str), .l ((g y1 11).list)]) (
 cond (a6 == 2) (
 (L_spec_l4Pin none [.i a0, .i a1, .i a2, .i a3, .l a4, .l a5, .i a6, .s a7, .s a8, .i a9, .s a10, .l a11, .l a12]).bind fun y2 =>
 some [.i ((g y2 0).int), .i ((g y2 1).int), .i ((g y2 2).int), .i ((g y2 3).int), .i ((g y2 4).int), .l ((g y2 5).list), .l ((g y2 10).list), .s ((g y2 6).str), .i ((g y2 7).int), .s ((g y2 8).str), .s ((g y2 9).str), .l ((g y2 11).list)]) (
 cond (a6 == 3) (
 (L_spec_l4Unpin none [.i a0, .i a1, .i a2, .i a3, .l a4, .l a5, .s a8, .l a12]).bind fun y3 =>
 some [.i ((g y3 0).int), .i ((g y3 1).int), .i ((g y3 2).int), .i ((g y3 3).int), .i ((g y3 4).int), .l ((g y3 5).list), .l ((g y3 10).list), .s ((g y3 6).str), .i ((g y3 7).int), .s ((g y3 8).str), .s ((g y3 9).str), .l ((g y3 11).list)]) (
 cond (a6 == 4) (
 (L_spec_l4Find none [.i a0, .i a1, .i a2, .i a3, .l a4, .l a5, .l a12, .s a7]).bind fun y4 =>
 cond (decide ((g y4 0).int < 0)) (
 some [.i 2, .i 0, .i 0, .i 0, .i 0, .l ([]), .l ([]), .s (⟨#[]⟩ : ByteArray), .i 0, .s (⟨#[]⟩ : ByteArray), .s (⟨#[]⟩ : ByteArray), .l []]) (
 (L_spec_l4Copy none [.i a0, .i a1, .i a2, .i a3, .l a4, .l a5, .l a12]).bind fun y5 =>
 (L_spec_l4Lease none [.i ((g y5 0).int), .i ((g y5 1).int), .i ((g y5 2).int), .i ((g y5 3).int), .l ((g y5 4).list), .l ((g y5 5).list), .s a7, .i a9, .l ((g y5 6).list)]).bind fun y6 =>
 some [.i ((g y6 0).int), .i ((g y6 1).int), .i ((g y6 2).int), .i ((g y6 3).int), .i ((g y6 4).int), .l ((g y6 5).list), .l ((g y6 6).list), .s ((g y6 7).str), .i ((g y6 8).int), .s ((g y6 9).str), .s ((g y6 10).str), .l ((g y6 11).list)])) (
 cond (a6 == 5) (
 (L_spec_l4Give none [.i a0, .i a1, .i a2, .i a3, .l a4, .l a5, .i a9, .l a12]).bind fun y7 =>
 some [.i ((g y7 0).int), .i ((g y7 1).int), .i ((g y7 2).int), .i ((g y7 3).int), .i ((g y7 4).int), .l ((g y7 5).list), .l ((g y7 6).list), .s ((g y7 7).str), .i ((g y7 8).int), .s ((g y7 9).str), .s ((g y7 10).str), .l ((g y7 11).list)]) (
 cond (a6 == 6) (
 (L_spec_l4Wait none [.i a0, .i a1, .i a2, .i a3, .l a4, .l a5, .i a9, .l a12]).bind fun y8 =>
 some [.i ((g y8 0).int), .i ((g y8 1).int), .i ((g y8 2).int), .i ((g y8 3).int), .i ((g y8 4).int), .l ((g y8 5).list), .l ((g y8 6).list), .s ((g y8 7).str), .i ((g y8 8).int), .s ((g y8 9).str), .s ((g y8 10).str), .l ((g y8 11).list)]) (
 (L_spec_l4Drop none [.i a0, .i a1, .i a2, .i a3, .l a4, .l a5, .s a7, .l a12]).bind fun y9 =>
 some [.i ((g y9 0).int), .i ((g y9 1).int), .i ((g y9 2).int), .i ((g y9 3).int), .i ((g y9 4).int), .l ((g y9 10).list), .l ((g y9 5).list), .s ((g y9 6).str), .i ((g y9 7).int), .s ((g y9 8).str), .s ((g y9 9).str), .l ((g y9 11).list)])))))) := (Lim_eq _ _).trans (by kernel_rfl)
theorem k_spec_l4Apply : SigOk Tryz.prog (d_spec_l4Apply.sig (L_spec_l4Apply none)) ∧ (d_spec_l4Apply.sig (L_spec_l4Apply none)).ok = true := sound_lim (known_cons k_spec_l4Copy (by kernel_rfl) (known_cons k_spec_l4Find (by kernel_rfl) (known_cons k_spec_l4Lease (by kernel_rfl) (known_cons k_spec_l4Put (by kernel_rfl) (known_cons k_spec_l4Pin (by kernel_rfl) (known_cons k_spec_l4Unpin (by kernel_rfl) (known_cons k_spec_l4Give (by kernel_rfl) (known_cons k_spec_l4Wait (by kernel_rfl) (known_cons k_spec_l4Drop (by kernel_rfl) known_nil))))))))) (by kernel_rfl) (by kernel_rfl) (by kernel_rfl)
def d_spec_Replay : FD := { fn := 34, nb := 0, pre := ⟨[.sc (.i .i64 0), .sc (.fz 9 false 1)], []⟩, post := ⟨[.ag [.i .i64 0, .i .i64 1, .i .i64 2, .i .i64 3, .i .i64 4, .ow 0, .ow 1, .ow 2, .s 5, .i .i64 6, .s 7, .s 8]], [.rw 90 true 9, .rw 156 true 10, .rw 158 true 11]⟩, sh := false, cuts := [⟨5, [0, 1, 4, 5, 6], ⟨[.sc (.i .i64 0), .sc (.fz 9 false 1), .sc (.pt 0 0), .sc (.pt 1 0), .sc (.i .i64 2)], [.bx [.i .i64 3, .i .i64 4, .i .i64 5, .i .i64 6, .i .i64 7, .ow 2, .ow 3, .ow 4, .s 8, .i .i64 9, .s 10, .s 11], .bx [.i .i64 12, .i .i64 13, .i .i64 14, .i .i64 15, .fz 90 true 16, .fz 156 true 17, .ow 5], .rw 90 true 18, .rw 156 true 19, .rw 158 true 20, .rw 158 true 21]⟩⟩] }
noncomputable def L_spec_Replay : Option Nat → Lv → Option Lv := Lim Tryz.prog [d_spec_l1Width.sig (L_spec_l1Width none), d_spec_ReadEntry.sig (L_spec_ReadEntry none), d_spec_l4Copy.sig (L_spec_l4Copy none), d_spec_l4Apply.sig (L_spec_l4Apply none)] d_spec_Replay Tryz.f34
theorem e_spec_Replay_i (a0 : Int) (a1 : Rw) : L_spec_Replay none [.i a0, .l a1] =
 (L_spec_l1Width none [.i a0]).bind fun y1 =>
 cond (!(g y1 0).bool) (
 some [.i 1, .i 0, .i 0, .i 0, .i 0, .s (⟨#[]⟩ : ByteArray), .i 0, .s (⟨#[]⟩ : ByteArray), .s (⟨#[]⟩ : ByteArray), .l [], .l [], .l []]) (
 cond (decide (4000 < (a1.length : Int))) (
 some [.i 1, .i 0, .i 0, .i 0, .i 0, .s (⟨#[]⟩ : ByteArray), .i 0, .s (⟨#[]⟩ : ByteArray), .s (⟨#[]⟩ : ByteArray), .l [], .l [], .l []]) (
 L_spec_Replay (some 5) [.i a0, .l a1, .i 0, .i 0, .i 0, .i 0, .i 0, .i 0, .s (⟨#[]⟩ : ByteArray), .i 0, .s (⟨#[]⟩ : ByteArray), .s (⟨#[]⟩ : ByteArray), .i a0, .i 0, .i 0, .i 0, .l ([]), .l ([]), .l [], .l [], .l [], .l []])) := (Lim_eq _ _).trans (by kernel_rfl)
theorem e_spec_Replay_5 (a0 : Int) (a1 : Rw) (a2 : Int) (a3 : Int) (a4 : Int) (a5 : Int) (a6 : Int) (a7 : Int) (a8 : ByteArray) (a9 : Int) (a10 : ByteArray) (a11 : ByteArray) (a12 : Int) (a13 : Int) (a14 : Int) (a15 : Int) (a16 : Rw) (a17 : Rw) (a18 : Rw) (a19 : Rw) (a20 : Rw) (a21 : Rw) : L_spec_Replay (some 5) [.i a0, .l a1, .i a2, .i a3, .i a4, .i a5, .i a6, .i a7, .s a8, .i a9, .s a10, .s a11, .i a12, .i a13, .i a14, .i a15, .l a16, .l a17, .l a18, .l a19, .l a20, .l a21] =
 cond (decide (a2 < (a1.length : Int))) (
 cond (inb a2 a1.length) (
 (L_spec_ReadEntry none [.s ((rd a1 a2.toNat 0).str), .i a0]).bind fun y1 =>
 cond (!(g y1 5).bool) (
 some [.i 7, .i 0, .i 0, .i 0, .i 0, .s (⟨#[]⟩ : ByteArray), .i (IntKind.i64.wrap (a2 + 1)), .s (⟨#[]⟩ : ByteArray), .s (⟨#[]⟩ : ByteArray), .l [], .l [], .l []]) (
 (L_spec_l4Apply none [.i a12, .i a13, .i a14, .i a15, .l a16, .l a17, .i ((g y1 0).int), .s ((g y1 1).str), .s ((g y1 2).str), .i ((g y1 3).int), .s ((g y1 4).str), .l ((g y1 6).list), .l a21]).bind fun y2 =>
 cond ((g y2 0).int != 0) (
 some [.i 7, .i 0, .i 0, .i 0, .i 0, .s (⟨#[]⟩ : ByteArray), .i (IntKind.i64.wrap (a2 + 1)), .s (⟨#[]⟩ : ByteArray), .s (⟨#[]⟩ : ByteArray), .l [], .l [], .l []]) (
 L_spec_Replay (some 5) [.i a0, .l a1, .i (IntKind.i64.wrap (a2 + 1)), .i a3, .i a4, .i a5, .i a6, .i a7, .s a8, .i a9, .s a10, .s a11, .i ((g y2 1).int), .i ((g y2 2).int), .i ((g y2 3).int), .i ((g y2 4).int), .l ((g y2 5).list), .l ((g y2 6).list), .l a18, .l a19, .l a20, .l ((g y2 11).list)]))) (
 none)) (
 (L_spec_l4Copy none [.i a12, .i a13, .i a14, .i a15, .l a16, .l a17, .l a21]).bind fun y3 =>
 some [.i 0, .i ((g y3 0).int), .i ((g y3 1).int), .i ((g y3 2).int), .i ((g y3 3).int), .s (⟨#[]⟩ : ByteArray), .i 0, .s (⟨#[]⟩ : ByteArray), .s (⟨#[]⟩ : ByteArray), .l ((g y3 4).list), .l ((g y3 5).list), .l ((g y3 6).list)]) := (Lim_eq _ _).trans (by kernel_rfl)
theorem k_spec_Replay : SigOk Tryz.prog (d_spec_Replay.sig (L_spec_Replay none)) ∧ (d_spec_Replay.sig (L_spec_Replay none)).ok = true := sound_lim (known_cons k_spec_l1Width (by kernel_rfl) (known_cons k_spec_ReadEntry (by kernel_rfl) (known_cons k_spec_l4Copy (by kernel_rfl) (known_cons k_spec_l4Apply (by kernel_rfl) known_nil)))) (by kernel_rfl) (by kernel_rfl) (by kernel_rfl)
def d_spec_l4Range : FD := { fn := 87, nb := 0, pre := ⟨[.sc (.i .i64 0), .sc (.i .i64 1), .sc (.i .i64 2)], []⟩, post := ⟨[.sc (.b 0)], []⟩, sh := false, cuts := [] }
noncomputable def L_spec_l4Range : Option Nat → Lv → Option Lv := Lim Tryz.prog [] d_spec_l4Range Tryz.f87
theorem e_spec_l4Range_i (a0 : Int) (a1 : Int) (a2 : Int) : L_spec_l4Range none [.i a0, .i a1, .i a2] =
 cond (decide (a1 ≤ a0)) (
 some [.b (decide (a0 ≤ a2))]) (
 some [.b false]) := (Lim_eq _ _).trans (by kernel_rfl)
theorem k_spec_l4Range : SigOk Tryz.prog (d_spec_l4Range.sig (L_spec_l4Range none)) ∧ (d_spec_l4Range.sig (L_spec_l4Range none)).ok = true := sound_lim known_nil (by kernel_rfl) (by kernel_rfl) (by kernel_rfl)
def d_spec_ValidLog : FD := { fn := 88, nb := 0, pre := ⟨[.ag [.fz 9 false 0, .fz 9 false 1]], []⟩, post := ⟨[.sc (.b 0)], []⟩, sh := false, cuts := [⟨2, [1, 3], ⟨[.sc (.pt 0 0), .sc (.i .i64 0)], [.bx [.fz 9 false 1, .fz 9 false 2]]⟩⟩, ⟨7, [1, 4], ⟨[.sc (.pt 0 0), .sc (.i .i64 0)], [.bx [.fz 9 false 1, .fz 9 false 2]]⟩⟩] }
noncomputable def L_spec_ValidLog : Option Nat → Lv → Option Lv := Lim Tryz.prog [] d_spec_ValidLog Tryz.f88
theorem e_spec_ValidLog_i (a0 : Rw) (a1 : Rw) : L_spec_ValidLog none [.l a0, .l a1] =
 L_spec_ValidLog (some 2) [.i 0, .l a0, .l a1] := (Lim_eq _ _).trans (by kernel_rfl)
theorem e_spec_ValidLog_2 (a0 : Int) (a1 : Rw) (a2 : Rw) : L_spec_ValidLog (some 2) [.i a0, .l a1, .l a2] =
 cond (decide (a0 < (a1.length : Int))) (
 cond (inb a0 a1.length) (
 cond (decide (5000 < (((rd a1 a0.toNat 0).str).size : Int))) (
 some [.b false]) (
 L_spec_ValidLog (some 2) [.i (IntKind.i64.wrap (a0 + 1)), .l a1, .l a2])) (
 none)) (
 L_spec_ValidLog (some 7) [.i 0, .l a1, .l a2]) := (Lim_eq _ _).trans (by kernel_rfl)
theorem e_spec_ValidLog_7 (a0 : Int) (a1 : Rw) (a2 : Rw) : L_spec_ValidLog (some 7) [.i a0, .l a1, .l a2] =
 cond (decide (a0 < (a2.length : Int))) (
 cond (inb a0 a2.length) (
 cond (decide (5000 < (((rd a2 a0.toNat 0).str).size : Int))) (
 some [.b false]) (
 L_spec_ValidLog (some 7) [.i (IntKind.i64.wrap (a0 + 1)), .l a1, .l a2])) (
 none)) (
 some [.b (decide ((IntKind.i64.wrap ((a1.length : Int) + (a2.length : Int))) ≤ 4000))]) := (Lim_eq _ _).trans (by kernel_rfl)
theorem k_spec_ValidLog : SigOk Tryz.prog (d_spec_ValidLog.sig (L_spec_ValidLog none)) ∧ (d_spec_ValidLog.sig (L_spec_ValidLog none)).ok = true := sound_lim known_nil (by kernel_rfl) (by kernel_rfl) (by kernel_rfl)
end KV
end
section
set_option maxRecDepth 100000
namespace KV
open Go Go.Eng Go.Proofs
def d_spec_l7All : FD := { fn := 89, nb := 0, pre := ⟨[.ag [.fz 9 false 0, .fz 9 false 1]], []⟩, post := ⟨[.sc (.ow 0)], [.rw 9 true 0]⟩, sh := false, cuts := [] }
noncomputable def L_spec_l7All : Option Nat → Lv → Option Lv := Lim Tryz.prog [] d_spec_l7All Tryz.f89
theorem e_spec_l7All_i (a0 : Rw) (a1 : Rw) : L_spec_l7All none [.l a0, .l a1] =
 cond (decide (([] : Rw).length + a0.length ≤ most)) (
 cond (decide ((([] : Rw) ++ a0).length + a1.length ≤ most)) (
 some [.l ((([] : Rw) ++ a0) ++ a1)]) (
 none)) (
 none) := (Lim_eq _ _).trans (by kernel_rfl)
theorem k_spec_l7All : SigOk Tryz.prog (d_spec_l7All.sig (L_spec_l7All none)) ∧ (d_spec_l7All.sig (L_spec_l7All none)).ok = true := sound_lim known_nil (by kernel_rfl) (by kernel_rfl) (by kernel_rfl)
def d_spec_l7SameThing : FD := { fn := 155, nb := 0, pre := ⟨[.ag [.s 0, .fz 9 false 1], .ag [.s 2, .fz 9 false 3]], []⟩, post := ⟨[.sc (.b 0)], []⟩, sh := false, cuts := [⟨4, [2, 3, 5], ⟨[.sc (.pt 0 0), .sc (.pt 1 0), .sc (.i .i64 0)], [.bx [.s 1, .fz 9 false 2], .bx [.s 3, .fz 9 false 4]]⟩⟩] }
noncomputable def L_spec_l7SameThing : Option Nat → Lv → Option Lv := Lim Tryz.prog [] d_spec_l7SameThing Tryz.f155
theorem e_spec_l7SameThing_i (a0 : ByteArray) (a1 : Rw) (a2 : ByteArray) (a3 : Rw) : L_spec_l7SameThing none [.s a0, .l a1, .s a2, .l a3] =
 cond (!Eng.seq a0 a2) (
 some [.b false]) (
 cond ((a1.length : Int) != (a3.length : Int)) (
 some [.b false]) (
 L_spec_l7SameThing (some 4) [.i 0, .s a0, .l a1, .s a2, .l a3])) := (Lim_eq _ _).trans (by kernel_rfl)
theorem e_spec_l7SameThing_4 (a0 : Int) (a1 : ByteArray) (a2 : Rw) (a3 : ByteArray) (a4 : Rw) : L_spec_l7SameThing (some 4) [.i a0, .s a1, .l a2, .s a3, .l a4] =
 cond (decide (a0 < (a2.length : Int))) (
 cond (inb a0 a2.length) (
 cond (inb a0 a4.length) (
 cond (!Eng.seq ((rd a2 a0.toNat 0).str) ((rd a4 a0.toNat 0).str)) (
 some [.b false]) (
 L_spec_l7SameThing (some 4) [.i (IntKind.i64.wrap (a0 + 1)), .s a1, .l a2, .s a3, .l a4])) (
 none)) (
 none)) (
 some [.b true]) := (Lim_eq _ _).trans (by kernel_rfl)
theorem k_spec_l7SameThing : SigOk Tryz.prog (d_spec_l7SameThing.sig (L_spec_l7SameThing none)) ∧ (d_spec_l7SameThing.sig (L_spec_l7SameThing none)).ok = true := sound_lim known_nil (by kernel_rfl) (by kernel_rfl) (by kernel_rfl)
def d_spec_l7SameState : FD := { fn := 90, nb := 0, pre := ⟨[.ag [.i .i64 0, .i .i64 1, .i .i64 2, .i .i64 3, .fz 90 false 4, .fz 156 false 5, .fz 158 false 6], .ag [.i .i64 7, .i .i64 8, .i .i64 9, .i .i64 10, .fz 90 false 11, .fz 156 false 12, .fz 158 false 13]], []⟩, post := ⟨[.sc (.b 0)], []⟩, sh := false, cuts := [⟨4, [2, 3, 5], ⟨[.sc (.pt 0 0), .sc (.pt 1 0), .sc (.i .i64 0)], [.bx [.i .i64 1, .i .i64 2, .i .i64 3, .i .i64 4, .fz 90 false 5, .fz 156 false 6, .fz 158 false 7], .bx [.i .i64 8, .i .i64 9, .i .i64 10, .i .i64 11, .fz 90 false 12, .fz 156 false 13, .fz 158 false 14]]⟩⟩, ⟨9, [2, 3, 6], ⟨[.sc (.pt 0 0), .sc (.pt 1 0), .sc (.i .i64 0)], [.bx [.i .i64 1, .i .i64 2, .i .i64 3, .i .i64 4, .fz 90 false 5, .fz 156 false 6, .fz 158 false 7], .bx [.i .i64 8, .i .i64 9, .i .i64 10, .i .i64 11, .fz 90 false 12, .fz 156 false 13, .fz 158 false 14]]⟩⟩, ⟨14, [2, 3, 7], ⟨[.sc (.pt 0 0), .sc (.pt 1 0), .sc (.i .i64 0)], [.bx [.i .i64 1, .i .i64 2, .i .i64 3, .i .i64 4, .fz 90 false 5, .fz 156 false 6, .fz 158 false 7], .bx [.i .i64 8, .i .i64 9, .i .i64 10, .i .i64 11, .fz 90 false 12, .fz 156 false 13, .fz 158 false 14]]⟩⟩] }
noncomputable def L_spec_l7SameState : Option Nat → Lv → Option Lv := Lim Tryz.prog [d_spec_l7SameThing.sig (L_spec_l7SameThing none)] d_spec_l7SameState Tryz.f90
theorem e_spec_l7SameState_i (a0 : Int) (a1 : Int) (a2 : Int) (a3 : Int) (a4 : Rw) (a5 : Rw) (a6 : Rw) (a7 : Int) (a8 : Int) (a9 : Int) (a10 : Int) (a11 : Rw) (a12 : Rw) (a13 : Rw) : L_spec_l7SameState none [.i a0, .i a1, .i a2, .i a3, .l a4, .l a5, .l a6, .i a7, .i a8, .i a9, .i a10, .l a11, .l a12, .l a13] =
 cond (a0 != a7) (
 some [.b false]) (
 cond (a1 != a8) (
 some [.b false]) (
 cond (a2 != a9) (
 some [.b false]) (
 cond (a3 != a10) (
 some [.b false]) (
 cond ((a4.length : Int) != (a11.length : Int)) (
 some [.b false]) (
 cond ((a5.length : Int) != (a12.length : Int)) (
 some [.b false]) (
 cond ((a6.length : Int) != (a13.length : Int)) (
 some [.b false]) (
 L_spec_l7SameState (some 4) [.i 0, .i a0, .i a1, .i a2, .i a3, .l a4, .l a5, .l a6, .i a7, .i a8, .i a9, .i a10, .l a11, .l a12, .l a13]))))))) := (Lim_eq _ _).trans (by kernel_rfl)
theorem e_spec_l7SameState_4 (a0 : Int) (a1 : Int) (a2 : Int) (a3 : Int) (a4 : Int) (a5 : Rw) (a6 : Rw) (a7 : Rw) (a8 : Int) (a9 : Int) (a10 : Int) (a11 : Int) (a12 : Rw) (a13 : Rw) (a14 : Rw) : L_spec_l7SameState (some 4) [.i a0, .i a1, .i a2, .i a3, .i a4, .l a5, .l a6, .l a7, .i a8, .i a9, .i a10, .i a11, .l a12, .l a13, .l a14] =
 cond (decide (a0 < (a5.length : Int))) (
 cond (inb a0 a5.length) (
 cond (inb a0 a12.length) (
 cond (!Eng.seq ((rd a5 a0.toNat 0).str) ((rd a12 a0.toNat 0).str)) (
 some [.b false]) (
 cond (inb a0 a5.length) (
 cond (inb a0 a12.length) (
 cond ((rd a5 a0.toNat 1).int != (rd a12 a0.toNat 1).int) (
 some [.b false]) (
 cond (inb a0 a5.length) (
 cond (inb a0 a12.length) (
 (L_spec_l7SameThing none [.s ((rd a5 a0.toNat 2).str), .l ((rd a5 a0.toNat 3).list), .s ((rd a12 a0.toNat 2).str), .l ((rd a12 a0.toNat 3).list)]).bind fun y1 =>
 cond (!(g y1 0).bool) (
 some [.b false]) (
 L_spec_l7SameState (some 4) [.i (IntKind.i64.wrap (a0 + 1)), .i a1, .i a2, .i a3, .i a4, .l a5, .l a6, .l a7, .i a8, .i a9, .i a10, .i a11, .l a12, .l a13, .l a14])) (
 none)) (
 none))) (
 none)) (
 none))) (
 none)) (
 none)) (
 L_spec_l7SameState (some 9) [.i 0, .i a1, .i a2, .i a3, .i a4, .l a5, .l a6, .l a7, .i a8, .i a9, .i a10, .i a11, .l a12, .l a13, .l a14]) := (Lim_eq _ _).trans (by kernel_rfl)
theorem e_spec_l7SameState_9 (a0 : Int) (a1 : Int) (a2 : Int) (a3 : Int) (a4 : Int) (a5 : Rw) (a6 : Rw) (a7 : Rw) (a8 : Int) (a9 : Int) (a10 : Int) (a11 : Int) (a12 : Rw) (a13 : Rw) (a14 : Rw) : L_spec_l7SameState (some 9) [.i a0, .i a1, .i a2, .i a3, .i a4, .l a5, .l a6, .l a7, .i a8, .i a9, .i a10, .i a11, .l a12, .l a13, .l a14] =
 cond (decide (a0 < (a6.length : Int))) (
 cond (inb a0 a6.length) (
 cond (inb a0 a13.length) (
 cond (!((Eng.seq ((rd a6 a0.toNat 0).str) ((rd a13 a0.toNat 0).str)) && ((Eng.seq ((rd a6 a0.toNat 1).str) ((rd a13 a0.toNat 1).str)) && true))) (
 some [.b false]) (
 L_spec_l7SameState (some 9) [.i (IntKind.i64.wrap (a0 + 1)), .i a1, .i a2, .i a3, .i a4, .l a5, .l a6, .l a7, .i a8, .i a9, .i a10, .i a11, .l a12, .l a13, .l a14])) (
 none)) (
 none)) (
 L_spec_l7SameState (some 14) [.i 0, .i a1, .i a2, .i a3, .i a4, .l a5, .l a6, .l a7, .i a8, .i a9, .i a10, .i a11, .l a12, .l a13, .l a14]) := (Lim_eq _ _).trans (by kernel_rfl)
theorem e_spec_l7SameState_14 (a0 : Int) (a1 : Int) (a2 : Int) (a3 : Int) (a4 : Int) (a5 : Rw) (a6 : Rw) (a7 : Rw) (a8 : Int) (a9 : Int) (a10 : Int) (a11 : Int) (a12 : Rw) (a13 : Rw) (a14 : Rw) : L_spec_l7SameState (some 14) [.i a0, .i a1, .i a2, .i a3, .i a4, .l a5, .l a6, .l a7, .i a8, .i a9, .i a10, .i a11, .l a12, .l a13, .l a14] =
 cond (decide (a0 < (a7.length : Int))) (
 cond (inb a0 a7.length) (
 cond (inb a0 a14.length) (
 cond (!(((rd a7 a0.toNat 0).int == (rd a14 a0.toNat 0).int) && ((Eng.seq ((rd a7 a0.toNat 1).str) ((rd a14 a0.toNat 1).str)) && (((rd a7 a0.toNat 2).int == (rd a14 a0.toNat 2).int) && true)))) (
 some [.b false]) (
 L_spec_l7SameState (some 14) [.i (IntKind.i64.wrap (a0 + 1)), .i a1, .i a2, .i a3, .i a4, .l a5, .l a6, .l a7, .i a8, .i a9, .i a10, .i a11, .l a12, .l a13, .l a14])) (
 none)) (
 none)) (
 some [.b true]) := (Lim_eq _ _).trans (by kernel_rfl)
theorem k_spec_l7SameState : SigOk Tryz.prog (d_spec_l7SameState.sig (L_spec_l7SameState none)) ∧ (d_spec_l7SameState.sig (L_spec_l7SameState none)).ok = true := sound_lim (known_cons k_spec_l7SameThing (by kernel_rfl) known_nil) (by kernel_rfl) (by kernel_rfl) (by kernel_rfl)
def d_spec_l6Ok : FD := { fn := 91, nb := 0, pre := ⟨[.ag [.i .i64 0, .i .i64 1, .i .i64 2, .i .i64 3, .fz 90 false 4, .fz 156 false 5, .fz 158 false 6], .ag [.i .i64 7, .fz 9 false 8, .fz 9 false 9, .i .i64 10, .i .i64 11, .i .i64 12]], []⟩, post := ⟨[.sc (.b 0)], []⟩, sh := false, cuts := [⟨4, [2, 3, 5], ⟨[.sc (.pt 0 0), .sc (.pt 1 0), .sc (.i .i64 0)], [.bx [.i .i64 1, .i .i64 2, .i .i64 3, .i .i64 4, .fz 90 false 5, .fz 156 false 6, .fz 158 false 7], .bx [.i .i64 8, .fz 9 false 9, .fz 9 false 10, .i .i64 11, .i .i64 12, .i .i64 13]]⟩⟩, ⟨9, [2, 3, 6], ⟨[.sc (.pt 0 0), .sc (.pt 1 0), .sc (.i .i64 0)], [.bx [.i .i64 1, .i .i64 2, .i .i64 3, .i .i64 4, .fz 90 false 5, .fz 156 false 6, .fz 158 false 7], .bx [.i .i64 8, .fz 9 false 9, .fz 9 false 10, .i .i64 11, .i .i64 12, .i .i64 13]]⟩⟩] }
noncomputable def L_spec_l6Ok : Option Nat → Lv → Option Lv := Lim Tryz.prog [d_spec_l4Has.sig (L_spec_l4Has none), d_spec_l4Range.sig (L_spec_l4Range none)] d_spec_l6Ok Tryz.f91
theorem e_spec_l6Ok_i (a0 : Int) (a1 : Int) (a2 : Int) (a3 : Int) (a4 : Rw) (a5 : Rw) (a6 : Rw) (a7 : Int) (a8 : Rw) (a9 : Rw) (a10 : Int) (a11 : Int) (a12 : Int) : L_spec_l6Ok none [.i a0, .i a1, .i a2, .i a3, .l a4, .l a5, .l a6, .i a7, .l a8, .l a9, .i a10, .i a11, .i a12] =
 cond (decide (a7 < 0)) (
 some [.b false]) (
 cond (decide (2 < a7)) (
 some [.b false]) (
 (L_spec_l4Range none [.i a12, .i 0, .i 1000000000]).bind fun y1 =>
 cond (!(g y1 0).bool) (
 some [.b false]) (
 cond (decide (23200 < (a8.length : Int))) (
 some [.b false]) (
 cond (decide (600 < (a9.length : Int))) (
 some [.b false]) (
 L_spec_l6Ok (some 4) [.i 0, .i a0, .i a1, .i a2, .i a3, .l a4, .l a5, .l a6, .i a7, .l a8, .l a9, .i a10, .i a11, .i a12]))))) := (Lim_eq _ _).trans (by kernel_rfl)
theorem e_spec_l6Ok_4 (a0 : Int) (a1 : Int) (a2 : Int) (a3 : Int) (a4 : Int) (a5 : Rw) (a6 : Rw) (a7 : Rw) (a8 : Int) (a9 : Rw) (a10 : Rw) (a11 : Int) (a12 : Int) (a13 : Int) : L_spec_l6Ok (some 4) [.i a0, .i a1, .i a2, .i a3, .i a4, .l a5, .l a6, .l a7, .i a8, .l a9, .l a10, .i a11, .i a12, .i a13] =
 cond (decide (a0 < (a9.length : Int))) (
 cond (inb a0 a9.length) (
 cond ((((rd a9 a0.toNat 0).str).size : Int) != a1) (
 some [.b false]) (
 L_spec_l6Ok (some 4) [.i (IntKind.i64.wrap (a0 + 1)), .i a1, .i a2, .i a3, .i a4, .l a5, .l a6, .l a7, .i a8, .l a9, .l a10, .i a11, .i a12, .i a13])) (
 none)) (
 L_spec_l6Ok (some 9) [.i 0, .i a1, .i a2, .i a3, .i a4, .l a5, .l a6, .l a7, .i a8, .l a9, .l a10, .i a11, .i a12, .i a13]) := (Lim_eq _ _).trans (by kernel_rfl)
theorem e_spec_l6Ok_9 (a0 : Int) (a1 : Int) (a2 : Int) (a3 : Int) (a4 : Int) (a5 : Rw) (a6 : Rw) (a7 : Rw) (a8 : Int) (a9 : Rw) (a10 : Rw) (a11 : Int) (a12 : Int) (a13 : Int) : L_spec_l6Ok (some 9) [.i a0, .i a1, .i a2, .i a3, .i a4, .l a5, .l a6, .l a7, .i a8, .l a9, .l a10, .i a11, .i a12, .i a13] =
 cond (decide (a0 < (a10.length : Int))) (
 cond (inb a0 a10.length) (
 cond ((((rd a10 a0.toNat 0).str).size : Int) != a1) (
 some [.b false]) (
 cond (decide (0 ≤ a0)) (
 cond (decide (a0 ≤ (a10.length : Int))) (
 cond (inb a0 a10.length) (
 (L_spec_l4Has none [.l (Eng.sub a10 0 a0.toNat), .s ((rd a10 a0.toNat 0).str)]).bind fun y1 =>
 cond ((g y1 0).bool) (
 some [.b false]) (
 L_spec_l6Ok (some 9) [.i (IntKind.i64.wrap (a0 + 1)), .i a1, .i a2, .i a3, .i a4, .l a5, .l a6, .l a7, .i a8, .l a9, .l a10, .i a11, .i a12, .i a13])) (
 none)) (
 none)) (
 none))) (
 none)) (
 cond (a8 == 0) (
 cond ((a9.length : Int) == 0) (
 cond ((a10.length : Int) == 0) (
 cond (a11 == 0) (
 some [.b (a12 == 0)]) (
 some [.b false])) (
 some [.b false])) (
 some [.b false])) (
 (L_spec_l4Range none [.i a11, .i 0, .i a4]).bind fun y2 =>
 cond (!(g y2 0).bool) (
 some [.b false]) (
 (L_spec_l4Range none [.i a12, .i 1, .i (IntKind.i64.wrap (a11 + 1))]).bind fun y3 =>
 cond (!(g y3 0).bool) (
 some [.b false]) (
 cond (a8 == 2) (
 some [.b true]) (
 some [.b (a12 == (IntKind.i64.wrap (a11 + 1)))]))))) := (Lim_eq _ _).trans (by kernel_rfl)
theorem k_spec_l6Ok : SigOk Tryz.prog (d_spec_l6Ok.sig (L_spec_l6Ok none)) ∧ (d_spec_l6Ok.sig (L_spec_l6Ok none)).ok = true := sound_lim (known_cons k_spec_l4Has (by kernel_rfl) (known_cons k_spec_l4Range (by kernel_rfl) known_nil)) (by kernel_rfl) (by kernel_rfl) (by kernel_rfl)
def d_spec_ValidVault : FD := { fn := 19, nb := 0, pre := ⟨[.ag [.i .i64 0, .i .i64 1, .fz 9 false 2, .fz 9 false 3, .i .i64 4, .i .i64 5, .i .i64 6, .i .i64 7, .fz 90 false 8, .fz 156 false 9, .fz 158 false 10, .i .i64 11, .fz 9 false 12, .fz 9 false 13, .i .i64 14, .i .i64 15, .i .i64 16]], []⟩, post := ⟨[.sc (.b 0)], []⟩, sh := false, cuts := [] }
noncomputable def L_spec_ValidVault : Option Nat → Lv → Option Lv := Lim Tryz.prog [d_spec_l1Width.sig (L_spec_l1Width none), d_spec_Replay.sig (L_spec_Replay none), d_spec_l4Range.sig (L_spec_l4Range none), d_spec_ValidLog.sig (L_spec_ValidLog none), d_spec_l7All.sig (L_spec_l7All none), d_spec_l7SameState.sig (L_spec_l7SameState none), d_spec_l6Ok.sig (L_spec_l6Ok none)] d_spec_ValidVault Tryz.f19
theorem e_spec_ValidVault_i (a0 : Int) (a1 : Int) (a2 : Rw) (a3 : Rw) (a4 : Int) (a5 : Int) (a6 : Int) (a7 : Int) (a8 : Rw) (a9 : Rw) (a10 : Rw) (a11 : Int) (a12 : Rw) (a13 : Rw) (a14 : Int) (a15 : Int) (a16 : Int) : L_spec_ValidVault none [.i a0, .i a1, .l a2, .l a3, .i a4, .i a5, .i a6, .i a7, .l a8, .l a9, .l a10, .i a11, .l a12, .l a13, .i a14, .i a15, .i a16] =
 (L_spec_l1Width none [.i a0]).bind fun y1 =>
 cond (!(g y1 0).bool) (
 some [.b false]) (
 (L_spec_l4Range none [.i a1, .i 0, .i 1000000]).bind fun y2 =>
 cond (!(g y2 0).bool) (
 some [.b false]) (
 (L_spec_ValidLog none [.l a2, .l a3]).bind fun y3 =>
 cond (!(g y3 0).bool) (
 some [.b false]) (
 (L_spec_l7All none [.l a2, .l a3]).bind fun y4 =>
 (L_spec_Replay none [.i a0, .l ((g y4 0).list)]).bind fun y5 =>
 cond ((g y5 0).int == 0) (
 (L_spec_l7SameState none [.i ((g y5 1).int), .i ((g y5 2).int), .i ((g y5 3).int), .i ((g y5 4).int), .l ((g y5 9).list), .l ((g y5 10).list), .l ((g y5 11).list), .i a4, .i a5, .i a6, .i a7, .l a8, .l a9, .l a10]).bind fun y6 =>
 cond ((g y6 0).bool) (
 (L_spec_l6Ok none [.i a4, .i a5, .i a6, .i a7, .l a8, .l a9, .l a10, .i a11, .l a12, .l a13, .i a14, .i a15, .i a16]).bind fun y7 =>
 some [.b ((g y7 0).bool)]) (
 some [.b false])) (
 some [.b false])))) := (Lim_eq _ _).trans (by kernel_rfl)
theorem k_spec_ValidVault : SigOk Tryz.prog (d_spec_ValidVault.sig (L_spec_ValidVault none)) ∧ (d_spec_ValidVault.sig (L_spec_ValidVault none)).ok = true := sound_lim (known_cons k_spec_l1Width (by kernel_rfl) (known_cons k_spec_Replay (by kernel_rfl) (known_cons k_spec_l4Range (by kernel_rfl) (known_cons k_spec_ValidLog (by kernel_rfl) (known_cons k_spec_l7All (by kernel_rfl) (known_cons k_spec_l7SameState (by kernel_rfl) (known_cons k_spec_l6Ok (by kernel_rfl) known_nil))))))) (by kernel_rfl) (by kernel_rfl) (by kernel_rfl)
def d_laws_wList : FD := { fn := 56, nb := 0, pre := ⟨[.sc (.fz 9 false 0), .sc (.fz 9 false 1)], []⟩, post := ⟨[.sc (.b 0)], []⟩, sh := false, cuts := [⟨4, [0, 1, 5], ⟨[.sc (.fz 9 false 0), .sc (.fz 9 false 1), .sc (.i .i64 2)], []⟩⟩] }
noncomputable def L_laws_wList : Option Nat → Lv → Option Lv := Lim Tryz.prog [] d_laws_wList Tryz.f56
theorem e_laws_wList_i (a0 : Rw) (a1 : Rw) : L_laws_wList none [.l a0, .l a1] =
 cond ((a0.length : Int) != (a1.length : Int)) (
 some [.b false]) (
 L_laws_wList (some 4) [.l a0, .l a1, .i 0]) := (Lim_eq _ _).trans (by kernel_rfl)
theorem e_laws_wList_4 (a0 : Rw) (a1 : Rw) (a2 : Int) : L_laws_wList (some 4) [.l a0, .l a1, .i a2] =
 cond (decide (a2 < (a0.length : Int))) (
 cond (inb a2 a0.length) (
 cond (inb a2 a1.length) (
 cond (!Eng.seq ((rd a0 a2.toNat 0).str) ((rd a1 a2.toNat 0).str)) (
 some [.b false]) (
 L_laws_wList (some 4) [.l a0, .l a1, .i (IntKind.i64.wrap (a2 + 1))])) (
 none)) (
 none)) (
 some [.b true]) := (Lim_eq _ _).trans (by kernel_rfl)
theorem k_laws_wList : SigOk Tryz.prog (d_laws_wList.sig (L_laws_wList none)) ∧ (d_laws_wList.sig (L_laws_wList none)).ok = true := sound_lim known_nil (by kernel_rfl) (by kernel_rfl) (by kernel_rfl)
def d_laws_wThing : FD := { fn := 65, nb := 0, pre := ⟨[.ag [.s 0, .fz 9 false 1], .ag [.s 2, .fz 9 false 3]], []⟩, post := ⟨[.sc (.b 0)], []⟩, sh := false, cuts := [] }
noncomputable def L_laws_wThing : Option Nat → Lv → Option Lv := Lim Tryz.prog [d_laws_wList.sig (L_laws_wList none)] d_laws_wThing Tryz.f65
theorem e_laws_wThing_i (a0 : ByteArray) (a1 : Rw) (a2 : ByteArray) (a3 : Rw) : L_laws_wThing none [.s a0, .l a1, .s a2, .l a3] =
 cond (Eng.seq a0 a2) (
 (L_laws_wList none [.l a1, .l a3]).bind fun y1 =>
 some [.b ((g y1 0).bool)]) (
 some [.b false]) := (Lim_eq _ _).trans (by kernel_rfl)
theorem k_laws_wThing : SigOk Tryz.prog (d_laws_wThing.sig (L_laws_wThing none)) ∧ (d_laws_wThing.sig (L_laws_wThing none)).ok = true := sound_lim (known_cons k_laws_wList (by kernel_rfl) known_nil) (by kernel_rfl) (by kernel_rfl) (by kernel_rfl)
def d_laws_wState : FD := { fn := 35, nb := 0, pre := ⟨[.ag [.i .i64 0, .i .i64 1, .i .i64 2, .i .i64 3, .fz 90 false 4, .fz 156 false 5, .fz 158 false 6], .ag [.i .i64 7, .i .i64 8, .i .i64 9, .i .i64 10, .fz 90 false 11, .fz 156 false 12, .fz 158 false 13]], []⟩, post := ⟨[.sc (.b 0)], []⟩, sh := false, cuts := [⟨4, [2, 3, 5], ⟨[.sc (.pt 0 0), .sc (.pt 1 0), .sc (.i .i64 0)], [.bx [.i .i64 1, .i .i64 2, .i .i64 3, .i .i64 4, .fz 90 false 5, .fz 156 false 6, .fz 158 false 7], .bx [.i .i64 8, .i .i64 9, .i .i64 10, .i .i64 11, .fz 90 false 12, .fz 156 false 13, .fz 158 false 14]]⟩⟩, ⟨9, [2, 3, 6], ⟨[.sc (.pt 0 0), .sc (.pt 1 0), .sc (.i .i64 0)], [.bx [.i .i64 1, .i .i64 2, .i .i64 3, .i .i64 4, .fz 90 false 5, .fz 156 false 6, .fz 158 false 7], .bx [.i .i64 8, .i .i64 9, .i .i64 10, .i .i64 11, .fz 90 false 12, .fz 156 false 13, .fz 158 false 14]]⟩⟩, ⟨14, [2, 3, 7], ⟨[.sc (.pt 0 0), .sc (.pt 1 0), .sc (.i .i64 0)], [.bx [.i .i64 1, .i .i64 2, .i .i64 3, .i .i64 4, .fz 90 false 5, .fz 156 false 6, .fz 158 false 7], .bx [.i .i64 8, .i .i64 9, .i .i64 10, .i .i64 11, .fz 90 false 12, .fz 156 false 13, .fz 158 false 14]]⟩⟩] }
noncomputable def L_laws_wState : Option Nat → Lv → Option Lv := Lim Tryz.prog [d_laws_wThing.sig (L_laws_wThing none)] d_laws_wState Tryz.f35
theorem e_laws_wState_i (a0 : Int) (a1 : Int) (a2 : Int) (a3 : Int) (a4 : Rw) (a5 : Rw) (a6 : Rw) (a7 : Int) (a8 : Int) (a9 : Int) (a10 : Int) (a11 : Rw) (a12 : Rw) (a13 : Rw) : L_laws_wState none [.i a0, .i a1, .i a2, .i a3, .l a4, .l a5, .l a6, .i a7, .i a8, .i a9, .i a10, .l a11, .l a12, .l a13] =
 cond (a0 != a7) (
 some [.b false]) (
 cond (a1 != a8) (
 some [.b false]) (
 cond (a2 != a9) (
 some [.b false]) (
 cond (a3 != a10) (
 some [.b false]) (
 cond ((a4.length : Int) != (a11.length : Int)) (
 some [.b false]) (
 cond ((a5.length : Int) != (a12.length : Int)) (
 some [.b false]) (
 cond ((a6.length : Int) != (a13.length : Int)) (
 some [.b false]) (
 L_laws_wState (some 4) [.i 0, .i a0, .i a1, .i a2, .i a3, .l a4, .l a5, .l a6, .i a7, .i a8, .i a9, .i a10, .l a11, .l a12, .l a13]))))))) := (Lim_eq _ _).trans (by kernel_rfl)
theorem e_laws_wState_4 (a0 : Int) (a1 : Int) (a2 : Int) (a3 : Int) (a4 : Int) (a5 : Rw) (a6 : Rw) (a7 : Rw) (a8 : Int) (a9 : Int) (a10 : Int) (a11 : Int) (a12 : Rw) (a13 : Rw) (a14 : Rw) : L_laws_wState (some 4) [.i a0, .i a1, .i a2, .i a3, .i a4, .l a5, .l a6, .l a7, .i a8, .i a9, .i a10, .i a11, .l a12, .l a13, .l a14] =
 cond (decide (a0 < (a5.length : Int))) (
 cond (inb a0 a5.length) (
 cond (inb a0 a12.length) (
 cond (!Eng.seq ((rd a5 a0.toNat 0).str) ((rd a12 a0.toNat 0).str)) (
 some [.b false]) (
 cond (inb a0 a5.length) (
 cond (inb a0 a12.length) (
 cond ((rd a5 a0.toNat 1).int != (rd a12 a0.toNat 1).int) (
 some [.b false]) (
 cond (inb a0 a5.length) (
 cond (inb a0 a12.length) (
 (L_laws_wThing none [.s ((rd a5 a0.toNat 2).str), .l ((rd a5 a0.toNat 3).list), .s ((rd a12 a0.toNat 2).str), .l ((rd a12 a0.toNat 3).list)]).bind fun y1 =>
 cond (!(g y1 0).bool) (
 some [.b false]) (
 L_laws_wState (some 4) [.i (IntKind.i64.wrap (a0 + 1)), .i a1, .i a2, .i a3, .i a4, .l a5, .l a6, .l a7, .i a8, .i a9, .i a10, .i a11, .l a12, .l a13, .l a14])) (
 none)) (
 none))) (
 none)) (
 none))) (
 none)) (
 none)) (
 L_laws_wState (some 9) [.i 0, .i a1, .i a2, .i a3, .i a4, .l a5, .l a6, .l a7, .i a8, .i a9, .i a10, .i a11, .l a12, .l a13, .l a14]) := (Lim_eq _ _).trans (by kernel_rfl)
theorem e_laws_wState_9 (a0 : Int) (a1 : Int) (a2 : Int) (a3 : Int) (a4 : Int) (a5 : Rw) (a6 : Rw) (a7 : Rw) (a8 : Int) (a9 : Int) (a10 : Int) (a11 : Int) (a12 : Rw) (a13 : Rw) (a14 : Rw) : L_laws_wState (some 9) [.i a0, .i a1, .i a2, .i a3, .i a4, .l a5, .l a6, .l a7, .i a8, .i a9, .i a10, .i a11, .l a12, .l a13, .l a14] =
 cond (decide (a0 < (a6.length : Int))) (
 cond (inb a0 a6.length) (
 cond (inb a0 a13.length) (
 cond (!((Eng.seq ((rd a6 a0.toNat 0).str) ((rd a13 a0.toNat 0).str)) && ((Eng.seq ((rd a6 a0.toNat 1).str) ((rd a13 a0.toNat 1).str)) && true))) (
 some [.b false]) (
 L_laws_wState (some 9) [.i (IntKind.i64.wrap (a0 + 1)), .i a1, .i a2, .i a3, .i a4, .l a5, .l a6, .l a7, .i a8, .i a9, .i a10, .i a11, .l a12, .l a13, .l a14])) (
 none)) (
 none)) (
 L_laws_wState (some 14) [.i 0, .i a1, .i a2, .i a3, .i a4, .l a5, .l a6, .l a7, .i a8, .i a9, .i a10, .i a11, .l a12, .l a13, .l a14]) := (Lim_eq _ _).trans (by kernel_rfl)
theorem e_laws_wState_14 (a0 : Int) (a1 : Int) (a2 : Int) (a3 : Int) (a4 : Int) (a5 : Rw) (a6 : Rw) (a7 : Rw) (a8 : Int) (a9 : Int) (a10 : Int) (a11 : Int) (a12 : Rw) (a13 : Rw) (a14 : Rw) : L_laws_wState (some 14) [.i a0, .i a1, .i a2, .i a3, .i a4, .l a5, .l a6, .l a7, .i a8, .i a9, .i a10, .i a11, .l a12, .l a13, .l a14] =
 cond (decide (a0 < (a7.length : Int))) (
 cond (inb a0 a7.length) (
 cond (inb a0 a14.length) (
 cond (!(((rd a7 a0.toNat 0).int == (rd a14 a0.toNat 0).int) && ((Eng.seq ((rd a7 a0.toNat 1).str) ((rd a14 a0.toNat 1).str)) && (((rd a7 a0.toNat 2).int == (rd a14 a0.toNat 2).int) && true)))) (
 some [.b false]) (
 L_laws_wState (some 14) [.i (IntKind.i64.wrap (a0 + 1)), .i a1, .i a2, .i a3, .i a4, .l a5, .l a6, .l a7, .i a8, .i a9, .i a10, .i a11, .l a12, .l a13, .l a14])) (
 none)) (
 none)) (
 some [.b true]) := (Lim_eq _ _).trans (by kernel_rfl)
theorem k_laws_wState : SigOk Tryz.prog (d_laws_wState.sig (L_laws_wState none)) ∧ (d_laws_wState.sig (L_laws_wState none)).ok = true := sound_lim (known_cons k_laws_wThing (by kernel_rfl) known_nil) (by kernel_rfl) (by kernel_rfl) (by kernel_rfl)
def d_laws_wRound : FD := { fn := 50, nb := 0, pre := ⟨[.ag [.i .i64 0, .fz 9 false 1, .fz 9 false 2, .i .i64 3, .i .i64 4, .i .i64 5], .ag [.i .i64 6, .fz 9 false 7, .fz 9 false 8, .i .i64 9, .i .i64 10, .i .i64 11]], []⟩, post := ⟨[.sc (.b 0)], []⟩, sh := false, cuts := [] }
noncomputable def L_laws_wRound : Option Nat → Lv → Option Lv := Lim Tryz.prog [d_laws_wList.sig (L_laws_wList none)] d_laws_wRound Tryz.f50
theorem e_laws_wRound_i (a0 : Int) (a1 : Rw) (a2 : Rw) (a3 : Int) (a4 : Int) (a5 : Int) (a6 : Int) (a7 : Rw) (a8 : Rw) (a9 : Int) (a10 : Int) (a11 : Int) : L_laws_wRound none [.i a0, .l a1, .l a2, .i a3, .i a4, .i a5, .i a6, .l a7, .l a8, .i a9, .i a10, .i a11] =
 cond (a0 == a6) (
 cond (a3 == a9) (
 cond (a4 == a10) (
 cond (a5 == a11) (
 (L_laws_wList none [.l a1, .l a7]).bind fun y1 =>
 cond ((g y1 0).bool) (
 (L_laws_wList none [.l a2, .l a8]).bind fun y2 =>
 some [.b ((g y2 0).bool)]) (
 some [.b false])) (
 some [.b false])) (
 some [.b false])) (
 some [.b false])) (
 some [.b false]) := (Lim_eq _ _).trans (by kernel_rfl)
theorem k_laws_wRound : SigOk Tryz.prog (d_laws_wRound.sig (L_laws_wRound none)) ∧ (d_laws_wRound.sig (L_laws_wRound none)).ok = true := sound_lim (known_cons k_laws_wList (by kernel_rfl) known_nil) (by kernel_rfl) (by kernel_rfl) (by kernel_rfl)
def d_laws_wVault : FD := { fn := 20, nb := 0, pre := ⟨[.ag [.i .i64 0, .i .i64 1, .fz 9 false 2, .fz 9 false 3, .i .i64 4, .i .i64 5, .i .i64 6, .i .i64 7, .fz 90 false 8, .fz 156 false 9, .fz 158 false 10, .i .i64 11, .fz 9 false 12, .fz 9 false 13, .i .i64 14, .i .i64 15, .i .i64 16], .ag [.i .i64 17, .i .i64 18, .fz 9 false 19, .fz 9 false 20, .i .i64 21, .i .i64 22, .i .i64 23, .i .i64 24, .fz 90 false 25, .fz 156 false 26, .fz 158 false 27, .i .i64 28, .fz 9 false 29, .fz 9 false 30, .i .i64 31, .i .i64 32, .i .i64 33]], []⟩, post := ⟨[.sc (.b 0)], []⟩, sh := false, cuts := [] }
noncomputable def L_laws_wVault : Option Nat → Lv → Option Lv := Lim Tryz.prog [d_laws_wList.sig (L_laws_wList none), d_laws_wState.sig (L_laws_wState none), d_laws_wRound.sig (L_laws_wRound none)] d_laws_wVault Tryz.f20
theorem e_laws_wVault_i (a0 : Int) (a1 : Int) (a2 : Rw) (a3 : Rw) (a4 : Int) (a5 : Int) (a6 : Int) (a7 : Int) (a8 : Rw) (a9 : Rw) (a10 : Rw) (a11 : Int) (a12 : Rw) (a13 : Rw) (a14 : Int) (a15 : Int) (a16 : Int) (a17 : Int) (a18 : Int) (a19 : Rw) (a20 : Rw) (a21 : Int) (a22 : Int) (a23 : Int) (a24 : Int) (a25 : Rw) (a26 : Rw) (a27 : Rw) (a28 : Int) (a29 : Rw) (a30 : Rw) (a31 : Int) (a32 : Int) (a33 : Int) : L_laws_wVault none [.i a0, .i a1, .l a2, .l a3, .i a4, .i a5, .i a6, .i a7, .l a8, .l a9, .l a10, .i a11, .l a12, .l a13, .i a14, .i a15, .i a16, .i a17, .i a18, .l a19, .l a20, .i a21, .i a22, .i a23, .i a24, .l a25, .l a26, .l a27, .i a28, .l a29, .l a30, .i a31, .i a32, .i a33] =
 cond (a0 == a17) (
 cond (a1 == a18) (
 (L_laws_wList none [.l a2, .l a19]).bind fun y1 =>
 cond ((g y1 0).bool) (
 (L_laws_wList none [.l a3, .l a20]).bind fun y2 =>
 cond ((g y2 0).bool) (
 (L_laws_wState none [.i a4, .i a5, .i a6, .i a7, .l a8, .l a9, .l a10, .i a21, .i a22, .i a23, .i a24, .l a25, .l a26, .l a27]).bind fun y3 =>
 cond ((g y3 0).bool) (
 (L_laws_wRound none [.i a11, .l a12, .l a13, .i a14, .i a15, .i a16, .i a28, .l a29, .l a30, .i a31, .i a32, .i a33]).bind fun y4 =>
 some [.b ((g y4 0).bool)]) (
 some [.b false])) (
 some [.b false])) (
 some [.b false])) (
 some [.b false])) (
 some [.b false]) := (Lim_eq _ _).trans (by kernel_rfl)
theorem k_laws_wVault : SigOk Tryz.prog (d_laws_wVault.sig (L_laws_wVault none)) ∧ (d_laws_wVault.sig (L_laws_wVault none)).ok = true := sound_lim (known_cons k_laws_wList (by kernel_rfl) (known_cons k_laws_wState (by kernel_rfl) (known_cons k_laws_wRound (by kernel_rfl) known_nil))) (by kernel_rfl) (by kernel_rfl) (by kernel_rfl)
def d_impl_Replay : FD := { fn := 33, nb := 0, pre := ⟨[.sc (.i .i64 0), .sc (.fz 9 false 1)], []⟩, post := ⟨[.ag [.i .i64 0, .i .i64 1, .i .i64 2, .i .i64 3, .i .i64 4, .ow 0, .ow 1, .ow 2, .s 5, .i .i64 6, .s 7, .s 8]], [.rw 90 true 9, .rw 156 true 10, .rw 158 true 11]⟩, sh := false, cuts := [] }
noncomputable def L_impl_Replay : Option Nat → Lv → Option Lv := Lim Tryz.prog [d_impl_widthOk.sig (L_impl_widthOk none), d_impl_replay.sig (L_impl_replay none)] d_impl_Replay Tryz.f33
theorem e_impl_Replay_i (a0 : Int) (a1 : Rw) : L_impl_Replay none [.i a0, .l a1] =
 (L_impl_widthOk none [.i a0]).bind fun y1 =>
 cond (!(g y1 0).bool) (
 some [.i 1, .i 0, .i 0, .i 0, .i 0, .s (⟨#[]⟩ : ByteArray), .i 0, .s (⟨#[]⟩ : ByteArray), .s (⟨#[]⟩ : ByteArray), .l [], .l [], .l []]) (
 cond (decide (4000 < (a1.length : Int))) (
 some [.i 1, .i 0, .i 0, .i 0, .i 0, .s (⟨#[]⟩ : ByteArray), .i 0, .s (⟨#[]⟩ : ByteArray), .s (⟨#[]⟩ : ByteArray), .l [], .l [], .l []]) (
 (L_impl_replay none [.i a0, .l a1]).bind fun y2 =>
 cond (decide (0 < (g y2 4).int)) (
 some [.i 7, .i 0, .i 0, .i 0, .i 0, .s (⟨#[]⟩ : ByteArray), .i ((g y2 4).int), .s (⟨#[]⟩ : ByteArray), .s (⟨#[]⟩ : ByteArray), .l [], .l [], .l []]) (
 some [.i 0, .i ((g y2 0).int), .i ((g y2 1).int), .i ((g y2 2).int), .i ((g y2 3).int), .s (⟨#[]⟩ : ByteArray), .i 0, .s (⟨#[]⟩ : ByteArray), .s (⟨#[]⟩ : ByteArray), .l ((g y2 5).list), .l ((g y2 6).list), .l ((g y2 7).list)]))) := (Lim_eq _ _).trans (by kernel_rfl)
theorem k_impl_Replay : SigOk Tryz.prog (d_impl_Replay.sig (L_impl_Replay none)) ∧ (d_impl_Replay.sig (L_impl_Replay none)).ok = true := sound_lim (known_cons k_impl_widthOk (by kernel_rfl) (known_cons k_impl_replay (by kernel_rfl) known_nil)) (by kernel_rfl) (by kernel_rfl) (by kernel_rfl)
def d_spec_l1Open : FD := { fn := 73, nb := 0, pre := ⟨[.sc (.fz 5 false 0)], []⟩, post := ⟨[.sc (.pt 0 0)], [.bx [.fz 5 false 0, .i .i64 1]]⟩, sh := true, cuts := [] }
noncomputable def L_spec_l1Open : Option Nat → Lv → Option Lv := Lim Tryz.prog [] d_spec_l1Open Tryz.f73
theorem e_spec_l1Open_i (a0 : Rw) : L_spec_l1Open none [.l a0] =
 cond (decide (2000 < (a0.length : Int))) (
 cond (decide (2000 ≤ (a0.length : Int))) (
 some [.l (Eng.sub a0 0 2000), .i 0]) (
 none)) (
 some [.l a0, .i 0]) := (Lim_eq _ _).trans (by kernel_rfl)
theorem k_spec_l1Open : SigOk Tryz.prog (d_spec_l1Open.sig (L_spec_l1Open none)) ∧ (d_spec_l1Open.sig (L_spec_l1Open none)).ok = true := sound_lim known_nil (by kernel_rfl) (by kernel_rfl) (by kernel_rfl)
def d_spec_l1Rd_pick : FD := { fn := 74, nb := 1, pre := ⟨[.sc (.pt 0 0), .sc (.i .i64 0)], [.bx [.fz 5 false 1, .i .i64 2]]⟩, post := ⟨[.sc (.i .i64 0)], [.bx [.fz 5 false 1, .i .i64 2]]⟩, sh := true, cuts := [] }
noncomputable def L_spec_l1Rd_pick : Option Nat → Lv → Option Lv := Lim Tryz.prog [] d_spec_l1Rd_pick Tryz.f74
theorem e_spec_l1Rd_pick_i (a0 : Int) (a1 : Rw) (a2 : Int) : L_spec_l1Rd_pick none [.i a0, .l a1, .i a2] =
 cond (decide (a0 < 1)) (
 some [.i 0, .l a1, .i (IntKind.i64.wrap (a2 + 1))]) (
 cond ((a1.length : Int) == 0) (
 some [.i 0, .l a1, .i (IntKind.i64.wrap (a2 + 1))]) (
 cond (decide ((IntKind.i64.wrap ((IntKind.i64.wrap (a2 + 1)) - 1)) < (a1.length : Int))) (
 cond (inb (IntKind.i64.wrap ((IntKind.i64.wrap (a2 + 1)) - 1)) a1.length) (
 cond (a0 != 0) (
 some [.i ((IntKind.i64.wrap ((rd a1 ((IntKind.i64.wrap ((IntKind.i64.wrap (a2 + 1)) - 1)).toNat) 0).int)).tmod a0), .l a1, .i (IntKind.i64.wrap (a2 + 1))]) (
 none)) (
 none)) (
 cond ((a1.length : Int) != 0) (
 cond (inb ((IntKind.i64.wrap ((IntKind.i64.wrap (a2 + 1)) - 1)).tmod (a1.length : Int)) a1.length) (
 cond ((a1.length : Int) != 0) (
 cond (inb ((IntKind.i64.wrap ((IntKind.i64.wrap ((IntKind.i64.wrap ((IntKind.i64.wrap (a2 + 1)) - 1)) * 7)) + 3)).tmod (a1.length : Int)) a1.length) (
 cond ((a1.length : Int) != 0) (
 cond (a0 != 0) (
 some [.i ((IntKind.i64.wrap (BitVec.ofInt (IntKind.i64).bits (IntKind.i64.wrap ((IntKind.i64.wrap ((IntKind.i64.wrap ((IntKind.i64.wrap ((IntKind.i64.wrap ((rd a1 (((IntKind.i64.wrap ((IntKind.i64.wrap (a2 + 1)) - 1)).tmod (a1.length : Int)).toNat) 0).int)) * 131)) + (IntKind.i64.wrap ((IntKind.i64.wrap ((rd a1 (((IntKind.i64.wrap ((IntKind.i64.wrap ((IntKind.i64.wrap ((IntKind.i64.wrap (a2 + 1)) - 1)) * 7)) + 3)).tmod (a1.length : Int)).toNat) 0).int)) * 1117)))) + (IntKind.i64.wrap ((IntKind.i64.wrap ((IntKind.i64.wrap (a2 + 1)) - 1)) * 29)))) + (IntKind.i64.wrap ((IntKind.i64.wrap ((IntKind.i64.wrap ((IntKind.i64.wrap (a2 + 1)) - 1)).tdiv (a1.length : Int))) * 53)))) ^^^ BitVec.ofInt (IntKind.i64).bits (IntKind.i64.wrap ((IntKind.i64.wrap ((IntKind.i64.wrap ((IntKind.i64.wrap ((IntKind.i64.wrap ((IntKind.i64.wrap ((rd a1 (((IntKind.i64.wrap ((IntKind.i64.wrap (a2 + 1)) - 1)).tmod (a1.length : Int)).toNat) 0).int)) * 131)) + (IntKind.i64.wrap ((IntKind.i64.wrap ((rd a1 (((IntKind.i64.wrap ((IntKind.i64.wrap ((IntKind.i64.wrap ((IntKind.i64.wrap (a2 + 1)) - 1)) * 7)) + 3)).tmod (a1.length : Int)).toNat) 0).int)) * 1117)))) + (IntKind.i64.wrap ((IntKind.i64.wrap ((IntKind.i64.wrap (a2 + 1)) - 1)) * 29)))) + (IntKind.i64.wrap ((IntKind.i64.wrap ((IntKind.i64.wrap ((IntKind.i64.wrap (a2 + 1)) - 1)).tdiv (a1.length : Int))) * 53)))).tdiv 64))).toNat).tmod a0), .l a1, .i (IntKind.i64.wrap (a2 + 1))]) (
 none)) (
 none)) (
 none)) (
 none)) (
 none)) (
 none)))) := (Lim_eq _ _).trans (by kernel_rfl)
theorem k_spec_l1Rd_pick : SigOk Tryz.prog (d_spec_l1Rd_pick.sig (L_spec_l1Rd_pick none)) ∧ (d_spec_l1Rd_pick.sig (L_spec_l1Rd_pick none)).ok = true := sound_lim known_nil (by kernel_rfl) (by kernel_rfl) (by kernel_rfl)
def d_spec_l1DrawWidth : FD := { fn := 174, nb := 1, pre := ⟨[.sc (.pt 0 0)], [.bx [.fz 5 false 0, .i .i64 1]]⟩, post := ⟨[.sc (.i .i64 0)], [.bx [.fz 5 false 1, .i .i64 2]]⟩, sh := true, cuts := [] }
noncomputable def L_spec_l1DrawWidth : Option Nat → Lv → Option Lv := Lim Tryz.prog [d_spec_l1Rd_pick.sig (L_spec_l1Rd_pick none)] d_spec_l1DrawWidth Tryz.f174
theorem e_spec_l1DrawWidth_i (a0 : Rw) (a1 : Int) : L_spec_l1DrawWidth none [.l a0, .i a1] =
 (L_spec_l1Rd_pick none [.i 8, .l a0, .i a1]).bind fun y1 =>
 cond (decide ((g y1 0).int < 2)) (
 some [.i 1, .l ((g y1 1).list), .i ((g y1 2).int)]) (
 cond ((g y1 0).int == 2) (
 some [.i 2, .l ((g y1 1).list), .i ((g y1 2).int)]) (
 some [.i 8, .l ((g y1 1).list), .i ((g y1 2).int)])) := (Lim_eq _ _).trans (by kernel_rfl)
theorem k_spec_l1DrawWidth : SigOk Tryz.prog (d_spec_l1DrawWidth.sig (L_spec_l1DrawWidth none)) ∧ (d_spec_l1DrawWidth.sig (L_spec_l1DrawWidth none)).ok = true := sound_lim (known_cons k_spec_l1Rd_pick (by kernel_rfl) known_nil) (by kernel_rfl) (by kernel_rfl) (by kernel_rfl)
end KV
end
section
set_option maxRecDepth 100000
namespace KV
open Go Go.Eng Go.Proofs
def d_spec_l1Text : FD := { fn := 154, nb := 1, pre := ⟨[.sc (.pt 0 0)], [.bx [.fz 5 false 0, .i .i64 1]]⟩, post := ⟨[.sc (.s 0)], [.bx [.fz 5 false 1, .i .i64 2]]⟩, sh := true, cuts := [⟨13, [0, 3, 4, 5], ⟨[.sc (.pt 0 0), .sc (.i .i64 0), .sc (.ow 1), .sc (.i .i64 1)], [.bx [.fz 5 false 2, .i .i64 3], .rw 5 true 4]⟩⟩] }
noncomputable def L_spec_l1Text : Option Nat → Lv → Option Lv := Lim Tryz.prog [d_spec_l1Rd_pick.sig (L_spec_l1Rd_pick none)] d_spec_l1Text Tryz.f154
theorem e_spec_l1Text_i (a0 : Rw) (a1 : Int) : L_spec_l1Text none [.l a0, .i a1] =
 (L_spec_l1Rd_pick none [.i 9, .l a0, .i a1]).bind fun y1 =>
 cond ((g y1 0).int == 0) (
 some [.s (⟨#[]⟩ : ByteArray), .l ((g y1 1).list), .i ((g y1 2).int)]) (
 cond ((g y1 0).int == 1) (
 some [.s (⟨#[97, 32, 98]⟩ : ByteArray), .l ((g y1 1).list), .i ((g y1 2).int)]) (
 cond ((g y1 0).int == 2) (
 some [.s (⟨#[37, 45, 10]⟩ : ByteArray), .l ((g y1 1).list), .i ((g y1 2).int)]) (
 cond ((g y1 0).int == 3) (
 some [.s (⟨#[255, 0]⟩ : ByteArray), .l ((g y1 1).list), .i ((g y1 2).int)]) (
 (L_spec_l1Rd_pick none [.i 4, .l ((g y1 1).list), .i ((g y1 2).int)]).bind fun y2 =>
 L_spec_l1Text (some 13) [.i ((g y2 0).int), .i 0, .l ((g y2 1).list), .i ((g y2 2).int), .l ([] : Rw)])))) := (Lim_eq _ _).trans (by kernel_rfl)
theorem e_spec_l1Text_13 (a0 : Int) (a1 : Int) (a2 : Rw) (a3 : Int) (a4 : Rw) : L_spec_l1Text (some 13) [.i a0, .i a1, .l a2, .i a3, .l a4] =
 cond (decide (a1 ≤ a0)) (
 (L_spec_l1Rd_pick none [.i 6, .l a2, .i a3]).bind fun y1 =>
 cond (decide (a4.length + ([[.i (IntKind.u8.wrap (IntKind.i64.wrap (97 + (g y1 0).int)))]] : Rw).length ≤ most)) (
 L_spec_l1Text (some 13) [.i a0, .i (IntKind.i64.wrap (a1 + 1)), .l ((g y1 1).list), .i ((g y1 2).int), .l (a4 ++ ([[.i (IntKind.u8.wrap (IntKind.i64.wrap (97 + (g y1 0).int)))]] : Rw))]) (
 none)) (
 some [.s (bytesOf a4), .l a2, .i a3]) := (Lim_eq _ _).trans (by kernel_rfl)
theorem k_spec_l1Text : SigOk Tryz.prog (d_spec_l1Text.sig (L_spec_l1Text none)) ∧ (d_spec_l1Text.sig (L_spec_l1Text none)).ok = true := sound_lim (known_cons k_spec_l1Rd_pick (by kernel_rfl) known_nil) (by kernel_rfl) (by kernel_rfl) (by kernel_rfl)
def d_spec_l7Act : FD := { fn := 75, nb := 1, pre := ⟨[.sc (.pt 0 0)], [.bx [.fz 5 false 0, .i .i64 1]]⟩, post := ⟨[.ag [.i .i64 0, .s 1, .i .i64 2, .s 3, .i .i64 4, .i .i64 5]], [.bx [.fz 5 false 6, .i .i64 7]]⟩, sh := true, cuts := [] }
noncomputable def L_spec_l7Act : Option Nat → Lv → Option Lv := Lim Tryz.prog [d_spec_l1Rd_pick.sig (L_spec_l1Rd_pick none), d_spec_l1Text.sig (L_spec_l1Text none)] d_spec_l7Act Tryz.f75
theorem e_spec_l7Act_i (a0 : Rw) (a1 : Int) : L_spec_l7Act none [.l a0, .i a1] =
 (L_spec_l1Text none [.l a0, .i a1]).bind fun y1 =>
 (L_spec_l1Rd_pick none [.i 8, .l ((g y1 1).list), .i ((g y1 2).int)]).bind fun y2 =>
 (L_spec_l1Rd_pick none [.i 3, .l ((g y2 1).list), .i ((g y2 2).int)]).bind fun y3 =>
 cond (inb ((g y3 0).int) (([[.s (⟨#[112]⟩ : ByteArray)], [.s (⟨#[113]⟩ : ByteArray)], [.s (⟨#[114]⟩ : ByteArray)]] : Rw).length)) (
 (L_spec_l1Rd_pick none [.i 40, .l ((g y3 1).list), .i ((g y3 2).int)]).bind fun y4 =>
 (L_spec_l1Rd_pick none [.i 5, .l ((g y4 1).list), .i ((g y4 2).int)]).bind fun y5 =>
 cond (inb ((g y5 0).int) (([[.i 1], [.i 3], [.i 10], [.i 40], [.i 200]] : Rw).length)) (
 (L_spec_l1Rd_pick none [.i 20, .l ((g y5 1).list), .i ((g y5 2).int)]).bind fun y6 =>
 cond (decide ((g y6 0).int < 7)) (
 some [.i 1, .s ((g y1 0).str), .i ((g y2 0).int), .s ((rd ([[.s (⟨#[112]⟩ : ByteArray)], [.s (⟨#[113]⟩ : ByteArray)], [.s (⟨#[114]⟩ : ByteArray)]] : Rw) (((g y3 0).int).toNat) 0).str), .i ((g y4 0).int), .i ((rd ([[.i 1], [.i 3], [.i 10], [.i 40], [.i 200]] : Rw) (((g y5 0).int).toNat) 0).int), .l ((g y6 1).list), .i ((g y6 2).int)]) (
 cond (decide ((g y6 0).int < 10)) (
 some [.i 2, .s ((g y1 0).str), .i ((g y2 0).int), .s ((rd ([[.s (⟨#[112]⟩ : ByteArray)], [.s (⟨#[113]⟩ : ByteArray)], [.s (⟨#[114]⟩ : ByteArray)]] : Rw) (((g y3 0).int).toNat) 0).str), .i ((g y4 0).int), .i ((rd ([[.i 1], [.i 3], [.i 10], [.i 40], [.i 200]] : Rw) (((g y5 0).int).toNat) 0).int), .l ((g y6 1).list), .i ((g y6 2).int)]) (
 cond ((g y6 0).int == 10) (
 some [.i 3, .s ((g y1 0).str), .i ((g y2 0).int), .s ((rd ([[.s (⟨#[112]⟩ : ByteArray)], [.s (⟨#[113]⟩ : ByteArray)], [.s (⟨#[114]⟩ : ByteArray)]] : Rw) (((g y3 0).int).toNat) 0).str), .i ((g y4 0).int), .i ((rd ([[.i 1], [.i 3], [.i 10], [.i 40], [.i 200]] : Rw) (((g y5 0).int).toNat) 0).int), .l ((g y6 1).list), .i ((g y6 2).int)]) (
 cond ((g y6 0).int == 11) (
 some [.i 4, .s ((g y1 0).str), .i ((g y2 0).int), .s ((rd ([[.s (⟨#[112]⟩ : ByteArray)], [.s (⟨#[113]⟩ : ByteArray)], [.s (⟨#[114]⟩ : ByteArray)]] : Rw) (((g y3 0).int).toNat) 0).str), .i ((g y4 0).int), .i ((rd ([[.i 1], [.i 3], [.i 10], [.i 40], [.i 200]] : Rw) (((g y5 0).int).toNat) 0).int), .l ((g y6 1).list), .i ((g y6 2).int)]) (
 cond ((g y6 0).int == 12) (
 some [.i 5, .s ((g y1 0).str), .i ((g y2 0).int), .s ((rd ([[.s (⟨#[112]⟩ : ByteArray)], [.s (⟨#[113]⟩ : ByteArray)], [.s (⟨#[114]⟩ : ByteArray)]] : Rw) (((g y3 0).int).toNat) 0).str), .i ((g y4 0).int), .i ((rd ([[.i 1], [.i 3], [.i 10], [.i 40], [.i 200]] : Rw) (((g y5 0).int).toNat) 0).int), .l ((g y6 1).list), .i ((g y6 2).int)]) (
 cond (decide ((g y6 0).int < 15)) (
 some [.i 6, .s ((g y1 0).str), .i ((g y2 0).int), .s ((rd ([[.s (⟨#[112]⟩ : ByteArray)], [.s (⟨#[113]⟩ : ByteArray)], [.s (⟨#[114]⟩ : ByteArray)]] : Rw) (((g y3 0).int).toNat) 0).str), .i ((g y4 0).int), .i ((rd ([[.i 1], [.i 3], [.i 10], [.i 40], [.i 200]] : Rw) (((g y5 0).int).toNat) 0).int), .l ((g y6 1).list), .i ((g y6 2).int)]) (
 cond ((g y6 0).int == 15) (
 some [.i 8, .s ((g y1 0).str), .i ((g y2 0).int), .s ((rd ([[.s (⟨#[112]⟩ : ByteArray)], [.s (⟨#[113]⟩ : ByteArray)], [.s (⟨#[114]⟩ : ByteArray)]] : Rw) (((g y3 0).int).toNat) 0).str), .i ((g y4 0).int), .i ((rd ([[.i 1], [.i 3], [.i 10], [.i 40], [.i 200]] : Rw) (((g y5 0).int).toNat) 0).int), .l ((g y6 1).list), .i ((g y6 2).int)]) (
 cond ((g y6 0).int == 16) (
 some [.i 9, .s ((g y1 0).str), .i ((g y2 0).int), .s ((rd ([[.s (⟨#[112]⟩ : ByteArray)], [.s (⟨#[113]⟩ : ByteArray)], [.s (⟨#[114]⟩ : ByteArray)]] : Rw) (((g y3 0).int).toNat) 0).str), .i ((g y4 0).int), .i ((rd ([[.i 1], [.i 3], [.i 10], [.i 40], [.i 200]] : Rw) (((g y5 0).int).toNat) 0).int), .l ((g y6 1).list), .i ((g y6 2).int)]) (
 some [.i 10, .s ((g y1 0).str), .i ((g y2 0).int), .s ((rd ([[.s (⟨#[112]⟩ : ByteArray)], [.s (⟨#[113]⟩ : ByteArray)], [.s (⟨#[114]⟩ : ByteArray)]] : Rw) (((g y3 0).int).toNat) 0).str), .i ((g y4 0).int), .i ((rd ([[.i 1], [.i 3], [.i 10], [.i 40], [.i 200]] : Rw) (((g y5 0).int).toNat) 0).int), .l ((g y6 1).list), .i ((g y6 2).int)]))))))))) (
 none)) (
 none) := (Lim_eq _ _).trans (by kernel_rfl)
theorem k_spec_l7Act : SigOk Tryz.prog (d_spec_l7Act.sig (L_spec_l7Act none)) ∧ (d_spec_l7Act.sig (L_spec_l7Act none)).ok = true := sound_lim (known_cons k_spec_l1Rd_pick (by kernel_rfl) (known_cons k_spec_l1Text (by kernel_rfl) known_nil)) (by kernel_rfl) (by kernel_rfl) (by kernel_rfl)
def d_spec_l2Log : FD := { fn := 206, nb := 0, pre := ⟨[.ag [.fz 9 false 0, .fz 9 false 1]], []⟩, post := ⟨[.ag [.ow 0, .ow 1]], [.rw 9 true 0, .rw 9 true 1]⟩, sh := false, cuts := [] }
noncomputable def L_spec_l2Log : Option Nat → Lv → Option Lv := Lim Tryz.prog [] d_spec_l2Log Tryz.f206
theorem e_spec_l2Log_i (a0 : Rw) (a1 : Rw) : L_spec_l2Log none [.l a0, .l a1] =
 cond (decide (([] : Rw).length + a0.length ≤ most)) (
 cond (decide (([] : Rw).length + a1.length ≤ most)) (
 some [.l (([] : Rw) ++ a0), .l (([] : Rw) ++ a1)]) (
 none)) (
 none) := (Lim_eq _ _).trans (by kernel_rfl)
theorem k_spec_l2Log : SigOk Tryz.prog (d_spec_l2Log.sig (L_spec_l2Log none)) ∧ (d_spec_l2Log.sig (L_spec_l2Log none)).ok = true := sound_lim known_nil (by kernel_rfl) (by kernel_rfl) (by kernel_rfl)
def d_spec_Open : FD := { fn := 173, nb := 0, pre := ⟨[.sc (.i .i64 0), .sc (.i .i64 1), .ag [.fz 9 false 2, .fz 9 false 3]], []⟩, post := ⟨[.tu [(true, [.i .i64 0, .i .i64 1, .ow 0, .ow 1, .i .i64 2, .i .i64 3, .i .i64 4, .i .i64 5, .ow 2, .ow 3, .ow 4, .i .i64 6, .fz 9 true 7, .fz 9 true 8, .i .i64 9, .i .i64 10, .i .i64 11]), (false, [.i .i64 12])]], [.rw 9 true 13, .rw 9 true 14, .rw 90 true 15, .rw 156 true 16, .rw 158 true 17]⟩, sh := false, cuts := [] }
noncomputable def L_spec_Open : Option Nat → Lv → Option Lv := Lim Tryz.prog [d_spec_l1Width.sig (L_spec_l1Width none), d_spec_Replay.sig (L_spec_Replay none), d_spec_l4Range.sig (L_spec_l4Range none), d_spec_ValidLog.sig (L_spec_ValidLog none), d_spec_l7All.sig (L_spec_l7All none), d_spec_l2Log.sig (L_spec_l2Log none)] d_spec_Open Tryz.f173
theorem e_spec_Open_i (a0 : Int) (a1 : Int) (a2 : Rw) (a3 : Rw) : L_spec_Open none [.i a0, .i a1, .l a2, .l a3] =
 (L_spec_l1Width none [.i a0]).bind fun y1 =>
 cond (!(g y1 0).bool) (
 some [.i 0, .i 0, .i 0, .i 0, .i 0, .i 0, .i 0, .l ([]), .l ([]), .i 0, .i 0, .i 0, .i 1, .l [], .l [], .l [], .l [], .l []]) (
 (L_spec_l4Range none [.i a1, .i 0, .i 1000000]).bind fun y2 =>
 cond (!(g y2 0).bool) (
 some [.i 0, .i 0, .i 0, .i 0, .i 0, .i 0, .i 0, .l ([]), .l ([]), .i 0, .i 0, .i 0, .i 1, .l [], .l [], .l [], .l [], .l []]) (
 (L_spec_ValidLog none [.l a2, .l a3]).bind fun y3 =>
 cond (!(g y3 0).bool) (
 some [.i 0, .i 0, .i 0, .i 0, .i 0, .i 0, .i 0, .l ([]), .l ([]), .i 0, .i 0, .i 0, .i 1, .l [], .l [], .l [], .l [], .l []]) (
 (L_spec_l7All none [.l a2, .l a3]).bind fun y4 =>
 (L_spec_Replay none [.i a0, .l ((g y4 0).list)]).bind fun y5 =>
 cond ((g y5 0).int != 0) (
 some [.i 0, .i 0, .i 0, .i 0, .i 0, .i 0, .i 0, .l ([]), .l ([]), .i 0, .i 0, .i 0, .i 2, .l [], .l [], .l [], .l [], .l []]) (
 (L_spec_l2Log none [.l a2, .l a3]).bind fun y6 =>
 some [.i a0, .i a1, .i ((g y5 1).int), .i ((g y5 2).int), .i ((g y5 3).int), .i ((g y5 4).int), .i 0, .l ([]), .l ([]), .i 0, .i 0, .i 0, .i 0, .l ((g y6 0).list), .l ((g y6 1).list), .l ((g y5 9).list), .l ((g y5 10).list), .l ((g y5 11).list)])))) := (Lim_eq _ _).trans (by kernel_rfl)
theorem k_spec_Open : SigOk Tryz.prog (d_spec_Open.sig (L_spec_Open none)) ∧ (d_spec_Open.sig (L_spec_Open none)).ok = true := sound_lim (known_cons k_spec_l1Width (by kernel_rfl) (known_cons k_spec_Replay (by kernel_rfl) (known_cons k_spec_l4Range (by kernel_rfl) (known_cons k_spec_ValidLog (by kernel_rfl) (known_cons k_spec_l7All (by kernel_rfl) (known_cons k_spec_l2Log (by kernel_rfl) known_nil)))))) (by kernel_rfl) (by kernel_rfl) (by kernel_rfl)
def d_spec_l1Sorted : FD := { fn := 76, nb := 0, pre := ⟨[.sc (.fz 9 false 0)], []⟩, post := ⟨[.sc (.ow 0)], [.rw 9 true 0]⟩, sh := false, cuts := [⟨3, [0, 3, 4], ⟨[.sc (.fz 9 false 0), .sc (.ow 0), .sc (.i .i64 1)], [.rw 9 true 2]⟩⟩, ⟨6, [0, 3, 4, 5], ⟨[.sc (.fz 9 false 0), .sc (.ow 0), .sc (.i .i64 1), .sc (.i .i64 2)], [.rw 9 true 3]⟩⟩, ⟨9, [0, 3, 4, 5], ⟨[.sc (.fz 9 false 0), .sc (.ow 0), .sc (.i .i64 1), .sc (.i .i64 2)], [.rw 9 true 3]⟩⟩] }
noncomputable def L_spec_l1Sorted : Option Nat → Lv → Option Lv := Lim Tryz.prog [] d_spec_l1Sorted Tryz.f76
theorem e_spec_l1Sorted_i (a0 : Rw) : L_spec_l1Sorted none [.l a0] =
 L_spec_l1Sorted (some 3) [.l a0, .i 0, .l ([] : Rw)] := (Lim_eq _ _).trans (by kernel_rfl)
theorem e_spec_l1Sorted_3 (a0 : Rw) (a1 : Int) (a2 : Rw) : L_spec_l1Sorted (some 3) [.l a0, .i a1, .l a2] =
 cond (decide (a1 < (a0.length : Int))) (
 L_spec_l1Sorted (some 6) [.l a0, .i a1, .i 0, .l a2]) (
 some [.l a2]) := (Lim_eq _ _).trans (by kernel_rfl)
theorem e_spec_l1Sorted_6 (a0 : Rw) (a1 : Int) (a2 : Int) (a3 : Rw) : L_spec_l1Sorted (some 6) [.l a0, .i a1, .i a2, .l a3] =
 cond (decide (a2 < (a3.length : Int))) (
 cond (inb a2 a3.length) (
 cond (inb a1 a0.length) (
 cond (slt ((rd a3 a2.toNat 0).str) ((rd a0 a1.toNat 0).str)) (
 L_spec_l1Sorted (some 6) [.l a0, .i a1, .i (IntKind.i64.wrap (a2 + 1)), .l a3]) (
 cond (decide (a2 < (a3.length : Int))) (
 cond (inb a2 a3.length) (
 cond (inb a1 a0.length) (
 cond (Eng.seq ((rd a3 a2.toNat 0).str) ((rd a0 a1.toNat 0).str)) (
 L_spec_l1Sorted (some 3) [.l a0, .i (IntKind.i64.wrap (a1 + 1)), .l a3]) (
 L_spec_l1Sorted (some 9) [.l a0, .i a1, .i a2, .l a3])) (
 none)) (
 none)) (
 L_spec_l1Sorted (some 9) [.l a0, .i a1, .i a2, .l a3]))) (
 none)) (
 none)) (
 cond (decide (a2 < (a3.length : Int))) (
 cond (inb a2 a3.length) (
 cond (inb a1 a0.length) (
 cond (Eng.seq ((rd a3 a2.toNat 0).str) ((rd a0 a1.toNat 0).str)) (
 L_spec_l1Sorted (some 3) [.l a0, .i (IntKind.i64.wrap (a1 + 1)), .l a3]) (
 L_spec_l1Sorted (some 9) [.l a0, .i a1, .i a2, .l a3])) (
 none)) (
 none)) (
 L_spec_l1Sorted (some 9) [.l a0, .i a1, .i a2, .l a3])) := (Lim_eq _ _).trans (by kernel_rfl)
theorem e_spec_l1Sorted_9 (a0 : Rw) (a1 : Int) (a2 : Int) (a3 : Rw) : L_spec_l1Sorted (some 9) [.l a0, .i a1, .i a2, .l a3] =
 cond (decide (0 ≤ a2)) (
 cond (decide (a2 ≤ (a3.length : Int))) (
 cond (decide (([] : Rw).length + (Eng.sub a3 0 a2.toNat).length ≤ most)) (
 cond (inb a1 a0.length) (
 cond (decide ((([] : Rw) ++ (Eng.sub a3 0 a2.toNat)).length + ([[.s ((rd a0 a1.toNat 0).str)]] : Rw).length ≤ most)) (
 cond (decide (0 ≤ a2)) (
 cond (decide (a2 ≤ (a3.length : Int))) (
 cond (decide (((([] : Rw) ++ (Eng.sub a3 0 a2.toNat)) ++ ([[.s ((rd a0 a1.toNat 0).str)]] : Rw)).length + (Eng.sub a3 a2.toNat a3.length).length ≤ most)) (
 L_spec_l1Sorted (some 3) [.l a0, .i (IntKind.i64.wrap (a1 + 1)), .l (((([] : Rw) ++ (Eng.sub a3 0 a2.toNat)) ++ ([[.s ((rd a0 a1.toNat 0).str)]] : Rw)) ++ (Eng.sub a3 a2.toNat a3.length))]) (
 none)) (
 none)) (
 none)) (
 none)) (
 none)) (
 none)) (
 none)) (
 none) := (Lim_eq _ _).trans (by kernel_rfl)
theorem k_spec_l1Sorted : SigOk Tryz.prog (d_spec_l1Sorted.sig (L_spec_l1Sorted none)) ∧ (d_spec_l1Sorted.sig (L_spec_l1Sorted none)).ok = true := sound_lim known_nil (by kernel_rfl) (by kernel_rfl) (by kernel_rfl)
def d_spec_Act_Thing : FD := { fn := 16, nb := 0, pre := ⟨[.ag [.i .i64 0, .s 1, .i .i64 2, .s 3, .i .i64 4, .i .i64 5], .ag [.i .i64 6, .i .i64 7, .i .i64 8, .i .i64 9, .fz 90 false 10, .fz 156 false 11, .fz 158 false 12]], []⟩, post := ⟨[.ag [.s 0, .ow 0]], [.rw 9 true 1]⟩, sh := false, cuts := [⟨5, [2, 3, 4, 5, 6, 7], ⟨[.sc (.pt 0 0), .sc (.pt 1 0), .sc (.pt 2 0), .sc (.pt 3 0), .sc (.ow 4), .sc (.i .i64 0)], [.bx [.i .i64 1, .s 2, .i .i64 3, .s 4, .i .i64 5, .i .i64 6], .bx [.i .i64 7, .i .i64 8, .i .i64 9, .i .i64 10, .fz 90 false 11, .fz 156 false 12, .fz 158 false 13], .bx [.s 14, .ow 5], .bx [.s 15, .ow 6], .rw 9 true 16, .rw 9 true 17, .rw 9 true 18]⟩⟩] }
noncomputable def L_spec_Act_Thing : Option Nat → Lv → Option Lv := Lim Tryz.prog [d_spec_l1Sorted.sig (L_spec_l1Sorted none)] d_spec_Act_Thing Tryz.f16
theorem e_spec_Act_Thing_i (a0 : Int) (a1 : ByteArray) (a2 : Int) (a3 : ByteArray) (a4 : Int) (a5 : Int) (a6 : Int) (a7 : Int) (a8 : Int) (a9 : Int) (a10 : Rw) (a11 : Rw) (a12 : Rw) : L_spec_Act_Thing none [.i a0, .s a1, .i a2, .s a3, .i a4, .i a5, .i a6, .i a7, .i a8, .i a9, .l a10, .l a11, .l a12] =
 cond (decide (0 < (a10.length : Int))) (
 L_spec_Act_Thing (some 5) [.i 0, .i a0, .s a1, .i a2, .s a3, .i a4, .i a5, .i a6, .i a7, .i a8, .i a9, .l a10, .l a11, .l a12, .s (⟨#[]⟩ : ByteArray), .s a1, .l ([] : Rw), .l [], .l []]) (
 (L_spec_l1Sorted none [.l ([] : Rw)]).bind fun y1 =>
 some [.s a1, .l ((g y1 0).list)]) := (Lim_eq _ _).trans (by kernel_rfl)
theorem e_spec_Act_Thing_5 (a0 : Int) (a1 : Int) (a2 : ByteArray) (a3 : Int) (a4 : ByteArray) (a5 : Int) (a6 : Int) (a7 : Int) (a8 : Int) (a9 : Int) (a10 : Int) (a11 : Rw) (a12 : Rw) (a13 : Rw) (a14 : ByteArray) (a15 : ByteArray) (a16 : Rw) (a17 : Rw) (a18 : Rw) : L_spec_Act_Thing (some 5) [.i a0, .i a1, .s a2, .i a3, .s a4, .i a5, .i a6, .i a7, .i a8, .i a9, .i a10, .l a11, .l a12, .l a13, .s a14, .s a15, .l a16, .l a17, .l a18] =
 cond (decide (a0 < (IntKind.i64.wrap (a3.tdiv 2)))) (
 cond (decide (a0 < 4)) (
 cond ((a11.length : Int) != 0) (
 cond (inb ((IntKind.i64.wrap (a5 + (IntKind.i64.wrap (5 * a0)))).tmod (a11.length : Int)) a11.length) (
 cond (decide (a16.length + ([[.s ((rd a11 (((IntKind.i64.wrap (a5 + (IntKind.i64.wrap (5 * a0)))).tmod (a11.length : Int)).toNat) 0).str)]] : Rw).length ≤ most)) (
 L_spec_Act_Thing (some 5) [.i (IntKind.i64.wrap (a0 + 1)), .i a1, .s a2, .i a3, .s a4, .i a5, .i a6, .i a7, .i a8, .i a9, .i a10, .l a11, .l a12, .l a13, .s a14, .s a15, .l (a16 ++ ([[.s ((rd a11 (((IntKind.i64.wrap (a5 + (IntKind.i64.wrap (5 * a0)))).tmod (a11.length : Int)).toNat) 0).str)]] : Rw)), .l a17, .l a18]) (
 none)) (
 none)) (
 none)) (
 (L_spec_l1Sorted none [.l a16]).bind fun y1 =>
 some [.s a15, .l ((g y1 0).list)])) (
 (L_spec_l1Sorted none [.l a16]).bind fun y2 =>
 some [.s a15, .l ((g y2 0).list)]) := (Lim_eq _ _).trans (by kernel_rfl)
theorem k_spec_Act_Thing : SigOk Tryz.prog (d_spec_Act_Thing.sig (L_spec_Act_Thing none)) ∧ (d_spec_Act_Thing.sig (L_spec_Act_Thing none)).ok = true := sound_lim (known_cons k_spec_l1Sorted (by kernel_rfl) known_nil) (by kernel_rfl) (by kernel_rfl) (by kernel_rfl)
def d_spec_Act_Sum : FD := { fn := 77, nb := 0, pre := ⟨[.ag [.i .i64 0, .s 1, .i .i64 2, .s 3, .i .i64 4, .i .i64 5], .ag [.i .i64 6, .i .i64 7, .i .i64 8, .i .i64 9, .fz 90 false 10, .fz 156 false 11, .fz 158 false 12]], []⟩, post := ⟨[.sc (.s 0)], []⟩, sh := false, cuts := [] }
noncomputable def L_spec_Act_Sum : Option Nat → Lv → Option Lv := Lim Tryz.prog [d_spec_Sum.sig (L_spec_Sum none)] d_spec_Act_Sum Tryz.f77
theorem e_spec_Act_Sum_i (a0 : Int) (a1 : ByteArray) (a2 : Int) (a3 : ByteArray) (a4 : Int) (a5 : Int) (a6 : Int) (a7 : Int) (a8 : Int) (a9 : Int) (a10 : Rw) (a11 : Rw) (a12 : Rw) : L_spec_Act_Sum none [.i a0, .s a1, .i a2, .s a3, .i a4, .i a5, .i a6, .i a7, .i a8, .i a9, .l a10, .l a11, .l a12] =
 cond ((a10.length : Int) == 0) (
 (L_spec_Sum none [.s (⟨#[110, 111, 110, 101]⟩ : ByteArray), .i a6]).bind fun y1 =>
 some [.s ((g y1 0).str)]) (
 cond ((a10.length : Int) != 0) (
 cond (inb (a4.tmod (a10.length : Int)) a10.length) (
 some [.s ((rd a10 ((a4.tmod (a10.length : Int)).toNat) 0).str)]) (
 none)) (
 none)) := (Lim_eq _ _).trans (by kernel_rfl)
theorem k_spec_Act_Sum : SigOk Tryz.prog (d_spec_Act_Sum.sig (L_spec_Act_Sum none)) ∧ (d_spec_Act_Sum.sig (L_spec_Act_Sum none)).ok = true := sound_lim (known_cons k_spec_Sum (by kernel_rfl) known_nil) (by kernel_rfl) (by kernel_rfl) (by kernel_rfl)
def d_spec_Act_Lease : FD := { fn := 81, nb := 0, pre := ⟨[.ag [.i .i64 0, .s 1, .i .i64 2, .s 3, .i .i64 4, .i .i64 5], .ag [.i .i64 6, .i .i64 7, .i .i64 8, .i .i64 9, .fz 90 false 10, .fz 156 false 11, .fz 158 false 12]], []⟩, post := ⟨[.sc (.i .i64 0)], []⟩, sh := false, cuts := [] }
noncomputable def L_spec_Act_Lease : Option Nat → Lv → Option Lv := Lim Tryz.prog [] d_spec_Act_Lease Tryz.f81
theorem e_spec_Act_Lease_i (a0 : Int) (a1 : ByteArray) (a2 : Int) (a3 : ByteArray) (a4 : Int) (a5 : Int) (a6 : Int) (a7 : Int) (a8 : Int) (a9 : Int) (a10 : Rw) (a11 : Rw) (a12 : Rw) : L_spec_Act_Lease none [.i a0, .s a1, .i a2, .s a3, .i a4, .i a5, .i a6, .i a7, .i a8, .i a9, .l a10, .l a11, .l a12] =
 cond ((a12.length : Int) == 0) (
 some [.i (IntKind.i64.wrap (1 + a4))]) (
 cond ((a12.length : Int) != 0) (
 cond (inb (a4.tmod (a12.length : Int)) a12.length) (
 some [.i ((rd a12 ((a4.tmod (a12.length : Int)).toNat) 0).int)]) (
 none)) (
 none)) := (Lim_eq _ _).trans (by kernel_rfl)
theorem k_spec_Act_Lease : SigOk Tryz.prog (d_spec_Act_Lease.sig (L_spec_Act_Lease none)) ∧ (d_spec_Act_Lease.sig (L_spec_Act_Lease none)).ok = true := sound_lim known_nil (by kernel_rfl) (by kernel_rfl) (by kernel_rfl)
def d_spec_l6Round : FD := { fn := 207, nb := 0, pre := ⟨[.ag [.i .i64 0, .fz 9 false 1, .fz 9 false 2, .i .i64 3, .i .i64 4, .i .i64 5]], []⟩, post := ⟨[.ag [.i .i64 0, .ow 0, .ow 1, .i .i64 1, .i .i64 2, .i .i64 3]], [.rw 9 true 4, .rw 9 true 5]⟩, sh := false, cuts := [] }
noncomputable def L_spec_l6Round : Option Nat → Lv → Option Lv := Lim Tryz.prog [] d_spec_l6Round Tryz.f207
theorem e_spec_l6Round_i (a0 : Int) (a1 : Rw) (a2 : Rw) (a3 : Int) (a4 : Int) (a5 : Int) : L_spec_l6Round none [.i a0, .l a1, .l a2, .i a3, .i a4, .i a5] =
 cond (decide (([] : Rw).length + a1.length ≤ most)) (
 cond (decide (([] : Rw).length + a2.length ≤ most)) (
 some [.i a0, .i a3, .i a4, .i a5, .l (([] : Rw) ++ a1), .l (([] : Rw) ++ a2)]) (
 none)) (
 none) := (Lim_eq _ _).trans (by kernel_rfl)
theorem k_spec_l6Round : SigOk Tryz.prog (d_spec_l6Round.sig (L_spec_l6Round none)) ∧ (d_spec_l6Round.sig (L_spec_l6Round none)).ok = true := sound_lim known_nil (by kernel_rfl) (by kernel_rfl) (by kernel_rfl)
def d_spec_l7Copy : FD := { fn := 156, nb := 0, pre := ⟨[.ag [.i .i64 0, .i .i64 1, .fz 9 false 2, .fz 9 false 3, .i .i64 4, .i .i64 5, .i .i64 6, .i .i64 7, .fz 90 false 8, .fz 156 false 9, .fz 158 false 10, .i .i64 11, .fz 9 false 12, .fz 9 false 13, .i .i64 14, .i .i64 15, .i .i64 16]], []⟩, post := ⟨[.ag [.i .i64 0, .i .i64 1, .ow 0, .ow 1, .i .i64 2, .i .i64 3, .i .i64 4, .i .i64 5, .ow 2, .ow 3, .ow 4, .i .i64 6, .ow 5, .ow 6, .i .i64 7, .i .i64 8, .i .i64 9]], [.rw 9 true 10, .rw 9 true 11, .rw 90 true 12, .rw 156 true 13, .rw 158 true 14, .rw 9 true 15, .rw 9 true 16]⟩, sh := false, cuts := [] }
noncomputable def L_spec_l7Copy : Option Nat → Lv → Option Lv := Lim Tryz.prog [d_spec_l4Copy.sig (L_spec_l4Copy none), d_spec_l2Log.sig (L_spec_l2Log none), d_spec_l6Round.sig (L_spec_l6Round none)] d_spec_l7Copy Tryz.f156
theorem e_spec_l7Copy_i (a0 : Int) (a1 : Int) (a2 : Rw) (a3 : Rw) (a4 : Int) (a5 : Int) (a6 : Int) (a7 : Int) (a8 : Rw) (a9 : Rw) (a10 : Rw) (a11 : Int) (a12 : Rw) (a13 : Rw) (a14 : Int) (a15 : Int) (a16 : Int) : L_spec_l7Copy none [.i a0, .i a1, .l a2, .l a3, .i a4, .i a5, .i a6, .i a7, .l a8, .l a9, .l a10, .i a11, .l a12, .l a13, .i a14, .i a15, .i a16] =
 (L_spec_l2Log none [.l a2, .l a3]).bind fun y1 =>
 (L_spec_l4Copy none [.i a4, .i a5, .i a6, .i a7, .l a8, .l a9, .l a10]).bind fun y2 =>
 (L_spec_l6Round none [.i a11, .l a12, .l a13, .i a14, .i a15, .i a16]).bind fun y3 =>
 some [.i a0, .i a1, .i ((g y2 0).int), .i ((g y2 1).int), .i ((g y2 2).int), .i ((g y2 3).int), .i ((g y3 0).int), .i ((g y3 1).int), .i ((g y3 2).int), .i ((g y3 3).int), .l ((g y1 0).list), .l ((g y1 1).list), .l ((g y2 4).list), .l ((g y2 5).list), .l ((g y2 6).list), .l ((g y3 4).list), .l ((g y3 5).list)] := (Lim_eq _ _).trans (by kernel_rfl)
theorem k_spec_l7Copy : SigOk Tryz.prog (d_spec_l7Copy.sig (L_spec_l7Copy none)) ∧ (d_spec_l7Copy.sig (L_spec_l7Copy none)).ok = true := sound_lim (known_cons k_spec_l4Copy (by kernel_rfl) (known_cons k_spec_l2Log (by kernel_rfl) (known_cons k_spec_l6Round (by kernel_rfl) known_nil))) (by kernel_rfl) (by kernel_rfl) (by kernel_rfl)
def d_spec_l5Room : FD := { fn := 202, nb := 0, pre := ⟨[.ag [.i .i64 0, .i .i64 1, .i .i64 2, .i .i64 3, .fz 90 false 4, .fz 156 false 5, .fz 158 false 6]], []⟩, post := ⟨[.sc (.i .i64 0)], []⟩, sh := false, cuts := [⟨3, [1, 3, 4], ⟨[.sc (.pt 0 0), .sc (.i .i64 0), .sc (.i .i64 1)], [.bx [.i .i64 2, .i .i64 3, .i .i64 4, .i .i64 5, .fz 90 false 6, .fz 156 false 7, .fz 158 false 8]]⟩⟩] }
noncomputable def L_spec_l5Room : Option Nat → Lv → Option Lv := Lim Tryz.prog [] d_spec_l5Room Tryz.f202
theorem e_spec_l5Room_i (a0 : Int) (a1 : Int) (a2 : Int) (a3 : Int) (a4 : Rw) (a5 : Rw) (a6 : Rw) : L_spec_l5Room none [.i a0, .i a1, .i a2, .i a3, .l a4, .l a5, .l a6] =
 L_spec_l5Room (some 3) [.i 0, .i 0, .i a0, .i a1, .i a2, .i a3, .l a4, .l a5, .l a6] := (Lim_eq _ _).trans (by kernel_rfl)
theorem e_spec_l5Room_3 (a0 : Int) (a1 : Int) (a2 : Int) (a3 : Int) (a4 : Int) (a5 : Int) (a6 : Rw) (a7 : Rw) (a8 : Rw) : L_spec_l5Room (some 3) [.i a0, .i a1, .i a2, .i a3, .i a4, .i a5, .l a6, .l a7, .l a8] =
 cond (decide (a1 < (a6.length : Int))) (
 cond (inb a1 a6.length) (
 cond (inb a1 a6.length) (
 L_spec_l5Room (some 3) [.i (IntKind.i64.wrap ((IntKind.i64.wrap ((IntKind.i64.wrap (a0 + 1)) + (IntKind.i64.wrap ((((rd a6 a1.toNat 3).list).length : Int) * a2)))) + (((rd a6 a1.toNat 2).str).size : Int))), .i (IntKind.i64.wrap (a1 + 1)), .i a2, .i a3, .i a4, .i a5, .l a6, .l a7, .l a8]) (
 none)) (
 none)) (
 some [.i a0]) := (Lim_eq _ _).trans (by kernel_rfl)
theorem k_spec_l5Room : SigOk Tryz.prog (d_spec_l5Room.sig (L_spec_l5Room none)) ∧ (d_spec_l5Room.sig (L_spec_l5Room none)).ok = true := sound_lim known_nil (by kernel_rfl) (by kernel_rfl) (by kernel_rfl)
def d_spec_l6Shade : FD := { fn := 203, nb := 0, pre := ⟨[.ag [.i .i64 0, .i .i64 1, .i .i64 2, .i .i64 3, .fz 90 false 4, .fz 156 false 5, .fz 158 false 6], .ag [.i .i64 7, .fz 9 false 8, .fz 9 false 9, .i .i64 10, .i .i64 11, .i .i64 12], .sc (.s 13)], []⟩, post := ⟨[.ag [.i .i64 0, .ow 0, .ow 1, .i .i64 1, .i .i64 2, .i .i64 3]], [.rw 9 true 4, .rw 9 true 5]⟩, sh := false, cuts := [] }
noncomputable def L_spec_l6Shade : Option Nat → Lv → Option Lv := Lim Tryz.prog [d_spec_l4Find.sig (L_spec_l4Find none), d_spec_l4Has.sig (L_spec_l4Has none), d_spec_l6Round.sig (L_spec_l6Round none)] d_spec_l6Shade Tryz.f203
theorem e_spec_l6Shade_i (a0 : Int) (a1 : Int) (a2 : Int) (a3 : Int) (a4 : Rw) (a5 : Rw) (a6 : Rw) (a7 : Int) (a8 : Rw) (a9 : Rw) (a10 : Int) (a11 : Int) (a12 : Int) (a13 : ByteArray) : L_spec_l6Shade none [.i a0, .i a1, .i a2, .i a3, .l a4, .l a5, .l a6, .i a7, .l a8, .l a9, .i a10, .i a11, .i a12, .s a13] =
 cond (a7 == 0) (
 (L_spec_l6Round none [.i a7, .l a8, .l a9, .i a10, .i a11, .i a12]).bind fun y1 =>
 some [.i ((g y1 0).int), .i ((g y1 1).int), .i ((g y1 2).int), .i ((g y1 3).int), .l ((g y1 4).list), .l ((g y1 5).list)]) (
 (L_spec_l4Find none [.i a0, .i a1, .i a2, .i a3, .l a4, .l a5, .l a6, .s a13]).bind fun y2 =>
 cond (decide ((g y2 0).int < 0)) (
 (L_spec_l6Round none [.i a7, .l a8, .l a9, .i a10, .i a11, .i a12]).bind fun y3 =>
 some [.i ((g y3 0).int), .i ((g y3 1).int), .i ((g y3 2).int), .i ((g y3 3).int), .l ((g y3 4).list), .l ((g y3 5).list)]) (
 (L_spec_l4Has none [.l a9, .s a13]).bind fun y4 =>
 cond ((g y4 0).bool) (
 (L_spec_l6Round none [.i a7, .l a8, .l a9, .i a10, .i a11, .i a12]).bind fun y5 =>
 some [.i ((g y5 0).int), .i ((g y5 1).int), .i ((g y5 2).int), .i ((g y5 3).int), .l ((g y5 4).list), .l ((g y5 5).list)]) (
 cond (decide (23200 ≤ (a8.length : Int))) (
 (L_spec_l6Round none [.i a7, .l a8, .l a9, .i a10, .i a11, .i a12]).bind fun y6 =>
 some [.i ((g y6 0).int), .i ((g y6 1).int), .i ((g y6 2).int), .i ((g y6 3).int), .l ((g y6 4).list), .l ((g y6 5).list)]) (
 (L_spec_l6Round none [.i a7, .l a8, .l a9, .i a10, .i a11, .i a12]).bind fun y7 =>
 cond (decide (((g y7 4).list).length + ([[.s a13]] : Rw).length ≤ most)) (
 some [.i ((g y7 0).int), .i ((g y7 1).int), .i ((g y7 2).int), .i ((g y7 3).int), .l ((g y7 4).list ++ ([[.s a13]] : Rw)), .l ((g y7 5).list)]) (
 none))))) := (Lim_eq _ _).trans (by kernel_rfl)
theorem k_spec_l6Shade : SigOk Tryz.prog (d_spec_l6Shade.sig (L_spec_l6Shade none)) ∧ (d_spec_l6Shade.sig (L_spec_l6Shade none)).ok = true := sound_lim (known_cons k_spec_l4Find (by kernel_rfl) (known_cons k_spec_l4Has (by kernel_rfl) (known_cons k_spec_l6Round (by kernel_rfl) known_nil))) (by kernel_rfl) (by kernel_rfl) (by kernel_rfl)
def d_spec_l7Do : FD := { fn := 147, nb := 0, pre := ⟨[.ag [.i .i64 0, .i .i64 1, .fz 9 false 2, .fz 9 false 3, .i .i64 4, .i .i64 5, .i .i64 6, .i .i64 7, .fz 90 false 8, .fz 156 false 9, .fz 158 false 10, .i .i64 11, .fz 9 false 12, .fz 9 false 13, .i .i64 14, .i .i64 15, .i .i64 16], .ag [.i .i64 17, .s 18, .s 19, .i .i64 20, .s 21, .fz 9 false 22]], []⟩, post := ⟨[.ag [.i .i64 0, .i .i64 1, .i .i64 2, .ow 0, .ow 1, .i .i64 3, .i .i64 4, .i .i64 5, .i .i64 6, .ow 2, .ow 3, .ow 4, .i .i64 7, .ow 5, .ow 6, .i .i64 8, .i .i64 9, .i .i64 10, .s 11, .i .i64 12, .s 13, .s 14]], [.rw 9 true 15, .rw 9 true 16, .rw 90 true 17, .rw 156 true 18, .rw 158 true 19, .rw 9 true 20, .rw 9 true 21]⟩, sh := false, cuts := [⟨25, [4, 6, 7, 8], ⟨[.sc (.pt 0 0), .sc (.pt 1 0), .sc (.pt 2 0), .sc (.s 0)], [.bx [.i .i64 1, .i .i64 2, .i .i64 3, .ow 11, .ow 12, .i .i64 4, .i .i64 5, .i .i64 6, .i .i64 7, .ow 13, .ow 14, .ow 15, .i .i64 8, .ow 16, .ow 17, .i .i64 9, .i .i64 10, .i .i64 11, .s 12, .i .i64 13, .s 14, .s 15], .bx [.i .i64 16, .i .i64 17, .i .i64 18, .i .i64 19, .i .i64 20, .fz 90 false 21, .fz 156 false 22, .ow 3, .s 23, .i .i64 24, .s 25, .s 26], .bx [.i .i64 27, .i .i64 28, .ow 4, .ow 5, .i .i64 29, .i .i64 30, .i .i64 31, .i .i64 32, .ow 6, .ow 7, .ow 8, .i .i64 33, .ow 9, .ow 10, .i .i64 34, .i .i64 35, .i .i64 36], .rw 158 false 37, .rw 9 true 38, .rw 9 true 39, .rw 90 true 40, .rw 156 true 41, .rw 158 true 42, .rw 9 true 43, .rw 9 true 44, .rw 9 true 45, .rw 9 true 46, .rw 90 true 47, .rw 156 true 48, .rw 158 true 49, .rw 9 true 50, .rw 9 true 51]⟩⟩] }
noncomputable def L_spec_l7Do : Option Nat → Lv → Option Lv := Lim Tryz.prog [d_spec_l3Ok.sig (L_spec_l3Ok none), d_spec_FormEntry.sig (L_spec_FormEntry none), d_spec_l4Copy.sig (L_spec_l4Copy none), d_spec_l4Apply.sig (L_spec_l4Apply none), d_spec_ValidVault.sig (L_spec_ValidVault none), d_spec_l7Copy.sig (L_spec_l7Copy none), d_spec_l5Room.sig (L_spec_l5Room none), d_spec_l6Shade.sig (L_spec_l6Shade none)] d_spec_l7Do Tryz.f147
theorem e_spec_l7Do_i (a0 : Int) (a1 : Int) (a2 : Rw) (a3 : Rw) (a4 : Int) (a5 : Int) (a6 : Int) (a7 : Int) (a8 : Rw) (a9 : Rw) (a10 : Rw) (a11 : Int) (a12 : Rw) (a13 : Rw) (a14 : Int) (a15 : Int) (a16 : Int) (a17 : Int) (a18 : ByteArray) (a19 : ByteArray) (a20 : Int) (a21 : ByteArray) (a22 : Rw) : L_spec_l7Do none [.i a0, .i a1, .l a2, .l a3, .i a4, .i a5, .i a6, .i a7, .l a8, .l a9, .l a10, .i a11, .l a12, .l a13, .i a14, .i a15, .i a16, .i a17, .s a18, .s a19, .i a20, .s a21, .l a22] =
 (L_spec_ValidVault none [.i a0, .i a1, .l a2, .l a3, .i a4, .i a5, .i a6, .i a7, .l a8, .l a9, .l a10, .i a11, .l a12, .l a13, .i a14, .i a15, .i a16]).bind fun y1 =>
 cond (!(g y1 0).bool) (
 some [.i 1, .i 0, .i 0, .i 0, .i 0, .i 0, .i 0, .i 0, .i 0, .i 0, .i 0, .s (⟨#[]⟩ : ByteArray), .i 0, .s (⟨#[]⟩ : ByteArray), .s (⟨#[]⟩ : ByteArray), .l [], .l [], .l [], .l [], .l [], .l [], .l []]) (
 (L_spec_l7Copy none [.i a0, .i a1, .l a2, .l a3, .i a4, .i a5, .i a6, .i a7, .l a8, .l a9, .l a10, .i a11, .l a12, .l a13, .i a14, .i a15, .i a16]).bind fun y2 =>
 (L_spec_l3Ok none [.i a17, .s a18, .s a19, .i a20, .s a21, .l a22, .i a0]).bind fun y3 =>
 cond (!(g y3 0).bool) (
 some [.i 1, .i ((g y2 0).int), .i ((g y2 1).int), .i ((g y2 2).int), .i ((g y2 3).int), .i ((g y2 4).int), .i ((g y2 5).int), .i ((g y2 6).int), .i ((g y2 7).int), .i ((g y2 8).int), .i ((g y2 9).int), .s (⟨#[]⟩ : ByteArray), .i 0, .s (⟨#[]⟩ : ByteArray), .s (⟨#[]⟩ : ByteArray), .l ((g y2 10).list), .l ((g y2 11).list), .l ((g y2 12).list), .l ((g y2 13).list), .l ((g y2 14).list), .l ((g y2 15).list), .l ((g y2 16).list)]) (
 (L_spec_l4Copy none [.i a4, .i a5, .i a6, .i a7, .l a8, .l a9, .l a10]).bind fun y4 =>
 (L_spec_l4Apply none [.i ((g y4 0).int), .i ((g y4 1).int), .i ((g y4 2).int), .i ((g y4 3).int), .l ((g y4 4).list), .l ((g y4 5).list), .i a17, .s a18, .s a19, .i a20, .s a21, .l a22, .l ((g y4 6).list)]).bind fun y5 =>
 cond ((g y5 0).int != 0) (
 some [.i ((g y5 0).int), .i ((g y2 0).int), .i ((g y2 1).int), .i ((g y2 2).int), .i ((g y2 3).int), .i ((g y2 4).int), .i ((g y2 5).int), .i ((g y2 6).int), .i ((g y2 7).int), .i ((g y2 8).int), .i ((g y2 9).int), .s (⟨#[]⟩ : ByteArray), .i 0, .s ((g y5 9).str), .s ((g y5 10).str), .l ((g y2 10).list), .l ((g y2 11).list), .l ((g y2 12).list), .l ((g y2 13).list), .l ((g y2 14).list), .l ((g y2 15).list), .l ((g y2 16).list)]) (
 cond (a17 == 1) (
 (L_spec_l5Room none [.i ((g y5 1).int), .i ((g y5 2).int), .i ((g y5 3).int), .i ((g y5 4).int), .l ((g y5 5).list), .l ((g y5 6).list), .l ((g y5 11).list)]).bind fun y6 =>
 cond (decide (a1 < (g y6 0).int)) (
 some [.i 8, .i ((g y2 0).int), .i ((g y2 1).int), .i ((g y2 2).int), .i ((g y2 3).int), .i ((g y2 4).int), .i ((g y2 5).int), .i ((g y2 6).int), .i ((g y2 7).int), .i ((g y2 8).int), .i ((g y2 9).int), .s (⟨#[]⟩ : ByteArray), .i 0, .s (⟨#[]⟩ : ByteArray), .s (⟨#[]⟩ : ByteArray), .l ((g y2 10).list), .l ((g y2 11).list), .l ((g y2 12).list), .l ((g y2 13).list), .l ((g y2 14).list), .l ((g y2 15).list), .l ((g y2 16).list)]) (
 cond (decide (4000 ≤ (IntKind.i64.wrap ((a2.length : Int) + (a3.length : Int))))) (
 some [.i 9, .i ((g y2 0).int), .i ((g y2 1).int), .i ((g y2 2).int), .i ((g y2 3).int), .i ((g y2 4).int), .i ((g y2 5).int), .i ((g y2 6).int), .i ((g y2 7).int), .i ((g y2 8).int), .i ((g y2 9).int), .s (⟨#[]⟩ : ByteArray), .i 0, .s (⟨#[]⟩ : ByteArray), .s (⟨#[]⟩ : ByteArray), .l ((g y2 10).list), .l ((g y2 11).list), .l ((g y2 12).list), .l ((g y2 13).list), .l ((g y2 14).list), .l ((g y2 15).list), .l ((g y2 16).list)]) (
 (L_spec_l7Copy none [.i a0, .i a1, .l a2, .l a3, .i a4, .i a5, .i a6, .i a7, .l a8, .l a9, .l a10, .i a11, .l a12, .l a13, .i a14, .i a15, .i a16]).bind fun y7 =>
 (L_spec_FormEntry none [.i a17, .s a18, .s a19, .i a20, .s a21, .l a22, .i a0]).bind fun y8 =>
 cond (decide (((g y7 11).list).length + ([[.s ((g y8 0).str)]] : Rw).length ≤ most)) (
 (L_spec_l4Copy none [.i ((g y5 1).int), .i ((g y5 2).int), .i ((g y5 3).int), .i ((g y5 4).int), .l ((g y5 5).list), .l ((g y5 6).list), .l ((g y5 11).list)]).bind fun y9 =>
 cond (a17 == 1) (
 L_spec_l7Do (some 25) [.s ((g y5 7).str), .i 0, .i 0, .i 0, .i 0, .i 0, .i 0, .i 0, .i 0, .i 0, .i 0, .i 0, .s (⟨#[]⟩ : ByteArray), .i 0, .s (⟨#[]⟩ : ByteArray), .s (⟨#[]⟩ : ByteArray), .i ((g y5 0).int), .i ((g y5 1).int), .i ((g y5 2).int), .i ((g y5 3).int), .i ((g y5 4).int), .l ((g y5 5).list), .l ((g y5 6).list), .s ((g y5 7).str), .i ((g y5 8).int), .s ((g y5 9).str), .s ((g y5 10).str), .i ((g y7 0).int), .i ((g y7 1).int), .i ((g y9 0).int), .i ((g y9 1).int), .i ((g y9 2).int), .i ((g y9 3).int), .i ((g y7 6).int), .i ((g y7 7).int), .i ((g y7 8).int), .i ((g y7 9).int), .l ((g y5 11).list), .l ((g y7 10).list), .l ((g y7 11).list ++ ([[.s ((g y8 0).str)]] : Rw)), .l ((g y9 4).list), .l ((g y9 5).list), .l ((g y9 6).list), .l ((g y7 15).list), .l ((g y7 16).list), .l [], .l [], .l [], .l [], .l [], .l [], .l []]) (
 L_spec_l7Do (some 25) [.s a18, .i 0, .i 0, .i 0, .i 0, .i 0, .i 0, .i 0, .i 0, .i 0, .i 0, .i 0, .s (⟨#[]⟩ : ByteArray), .i 0, .s (⟨#[]⟩ : ByteArray), .s (⟨#[]⟩ : ByteArray), .i ((g y5 0).int), .i ((g y5 1).int), .i ((g y5 2).int), .i ((g y5 3).int), .i ((g y5 4).int), .l ((g y5 5).list), .l ((g y5 6).list), .s ((g y5 7).str), .i ((g y5 8).int), .s ((g y5 9).str), .s ((g y5 10).str), .i ((g y7 0).int), .i ((g y7 1).int), .i ((g y9 0).int), .i ((g y9 1).int), .i ((g y9 2).int), .i ((g y9 3).int), .i ((g y7 6).int), .i ((g y7 7).int), .i ((g y7 8).int), .i ((g y7 9).int), .l ((g y5 11).list), .l ((g y7 10).list), .l ((g y7 11).list ++ ([[.s ((g y8 0).str)]] : Rw)), .l ((g y9 4).list), .l ((g y9 5).list), .l ((g y9 6).list), .l ((g y7 15).list), .l ((g y7 16).list), .l [], .l [], .l [], .l [], .l [], .l [], .l []])) (
 none)))) (
 cond (decide (4000 ≤ (IntKind.i64.wrap ((a2.length : Int) + (a3.length : Int))))) (
 some [.i 9, .i ((g y2 0).int), .i ((g y2 1).int), .i ((g y2 2).int), .i ((g y2 3).int), .i ((g y2 4).int), .i ((g y2 5).int), .i ((g y2 6).int), .i ((g y2 7).int), .i ((g y2 8).int), .i ((g y2 9).int), .s (⟨#[]⟩ : ByteArray), .i 0, .s (⟨#[]⟩ : ByteArray), .s (⟨#[]⟩ : ByteArray), .l ((g y2 10).list), .l ((g y2 11).list), .l ((g y2 12).list), .l ((g y2 13).list), .l ((g y2 14).list), .l ((g y2 15).list), .l ((g y2 16).list)]) (
 (L_spec_l7Copy none [.i a0, .i a1, .l a2, .l a3, .i a4, .i a5, .i a6, .i a7, .l a8, .l a9, .l a10, .i a11, .l a12, .l a13, .i a14, .i a15, .i a16]).bind fun y10 =>
 (L_spec_FormEntry none [.i a17, .s a18, .s a19, .i a20, .s a21, .l a22, .i a0]).bind fun y11 =>
 cond (decide (((g y10 11).list).length + ([[.s ((g y11 0).str)]] : Rw).length ≤ most)) (
 (L_spec_l4Copy none [.i ((g y5 1).int), .i ((g y5 2).int), .i ((g y5 3).int), .i ((g y5 4).int), .l ((g y5 5).list), .l ((g y5 6).list), .l ((g y5 11).list)]).bind fun y12 =>
 cond (a17 == 1) (
 L_spec_l7Do (some 25) [.s ((g y5 7).str), .i 0, .i 0, .i 0, .i 0, .i 0, .i 0, .i 0, .i 0, .i 0, .i 0, .i 0, .s (⟨#[]⟩ : ByteArray), .i 0, .s (⟨#[]⟩ : ByteArray), .s (⟨#[]⟩ : ByteArray), .i ((g y5 0).int), .i ((g y5 1).int), .i ((g y5 2).int), .i ((g y5 3).int), .i ((g y5 4).int), .l ((g y5 5).list), .l ((g y5 6).list), .s ((g y5 7).str), .i ((g y5 8).int), .s ((g y5 9).str), .s ((g y5 10).str), .i ((g y10 0).int), .i ((g y10 1).int), .i ((g y12 0).int), .i ((g y12 1).int), .i ((g y12 2).int), .i ((g y12 3).int), .i ((g y10 6).int), .i ((g y10 7).int), .i ((g y10 8).int), .i ((g y10 9).int), .l ((g y5 11).list), .l ((g y10 10).list), .l ((g y10 11).list ++ ([[.s ((g y11 0).str)]] : Rw)), .l ((g y12 4).list), .l ((g y12 5).list), .l ((g y12 6).list), .l ((g y10 15).list), .l ((g y10 16).list), .l [], .l [], .l [], .l [], .l [], .l [], .l []]) (
 L_spec_l7Do (some 25) [.s a18, .i 0, .i 0, .i 0, .i 0, .i 0, .i 0, .i 0, .i 0, .i 0, .i 0, .i 0, .s (⟨#[]⟩ : ByteArray), .i 0, .s (⟨#[]⟩ : ByteArray), .s (⟨#[]⟩ : ByteArray), .i ((g y5 0).int), .i ((g y5 1).int), .i ((g y5 2).int), .i ((g y5 3).int), .i ((g y5 4).int), .l ((g y5 5).list), .l ((g y5 6).list), .s ((g y5 7).str), .i ((g y5 8).int), .s ((g y5 9).str), .s ((g y5 10).str), .i ((g y10 0).int), .i ((g y10 1).int), .i ((g y12 0).int), .i ((g y12 1).int), .i ((g y12 2).int), .i ((g y12 3).int), .i ((g y10 6).int), .i ((g y10 7).int), .i ((g y10 8).int), .i ((g y10 9).int), .l ((g y5 11).list), .l ((g y10 10).list), .l ((g y10 11).list ++ ([[.s ((g y11 0).str)]] : Rw)), .l ((g y12 4).list), .l ((g y12 5).list), .l ((g y12 6).list), .l ((g y10 15).list), .l ((g y10 16).list), .l [], .l [], .l [], .l [], .l [], .l [], .l []])) (
 none)))))) := (Lim_eq _ _).trans (by kernel_rfl)
theorem e_spec_l7Do_25 (a0 : ByteArray) (a1 : Int) (a2 : Int) (a3 : Int) (a4 : Int) (a5 : Int) (a6 : Int) (a7 : Int) (a8 : Int) (a9 : Int) (a10 : Int) (a11 : Int) (a12 : ByteArray) (a13 : Int) (a14 : ByteArray) (a15 : ByteArray) (a16 : Int) (a17 : Int) (a18 : Int) (a19 : Int) (a20 : Int) (a21 : Rw) (a22 : Rw) (a23 : ByteArray) (a24 : Int) (a25 : ByteArray) (a26 : ByteArray) (a27 : Int) (a28 : Int) (a29 : Int) (a30 : Int) (a31 : Int) (a32 : Int) (a33 : Int) (a34 : Int) (a35 : Int) (a36 : Int) (a37 : Rw) (a38 : Rw) (a39 : Rw) (a40 : Rw) (a41 : Rw) (a42 : Rw) (a43 : Rw) (a44 : Rw) (a45 : Rw) (a46 : Rw) (a47 : Rw) (a48 : Rw) (a49 : Rw) (a50 : Rw) (a51 : Rw) : L_spec_l7Do (some 25) [.s a0, .i a1, .i a2, .i a3, .i a4, .i a5, .i a6, .i a7, .i a8, .i a9, .i a10, .i a11, .s a12, .i a13, .s a14, .s a15, .i a16, .i a17, .i a18, .i a19, .i a20, .l a21, .l a22, .s a23, .i a24, .s a25, .s a26, .i a27, .i a28, .i a29, .i a30, .i a31, .i a32, .i a33, .i a34, .i a35, .i a36, .l a37, .l a38, .l a39, .l a40, .l a41, .l a42, .l a43, .l a44, .l a45, .l a46, .l a47, .l a48, .l a49, .l a50, .l a51] =
 cond (!Eng.seq a0 (⟨#[]⟩ : ByteArray)) (
 (L_spec_l6Shade none [.i a29, .i a30, .i a31, .i a32, .l a40, .l a41, .l a42, .i a33, .l a43, .l a44, .i a34, .i a35, .i a36, .s a0]).bind fun y1 =>
 some [.i 0, .i a27, .i a28, .i a29, .i a30, .i a31, .i a32, .i ((g y1 0).int), .i ((g y1 1).int), .i ((g y1 2).int), .i ((g y1 3).int), .s a23, .i a24, .s (⟨#[]⟩ : ByteArray), .s (⟨#[]⟩ : ByteArray), .l a38, .l a39, .l a40, .l a41, .l a42, .l ((g y1 4).list), .l ((g y1 5).list)]) (
 some [.i 0, .i a27, .i a28, .i a29, .i a30, .i a31, .i a32, .i a33, .i a34, .i a35, .i a36, .s a23, .i a24, .s (⟨#[]⟩ : ByteArray), .s (⟨#[]⟩ : ByteArray), .l a38, .l a39, .l a40, .l a41, .l a42, .l a43, .l a44]) := (Lim_eq _ _).trans (by kernel_rfl)
theorem k_spec_l7Do : SigOk Tryz.prog (d_spec_l7Do.sig (L_spec_l7Do none)) ∧ (d_spec_l7Do.sig (L_spec_l7Do none)).ok = true := sound_lim (known_cons k_spec_l3Ok (by kernel_rfl) (known_cons k_spec_FormEntry (by kernel_rfl) (known_cons k_spec_l4Copy (by kernel_rfl) (known_cons k_spec_l4Apply (by kernel_rfl) (known_cons k_spec_ValidVault (by kernel_rfl) (known_cons k_spec_l7Copy (by kernel_rfl) (known_cons k_spec_l5Room (by kernel_rfl) (known_cons k_spec_l6Shade (by kernel_rfl) known_nil)))))))) (by kernel_rfl) (by kernel_rfl) (by kernel_rfl)
def d_spec_Put : FD := { fn := 61, nb := 0, pre := ⟨[.ag [.i .i64 0, .i .i64 1, .fz 9 false 2, .fz 9 false 3, .i .i64 4, .i .i64 5, .i .i64 6, .i .i64 7, .fz 90 false 8, .fz 156 false 9, .fz 158 false 10, .i .i64 11, .fz 9 false 12, .fz 9 false 13, .i .i64 14, .i .i64 15, .i .i64 16], .ag [.s 17, .fz 9 false 18], .sc (.i .i64 19)], []⟩, post := ⟨[.ag [.i .i64 0, .i .i64 1, .i .i64 2, .ow 0, .ow 1, .i .i64 3, .i .i64 4, .i .i64 5, .i .i64 6, .ow 2, .ow 3, .ow 4, .i .i64 7, .ow 5, .ow 6, .i .i64 8, .i .i64 9, .i .i64 10, .s 11, .i .i64 12, .s 13, .s 14]], [.rw 9 true 15, .rw 9 true 16, .rw 90 true 17, .rw 156 true 18, .rw 158 true 19, .rw 9 true 20, .rw 9 true 21]⟩, sh := false, cuts := [] }
noncomputable def L_spec_Put : Option Nat → Lv → Option Lv := Lim Tryz.prog [d_spec_l1Thing.sig (L_spec_l1Thing none), d_spec_l7Do.sig (L_spec_l7Do none)] d_spec_Put Tryz.f61
theorem e_spec_Put_i (a0 : Int) (a1 : Int) (a2 : Rw) (a3 : Rw) (a4 : Int) (a5 : Int) (a6 : Int) (a7 : Int) (a8 : Rw) (a9 : Rw) (a10 : Rw) (a11 : Int) (a12 : Rw) (a13 : Rw) (a14 : Int) (a15 : Int) (a16 : Int) (a17 : ByteArray) (a18 : Rw) (a19 : Int) : L_spec_Put none [.i a0, .i a1, .l a2, .l a3, .i a4, .i a5, .i a6, .i a7, .l a8, .l a9, .l a10, .i a11, .l a12, .l a13, .i a14, .i a15, .i a16, .s a17, .l a18, .i a19] =
 (L_spec_l1Thing none [.s a17, .l a18]).bind fun y1 =>
 (L_spec_l7Do none [.i a0, .i a1, .l a2, .l a3, .i a4, .i a5, .i a6, .i a7, .l a8, .l a9, .l a10, .i a11, .l a12, .l a13, .i a14, .i a15, .i a16, .i 1, .s (⟨#[]⟩ : ByteArray), .s (⟨#[]⟩ : ByteArray), .i a19, .s ((g y1 0).str), .l ((g y1 1).list)]).bind fun y2 =>
 some [.i ((g y2 0).int), .i ((g y2 1).int), .i ((g y2 2).int), .i ((g y2 3).int), .i ((g y2 4).int), .i ((g y2 5).int), .i ((g y2 6).int), .i ((g y2 7).int), .i ((g y2 8).int), .i ((g y2 9).int), .i ((g y2 10).int), .s ((g y2 11).str), .i ((g y2 12).int), .s ((g y2 13).str), .s ((g y2 14).str), .l ((g y2 15).list), .l ((g y2 16).list), .l ((g y2 17).list), .l ((g y2 18).list), .l ((g y2 19).list), .l ((g y2 20).list), .l ((g y2 21).list)] := (Lim_eq _ _).trans (by kernel_rfl)
theorem k_spec_Put : SigOk Tryz.prog (d_spec_Put.sig (L_spec_Put none)) ∧ (d_spec_Put.sig (L_spec_Put none)).ok = true := sound_lim (known_cons k_spec_l1Thing (by kernel_rfl) (known_cons k_spec_l7Do (by kernel_rfl) known_nil)) (by kernel_rfl) (by kernel_rfl) (by kernel_rfl)
end KV
end
