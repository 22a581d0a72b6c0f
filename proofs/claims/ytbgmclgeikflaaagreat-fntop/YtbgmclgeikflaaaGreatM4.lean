/- Walks of Go functions, printed by a program of ours. -/
import Derived.Test.YtbgmclgeikflaaaGreatProg
import Derived.Test.YtbgmclgeikflaaaGreatM1
import Derived.Test.YtbgmclgeikflaaaGreatM2
import Derived.Test.YtbgmclgeikflaaaGreatM3
set_option linter.unusedSimpArgs false
set_option linter.unusedVariables false
set_option linter.unusedSectionVars false
section
set_option maxRecDepth 100000
namespace KV
open Go Go.Eng Go.Proofs
def d_spec_l3Ok : FD := { fn := 152, nb := 0, pre := ⟨[.ag [.i .i64 0, .s 1, .s 2, .i .i64 3, .s 4, .fz 9 false 5], .sc (.i .i64 6)], []⟩, post := ⟨[.sc (.b 0)], []⟩, sh := false, cuts := [⟨6, [1, 2, 6, 8], ⟨[.sc (.i .i64 0), .sc (.pt 0 0), .sc (.b 1), .sc (.b 2)], [.bx [.i .i64 3, .s 4, .s 5, .i .i64 6, .s 7, .fz 9 false 8]]⟩⟩, ⟨8, [1, 2, 8], ⟨[.sc (.i .i64 0), .sc (.pt 0 0), .sc (.b 1)], [.bx [.i .i64 2, .s 3, .s 4, .i .i64 5, .s 6, .fz 9 false 7]]⟩⟩] }
noncomputable def L_spec_l3Ok : Option Nat → Lv → Option Lv := Lim Tryz.prog [d_spec_l1Width.sig (L_spec_l1Width none), d_spec_l1ThingOk.sig (L_spec_l1ThingOk none), d_spec_l3NameOk.sig (L_spec_l3NameOk none), d_spec_l3Uses.sig (L_spec_l3Uses none), d_spec_l3NumberOk.sig (L_spec_l3NumberOk none)] d_spec_l3Ok Tryz.f152
theorem e_spec_l3Ok_i (a0 : Int) (a1 : ByteArray) (a2 : ByteArray) (a3 : Int) (a4 : ByteArray) (a5 : Rw) (a6 : Int) : L_spec_l3Ok none [.i a0, .s a1, .s a2, .i a3, .s a4, .l a5, .i a6] =
 (L_spec_l1Width none [.i a6]).bind fun y1 =>
 cond (!(g y1 0).bool) (
 some [.b false]) (
 cond (decide (a0 < 1)) (
 some [.b false]) (
 cond (decide (7 < a0)) (
 some [.b false]) (
 (L_spec_l3Uses none [.i a0]).bind fun y2 =>
 cond ((g y2 0).bool) (
 cond ((a1.size : Int) != a6) (
 some [.b false]) (
 cond (!(g y2 0).bool) (
 cond (!Eng.seq a1 (⟨#[]⟩ : ByteArray)) (
 some [.b false]) (
 (L_spec_l3NumberOk none [.i a3, .i ((g y2 2).int)]).bind fun y3 =>
 cond (!(g y3 0).bool) (
 some [.b false]) (
 L_spec_l3Ok (some 6) [.i a6, .b ((g y2 1).bool), .b ((g y2 3).bool), .i a0, .s a1, .s a2, .i a3, .s a4, .l a5]))) (
 (L_spec_l3NumberOk none [.i a3, .i ((g y2 2).int)]).bind fun y4 =>
 cond (!(g y4 0).bool) (
 some [.b false]) (
 L_spec_l3Ok (some 6) [.i a6, .b ((g y2 1).bool), .b ((g y2 3).bool), .i a0, .s a1, .s a2, .i a3, .s a4, .l a5])))) (
 cond (!(g y2 0).bool) (
 cond (!Eng.seq a1 (⟨#[]⟩ : ByteArray)) (
 some [.b false]) (
 (L_spec_l3NumberOk none [.i a3, .i ((g y2 2).int)]).bind fun y5 =>
 cond (!(g y5 0).bool) (
 some [.b false]) (
 L_spec_l3Ok (some 6) [.i a6, .b ((g y2 1).bool), .b ((g y2 3).bool), .i a0, .s a1, .s a2, .i a3, .s a4, .l a5]))) (
 (L_spec_l3NumberOk none [.i a3, .i ((g y2 2).int)]).bind fun y6 =>
 cond (!(g y6 0).bool) (
 some [.b false]) (
 L_spec_l3Ok (some 6) [.i a6, .b ((g y2 1).bool), .b ((g y2 3).bool), .i a0, .s a1, .s a2, .i a3, .s a4, .l a5])))))) := (Lim_eq _ _).trans (by kernel_rfl)
theorem e_spec_l3Ok_6 (a0 : Int) (a1 : Bool) (a2 : Bool) (a3 : Int) (a4 : ByteArray) (a5 : ByteArray) (a6 : Int) (a7 : ByteArray) (a8 : Rw) : L_spec_l3Ok (some 6) [.i a0, .b a1, .b a2, .i a3, .s a4, .s a5, .i a6, .s a7, .l a8] =
 cond a1 (
 (L_spec_l3NameOk none [.s a5]).bind fun y1 =>
 cond (!(g y1 0).bool) (
 some [.b false]) (
 cond (!a1) (
 cond (!Eng.seq a5 (⟨#[]⟩ : ByteArray)) (
 some [.b false]) (
 L_spec_l3Ok (some 8) [.i a0, .b a2, .i a3, .s a4, .s a5, .i a6, .s a7, .l a8])) (
 L_spec_l3Ok (some 8) [.i a0, .b a2, .i a3, .s a4, .s a5, .i a6, .s a7, .l a8]))) (
 cond (!a1) (
 cond (!Eng.seq a5 (⟨#[]⟩ : ByteArray)) (
 some [.b false]) (
 L_spec_l3Ok (some 8) [.i a0, .b a2, .i a3, .s a4, .s a5, .i a6, .s a7, .l a8])) (
 L_spec_l3Ok (some 8) [.i a0, .b a2, .i a3, .s a4, .s a5, .i a6, .s a7, .l a8])) := (Lim_eq _ _).trans (by kernel_rfl)
theorem e_spec_l3Ok_8 (a0 : Int) (a1 : Bool) (a2 : Int) (a3 : ByteArray) (a4 : ByteArray) (a5 : Int) (a6 : ByteArray) (a7 : Rw) : L_spec_l3Ok (some 8) [.i a0, .b a1, .i a2, .s a3, .s a4, .i a5, .s a6, .l a7] =
 cond a1 (
 (L_spec_l1ThingOk none [.s a6, .l a7, .i a0]).bind fun y1 =>
 some [.b ((g y1 0).bool)]) (
 cond (Eng.seq a6 (⟨#[]⟩ : ByteArray)) (
 some [.b ((a7.length : Int) == 0)]) (
 some [.b false])) := (Lim_eq _ _).trans (by kernel_rfl)
theorem k_spec_l3Ok : SigOk Tryz.prog (d_spec_l3Ok.sig (L_spec_l3Ok none)) ∧ (d_spec_l3Ok.sig (L_spec_l3Ok none)).ok = true := sound_lim (known_cons k_spec_l1Width (by kernel_rfl) (known_cons k_spec_l1ThingOk (by kernel_rfl) (known_cons k_spec_l3NameOk (by kernel_rfl) (known_cons k_spec_l3Uses (by kernel_rfl) (known_cons k_spec_l3NumberOk (by kernel_rfl) known_nil))))) (by kernel_rfl) (by kernel_rfl) (by kernel_rfl)
def d_spec_FormEntry : FD := { fn := 158, nb := 0, pre := ⟨[.ag [.i .i64 0, .s 1, .s 2, .i .i64 3, .s 4, .fz 9 false 5], .sc (.i .i64 6)], []⟩, post := ⟨[.sc (.s 0)], []⟩, sh := false, cuts := [] }
noncomputable def L_spec_FormEntry : Option Nat → Lv → Option Lv := Lim Tryz.prog [d_spec_FormThing.sig (L_spec_FormThing none), d_spec_l3Ok.sig (L_spec_l3Ok none)] d_spec_FormEntry Tryz.f158
theorem e_spec_FormEntry_i (a0 : Int) (a1 : ByteArray) (a2 : ByteArray) (a3 : Int) (a4 : ByteArray) (a5 : Rw) (a6 : Int) : L_spec_FormEntry none [.i a0, .s a1, .s a2, .i a3, .s a4, .l a5, .i a6] =
 (L_spec_l3Ok none [.i a0, .s a1, .s a2, .i a3, .s a4, .l a5, .i a6]).bind fun y1 =>
 cond (!(g y1 0).bool) (
 some [.s (⟨#[]⟩ : ByteArray)]) (
 cond (decide (([[.i (IntKind.u8.wrap a0)], [.i (IntKind.u8.wrap (IntKind.i64.wrap (a3.tdiv 16777216)))], [.i (IntKind.u8.wrap ((IntKind.i64.wrap (a3.tdiv 65536)).tmod 256))], [.i (IntKind.u8.wrap ((IntKind.i64.wrap (a3.tdiv 256)).tmod 256))], [.i (IntKind.u8.wrap (a3.tmod 256))], [.i (IntKind.u8.wrap (a2.size : Int))]] : Rw).length + (rowsOf a2).length ≤ most)) (
 cond (decide ((([[.i (IntKind.u8.wrap a0)], [.i (IntKind.u8.wrap (IntKind.i64.wrap (a3.tdiv 16777216)))], [.i (IntKind.u8.wrap ((IntKind.i64.wrap (a3.tdiv 65536)).tmod 256))], [.i (IntKind.u8.wrap ((IntKind.i64.wrap (a3.tdiv 256)).tmod 256))], [.i (IntKind.u8.wrap (a3.tmod 256))], [.i (IntKind.u8.wrap (a2.size : Int))]] : Rw) ++ (rowsOf a2)).length + (rowsOf a1).length ≤ most)) (
 cond (a0 == 1) (
 (L_spec_FormThing none [.s a4, .l a5, .i a6]).bind fun y2 =>
 cond (decide (((([[.i (IntKind.u8.wrap a0)], [.i (IntKind.u8.wrap (IntKind.i64.wrap (a3.tdiv 16777216)))], [.i (IntKind.u8.wrap ((IntKind.i64.wrap (a3.tdiv 65536)).tmod 256))], [.i (IntKind.u8.wrap ((IntKind.i64.wrap (a3.tdiv 256)).tmod 256))], [.i (IntKind.u8.wrap (a3.tmod 256))], [.i (IntKind.u8.wrap (a2.size : Int))]] : Rw) ++ (rowsOf a2)) ++ (rowsOf a1)).length + (rowsOf ((g y2 0).str)).length ≤ most)) (
 some [.s (bytesOf (((([[.i (IntKind.u8.wrap a0)], [.i (IntKind.u8.wrap (IntKind.i64.wrap (a3.tdiv 16777216)))], [.i (IntKind.u8.wrap ((IntKind.i64.wrap (a3.tdiv 65536)).tmod 256))], [.i (IntKind.u8.wrap ((IntKind.i64.wrap (a3.tdiv 256)).tmod 256))], [.i (IntKind.u8.wrap (a3.tmod 256))], [.i (IntKind.u8.wrap (a2.size : Int))]] : Rw) ++ (rowsOf a2)) ++ (rowsOf a1)) ++ (rowsOf ((g y2 0).str))))]) (
 none)) (
 some [.s (bytesOf ((([[.i (IntKind.u8.wrap a0)], [.i (IntKind.u8.wrap (IntKind.i64.wrap (a3.tdiv 16777216)))], [.i (IntKind.u8.wrap ((IntKind.i64.wrap (a3.tdiv 65536)).tmod 256))], [.i (IntKind.u8.wrap ((IntKind.i64.wrap (a3.tdiv 256)).tmod 256))], [.i (IntKind.u8.wrap (a3.tmod 256))], [.i (IntKind.u8.wrap (a2.size : Int))]] : Rw) ++ (rowsOf a2)) ++ (rowsOf a1)))])) (
 none)) (
 none)) := (Lim_eq _ _).trans (by kernel_rfl)
theorem k_spec_FormEntry : SigOk Tryz.prog (d_spec_FormEntry.sig (L_spec_FormEntry none)) ∧ (d_spec_FormEntry.sig (L_spec_FormEntry none)).ok = true := sound_lim (known_cons k_spec_FormThing (by kernel_rfl) (known_cons k_spec_l3Ok (by kernel_rfl) known_nil)) (by kernel_rfl) (by kernel_rfl) (by kernel_rfl)
def d_spec_ReadThing : FD := { fn := 176, nb := 0, pre := ⟨[.sc (.s 0), .sc (.i .i64 1)], []⟩, post := ⟨[.tu [(true, [.s 0, .ow 0]), (false, [.b 1])]], [.rw 9 true 2]⟩, sh := false, cuts := [⟨6, [0, 1, 4, 6, 7, 8], ⟨[.sc (.s 0), .sc (.i .i64 1), .sc (.pt 0 0), .sc (.i .i64 2), .sc (.pt 1 0), .sc (.i .i64 3)], [.bx [.s 4, .ow 2], .bx [.s 5, .ow 3], .rw 9 true 6, .rw 9 true 7]⟩⟩] }
noncomputable def L_spec_ReadThing : Option Nat → Lv → Option Lv := Lim Tryz.prog [d_spec_l1Width.sig (L_spec_l1Width none), d_spec_l1ThingOk.sig (L_spec_l1ThingOk none)] d_spec_ReadThing Tryz.f176
theorem e_spec_ReadThing_i (a0 : ByteArray) (a1 : Int) : L_spec_ReadThing none [.s a0, .i a1] =
 (L_spec_l1Width none [.i a1]).bind fun y1 =>
 cond (!(g y1 0).bool) (
 some [.s (⟨#[]⟩ : ByteArray), .b false, .l []]) (
 cond ((a0.size : Int) == 0) (
 some [.s (⟨#[]⟩ : ByteArray), .b false, .l []]) (
 cond (inb 0 a0.size) (
 cond (decide ((a0.size : Int) < (IntKind.i64.wrap (1 + (IntKind.i64.wrap ((IntKind.i64.wrap (byteAt a0 0)) * a1)))))) (
 some [.s (⟨#[]⟩ : ByteArray), .b false, .l []]) (
 cond (inb 0 a0.size) (
 cond (decide (0 ≤ (IntKind.i64.wrap (1 + (IntKind.i64.wrap ((IntKind.i64.wrap (byteAt a0 0)) * a1)))))) (
 cond (decide ((IntKind.i64.wrap (1 + (IntKind.i64.wrap ((IntKind.i64.wrap (byteAt a0 0)) * a1)))) ≤ (a0.size : Int))) (
 L_spec_ReadThing (some 6) [.s a0, .i a1, .i (IntKind.i64.wrap (byteAt a0 0)), .i 0, .s (⟨#[]⟩ : ByteArray), .s (a0.extract ((IntKind.i64.wrap (1 + (IntKind.i64.wrap ((IntKind.i64.wrap (byteAt a0 0)) * a1)))).toNat) a0.size), .l [], .l []]) (
 none)) (
 none)) (
 none))) (
 none))) := (Lim_eq _ _).trans (by kernel_rfl)
theorem e_spec_ReadThing_6 (a0 : ByteArray) (a1 : Int) (a2 : Int) (a3 : Int) (a4 : ByteArray) (a5 : ByteArray) (a6 : Rw) (a7 : Rw) : L_spec_ReadThing (some 6) [.s a0, .i a1, .i a2, .i a3, .s a4, .s a5, .l a6, .l a7] =
 cond (decide (a3 < a2)) (
 cond (decide (0 ≤ (IntKind.i64.wrap ((IntKind.i64.wrap (1 + (IntKind.i64.wrap (a3 * a1)))) + a1)))) (
 cond (decide ((IntKind.i64.wrap ((IntKind.i64.wrap (1 + (IntKind.i64.wrap (a3 * a1)))) + a1)) ≤ (a0.size : Int))) (
 cond (decide (0 ≤ (IntKind.i64.wrap (1 + (IntKind.i64.wrap (a3 * a1)))))) (
 cond (decide ((IntKind.i64.wrap (1 + (IntKind.i64.wrap (a3 * a1)))) ≤ ((IntKind.i64.wrap ((IntKind.i64.wrap (1 + (IntKind.i64.wrap (a3 * a1)))) + a1)).toNat : Int))) (
 cond (decide (a7.length + ([[.s (a0.extract ((IntKind.i64.wrap (1 + (IntKind.i64.wrap (a3 * a1)))).toNat) ((IntKind.i64.wrap ((IntKind.i64.wrap (1 + (IntKind.i64.wrap (a3 * a1)))) + a1)).toNat))]] : Rw).length ≤ most)) (
 L_spec_ReadThing (some 6) [.s a0, .i a1, .i a2, .i (IntKind.i64.wrap (a3 + 1)), .s a4, .s a5, .l a6, .l (a7 ++ ([[.s (a0.extract ((IntKind.i64.wrap (1 + (IntKind.i64.wrap (a3 * a1)))).toNat) ((IntKind.i64.wrap ((IntKind.i64.wrap (1 + (IntKind.i64.wrap (a3 * a1)))) + a1)).toNat))]] : Rw))]) (
 none)) (
 none)) (
 none)) (
 none)) (
 none)) (
 (L_spec_l1ThingOk none [.s a5, .l a7, .i a1]).bind fun y1 =>
 cond (!(g y1 0).bool) (
 some [.s (⟨#[]⟩ : ByteArray), .b false, .l []]) (
 some [.s a5, .b true, .l a7])) := (Lim_eq _ _).trans (by kernel_rfl)
theorem k_spec_ReadThing : SigOk Tryz.prog (d_spec_ReadThing.sig (L_spec_ReadThing none)) ∧ (d_spec_ReadThing.sig (L_spec_ReadThing none)).ok = true := sound_lim (known_cons k_spec_l1Width (by kernel_rfl) (known_cons k_spec_l1ThingOk (by kernel_rfl) known_nil)) (by kernel_rfl) (by kernel_rfl) (by kernel_rfl)
def d_spec_ReadEntry : FD := { fn := 113, nb := 0, pre := ⟨[.sc (.s 0), .sc (.i .i64 1)], []⟩, post := ⟨[.tu [(true, [.i .i64 0, .s 1, .s 2, .i .i64 3, .s 4, .ow 0]), (false, [.b 5])]], [.rw 9 true 6]⟩, sh := false, cuts := [⟨9, [0, 1, 4, 6], ⟨[.sc (.s 0), .sc (.i .i64 1), .sc (.pt 0 0), .sc (.pt 1 0)], [.bx [.i .i64 2, .s 3, .s 4, .i .i64 5, .s 6, .ow 3], .bx [.i .i64 7, .s 8, .s 9, .i .i64 10, .s 11, .ow 2], .rw 9 true 12, .rw 9 true 13]⟩⟩] }
noncomputable def L_spec_ReadEntry : Option Nat → Lv → Option Lv := Lim Tryz.prog [d_spec_l1Width.sig (L_spec_l1Width none), d_spec_l3Ok.sig (L_spec_l3Ok none), d_spec_FormEntry.sig (L_spec_FormEntry none), d_spec_ReadThing.sig (L_spec_ReadThing none)] d_spec_ReadEntry Tryz.f113
theorem e_spec_ReadEntry_i (a0 : ByteArray) (a1 : Int) : L_spec_ReadEntry none [.s a0, .i a1] =
 (L_spec_l1Width none [.i a1]).bind fun y1 =>
 cond (!(g y1 0).bool) (
 some [.i 0, .s (⟨#[]⟩ : ByteArray), .s (⟨#[]⟩ : ByteArray), .i 0, .s (⟨#[]⟩ : ByteArray), .b false, .l []]) (
 cond (decide ((a0.size : Int) < 6)) (
 some [.i 0, .s (⟨#[]⟩ : ByteArray), .s (⟨#[]⟩ : ByteArray), .i 0, .s (⟨#[]⟩ : ByteArray), .b false, .l []]) (
 cond (inb 5 a0.size) (
 cond (decide ((a0.size : Int) < (IntKind.i64.wrap (6 + (IntKind.i64.wrap (byteAt a0 5)))))) (
 some [.i 0, .s (⟨#[]⟩ : ByteArray), .s (⟨#[]⟩ : ByteArray), .i 0, .s (⟨#[]⟩ : ByteArray), .b false, .l []]) (
 cond (inb 0 a0.size) (
 cond (inb 1 a0.size) (
 cond (inb 2 a0.size) (
 cond (inb 3 a0.size) (
 cond (inb 4 a0.size) (
 cond (inb 5 a0.size) (
 cond (decide (0 ≤ (IntKind.i64.wrap (6 + (IntKind.i64.wrap (byteAt a0 5)))))) (
 cond (decide ((IntKind.i64.wrap (6 + (IntKind.i64.wrap (byteAt a0 5)))) ≤ (a0.size : Int))) (
 cond (decide (6 ≤ ((IntKind.i64.wrap (6 + (IntKind.i64.wrap (byteAt a0 5)))).toNat : Int))) (
 cond (inb 5 a0.size) (
 cond (decide (0 ≤ (IntKind.i64.wrap (6 + (IntKind.i64.wrap (byteAt a0 5)))))) (
 cond (decide ((IntKind.i64.wrap (6 + (IntKind.i64.wrap (byteAt a0 5)))) ≤ (a0.size : Int))) (
 cond ((IntKind.i64.wrap (byteAt a0 0)) == 1) (
 (L_spec_ReadThing none [.s (a0.extract ((IntKind.i64.wrap (6 + (IntKind.i64.wrap (byteAt a0 5)))).toNat) a0.size), .i a1]).bind fun y2 =>
 L_spec_ReadEntry (some 9) [.s a0, .i a1, .i 0, .s (⟨#[]⟩ : ByteArray), .s (⟨#[]⟩ : ByteArray), .i 0, .s (⟨#[]⟩ : ByteArray), .i (IntKind.i64.wrap (byteAt a0 0)), .s (⟨#[]⟩ : ByteArray), .s (a0.extract 6 ((IntKind.i64.wrap (6 + (IntKind.i64.wrap (byteAt a0 5)))).toNat)), .i (IntKind.i64.wrap ((IntKind.i64.wrap ((IntKind.i64.wrap ((IntKind.i64.wrap ((IntKind.i64.wrap (byteAt a0 1)) * 16777216)) + (IntKind.i64.wrap ((IntKind.i64.wrap (byteAt a0 2)) * 65536)))) + (IntKind.i64.wrap ((IntKind.i64.wrap (byteAt a0 3)) * 256)))) + (IntKind.i64.wrap (byteAt a0 4)))), .s ((g y2 0).str), .l ((g y2 2).list), .l []]) (
 L_spec_ReadEntry (some 9) [.s a0, .i a1, .i 0, .s (⟨#[]⟩ : ByteArray), .s (⟨#[]⟩ : ByteArray), .i 0, .s (⟨#[]⟩ : ByteArray), .i (IntKind.i64.wrap (byteAt a0 0)), .s (a0.extract ((IntKind.i64.wrap (6 + (IntKind.i64.wrap (byteAt a0 5)))).toNat) a0.size), .s (a0.extract 6 ((IntKind.i64.wrap (6 + (IntKind.i64.wrap (byteAt a0 5)))).toNat)), .i (IntKind.i64.wrap ((IntKind.i64.wrap ((IntKind.i64.wrap ((IntKind.i64.wrap ((IntKind.i64.wrap (byteAt a0 1)) * 16777216)) + (IntKind.i64.wrap ((IntKind.i64.wrap (byteAt a0 2)) * 65536)))) + (IntKind.i64.wrap ((IntKind.i64.wrap (byteAt a0 3)) * 256)))) + (IntKind.i64.wrap (byteAt a0 4)))), .s (⟨#[]⟩ : ByteArray), .l [], .l []])) (
 none)) (
 none)) (
 none)) (
 none)) (
 none)) (
 none)) (
 none)) (
 none)) (
 none)) (
 none)) (
 none)) (
 none))) (
 none))) := (Lim_eq _ _).trans (by kernel_rfl)
theorem e_spec_ReadEntry_9 (a0 : ByteArray) (a1 : Int) (a2 : Int) (a3 : ByteArray) (a4 : ByteArray) (a5 : Int) (a6 : ByteArray) (a7 : Int) (a8 : ByteArray) (a9 : ByteArray) (a10 : Int) (a11 : ByteArray) (a12 : Rw) (a13 : Rw) : L_spec_ReadEntry (some 9) [.s a0, .i a1, .i a2, .s a3, .s a4, .i a5, .s a6, .i a7, .s a8, .s a9, .i a10, .s a11, .l a12, .l a13] =
 (L_spec_l3Ok none [.i a7, .s a8, .s a9, .i a10, .s a11, .l a12, .i a1]).bind fun y1 =>
 cond (!(g y1 0).bool) (
 some [.i 0, .s (⟨#[]⟩ : ByteArray), .s (⟨#[]⟩ : ByteArray), .i 0, .s (⟨#[]⟩ : ByteArray), .b false, .l []]) (
 (L_spec_FormEntry none [.i a7, .s a8, .s a9, .i a10, .s a11, .l a12, .i a1]).bind fun y2 =>
 cond (!Eng.seq ((g y2 0).str) a0) (
 some [.i 0, .s (⟨#[]⟩ : ByteArray), .s (⟨#[]⟩ : ByteArray), .i 0, .s (⟨#[]⟩ : ByteArray), .b false, .l []]) (
 some [.i a7, .s a8, .s a9, .i a10, .s a11, .b true, .l a12])) := (Lim_eq _ _).trans (by kernel_rfl)
theorem k_spec_ReadEntry : SigOk Tryz.prog (d_spec_ReadEntry.sig (L_spec_ReadEntry none)) ∧ (d_spec_ReadEntry.sig (L_spec_ReadEntry none)).ok = true := sound_lim (known_cons k_spec_l1Width (by kernel_rfl) (known_cons k_spec_l3Ok (by kernel_rfl) (known_cons k_spec_FormEntry (by kernel_rfl) (known_cons k_spec_ReadThing (by kernel_rfl) known_nil)))) (by kernel_rfl) (by kernel_rfl) (by kernel_rfl)
def d_spec_l4Copy : FD := { fn := 115, nb := 0, pre := ⟨[.ag [.i .i64 0, .i .i64 1, .i .i64 2, .i .i64 3, .fz 90 false 4, .fz 156 false 5, .fz 158 false 6]], []⟩, post := ⟨[.ag [.i .i64 0, .i .i64 1, .i .i64 2, .i .i64 3, .ow 0, .ow 1, .ow 2]], [.rw 90 true 4, .rw 156 true 5, .rw 158 true 6]⟩, sh := false, cuts := [⟨4, [1, 2, 3, 4], ⟨[.sc (.pt 0 0), .sc (.pt 1 0), .sc (.pt 2 0), .sc (.i .i64 0)], [.bx [.i .i64 1, .i .i64 2, .i .i64 3, .i .i64 4, .fz 90 false 5, .fz 156 false 6, .fz 158 false 7], .bx [.i .i64 8, .i .i64 9, .i .i64 10, .i .i64 11, .ow 3, .ow 4, .ow 5], .bx [.i .i64 12, .i .i64 13, .i .i64 14, .i .i64 15, .ow 6, .fz 156 false 16, .fz 158 false 17], .rw 90 true 18, .rw 156 true 19, .rw 158 true 20, .rw 90 true 21]⟩⟩] }
noncomputable def L_spec_l4Copy : Option Nat → Lv → Option Lv := Lim Tryz.prog [d_spec_l1Thing.sig (L_spec_l1Thing none)] d_spec_l4Copy Tryz.f115
theorem e_spec_l4Copy_i (a0 : Int) (a1 : Int) (a2 : Int) (a3 : Int) (a4 : Rw) (a5 : Rw) (a6 : Rw) : L_spec_l4Copy none [.i a0, .i a1, .i a2, .i a3, .l a4, .l a5, .l a6] =
 L_spec_l4Copy (some 4) [.i 0, .i a0, .i a1, .i a2, .i a3, .l a4, .l a5, .l a6, .i 0, .i 0, .i 0, .i 0, .i a0, .i a1, .i a2, .i a3, .l a5, .l a6, .l [], .l [], .l [], .l ([] : Rw)] := (Lim_eq _ _).trans (by kernel_rfl)
theorem e_spec_l4Copy_4 (a0 : Int) (a1 : Int) (a2 : Int) (a3 : Int) (a4 : Int) (a5 : Rw) (a6 : Rw) (a7 : Rw) (a8 : Int) (a9 : Int) (a10 : Int) (a11 : Int) (a12 : Int) (a13 : Int) (a14 : Int) (a15 : Int) (a16 : Rw) (a17 : Rw) (a18 : Rw) (a19 : Rw) (a20 : Rw) (a21 : Rw) : L_spec_l4Copy (some 4) [.i a0, .i a1, .i a2, .i a3, .i a4, .l a5, .l a6, .l a7, .i a8, .i a9, .i a10, .i a11, .i a12, .i a13, .i a14, .i a15, .l a16, .l a17, .l a18, .l a19, .l a20, .l a21] =
 cond (decide (a0 < (a5.length : Int))) (
 cond (inb a0 a5.length) (
 (L_spec_l1Thing none [.s ((rd a5 a0.toNat 2).str), .l ((rd a5 a0.toNat 3).list)]).bind fun y1 =>
 cond (decide (a21.length + ([[.s ((rd a5 a0.toNat 0).str), .i ((rd a5 a0.toNat 1).int), .s ((g y1 0).str), .l ((g y1 1).list)]] : Rw).length ≤ most)) (
 L_spec_l4Copy (some 4) [.i (IntKind.i64.wrap (a0 + 1)), .i a1, .i a2, .i a3, .i a4, .l a5, .l a6, .l a7, .i a8, .i a9, .i a10, .i a11, .i a12, .i a13, .i a14, .i a15, .l a16, .l a17, .l a18, .l a19, .l a20, .l (a21 ++ ([[.s ((rd a5 a0.toNat 0).str), .i ((rd a5 a0.toNat 1).int), .s ((g y1 0).str), .l ((g y1 1).list)]] : Rw))]) (
 none)) (
 none)) (
 cond (decide (([] : Rw).length + a6.length ≤ most)) (
 cond (decide (([] : Rw).length + a7.length ≤ most)) (
 some [.i a12, .i a13, .i a14, .i a15, .l a21, .l (([] : Rw) ++ a6), .l (([] : Rw) ++ a7)]) (
 none)) (
 none)) := (Lim_eq _ _).trans (by kernel_rfl)
theorem k_spec_l4Copy : SigOk Tryz.prog (d_spec_l4Copy.sig (L_spec_l4Copy none)) ∧ (d_spec_l4Copy.sig (L_spec_l4Copy none)).ok = true := sound_lim (known_cons k_spec_l1Thing (by kernel_rfl) known_nil) (by kernel_rfl) (by kernel_rfl) (by kernel_rfl)
def d_spec_l4Find : FD := { fn := 128, nb := 0, pre := ⟨[.ag [.i .i64 0, .i .i64 1, .i .i64 2, .i .i64 3, .fz 90 false 4, .fz 156 false 5, .fz 158 false 6], .sc (.s 7)], []⟩, post := ⟨[.sc (.i .i64 0)], []⟩, sh := false, cuts := [⟨2, [1, 2, 5], ⟨[.sc (.s 0), .sc (.pt 0 0), .sc (.i .i64 1)], [.bx [.i .i64 2, .i .i64 3, .i .i64 4, .i .i64 5, .fz 90 false 6, .fz 156 false 7, .fz 158 false 8]]⟩⟩] }
noncomputable def L_spec_l4Find : Option Nat → Lv → Option Lv := Lim Tryz.prog [] d_spec_l4Find Tryz.f128
theorem e_spec_l4Find_i (a0 : Int) (a1 : Int) (a2 : Int) (a3 : Int) (a4 : Rw) (a5 : Rw) (a6 : Rw) (a7 : ByteArray) : L_spec_l4Find none [.i a0, .i a1, .i a2, .i a3, .l a4, .l a5, .l a6, .s a7] =
 L_spec_l4Find (some 2) [.s a7, .i 0, .i a0, .i a1, .i a2, .i a3, .l a4, .l a5, .l a6] := (Lim_eq _ _).trans (by kernel_rfl)
theorem e_spec_l4Find_2 (a0 : ByteArray) (a1 : Int) (a2 : Int) (a3 : Int) (a4 : Int) (a5 : Int) (a6 : Rw) (a7 : Rw) (a8 : Rw) : L_spec_l4Find (some 2) [.s a0, .i a1, .i a2, .i a3, .i a4, .i a5, .l a6, .l a7, .l a8] =
 cond (decide (a1 < (a6.length : Int))) (
 cond (inb a1 a6.length) (
 cond (Eng.seq ((rd a6 a1.toNat 0).str) a0) (
 some [.i a1]) (
 L_spec_l4Find (some 2) [.s a0, .i (IntKind.i64.wrap (a1 + 1)), .i a2, .i a3, .i a4, .i a5, .l a6, .l a7, .l a8])) (
 none)) (
 some [.i (-1)]) := (Lim_eq _ _).trans (by kernel_rfl)
theorem k_spec_l4Find : SigOk Tryz.prog (d_spec_l4Find.sig (L_spec_l4Find none)) ∧ (d_spec_l4Find.sig (L_spec_l4Find none)).ok = true := sound_lim known_nil (by kernel_rfl) (by kernel_rfl) (by kernel_rfl)
def d_spec_l4Lease : FD := { fn := 180, nb := 0, pre := ⟨[.ag [.i .i64 0, .i .i64 1, .i .i64 2, .i .i64 3, .fz 90 false 4, .fz 156 false 5, .ow 0], .sc (.s 6), .sc (.i .i64 7)], [.rw 158 false 8]⟩, post := ⟨[.ag [.i .i64 0, .i .i64 1, .i .i64 2, .i .i64 3, .i .i64 4, .fz 90 false 5, .fz 156 false 6, .ow 0, .s 7, .i .i64 8, .s 9, .s 10]], [.rw 158 false 11]⟩, sh := true, cuts := [] }
noncomputable def L_spec_l4Lease : Option Nat → Lv → Option Lv := Lim Tryz.prog [] d_spec_l4Lease Tryz.f180
theorem e_spec_l4Lease_i (a0 : Int) (a1 : Int) (a2 : Int) (a3 : Int) (a4 : Rw) (a5 : Rw) (a6 : ByteArray) (a7 : Int) (a8 : Rw) : L_spec_l4Lease none [.i a0, .i a1, .i a2, .i a3, .l a4, .l a5, .s a6, .i a7, .l a8] =
 cond (decide (200 ≤ (a8.length : Int))) (
 some [.i 4, .i 0, .i 0, .i 0, .i 0, .l ([]), .l ([]), .s (⟨#[]⟩ : ByteArray), .i 0, .s (⟨#[]⟩ : ByteArray), .s (⟨#[]⟩ : ByteArray), .l []]) (
 cond (decide (1000000000 ≤ a2)) (
 some [.i 4, .i 0, .i 0, .i 0, .i 0, .l ([]), .l ([]), .s (⟨#[]⟩ : ByteArray), .i 0, .s (⟨#[]⟩ : ByteArray), .s (⟨#[]⟩ : ByteArray), .l []]) (
 cond (decide (a8.length + ([[.i (IntKind.i64.wrap (a2 + 1)), .s a6, .i (IntKind.i64.wrap (a1 + a7))]] : Rw).length ≤ most)) (
 some [.i 0, .i a0, .i a1, .i (IntKind.i64.wrap (a2 + 1)), .i a3, .l a4, .l a5, .s (⟨#[]⟩ : ByteArray), .i (IntKind.i64.wrap (a2 + 1)), .s (⟨#[]⟩ : ByteArray), .s (⟨#[]⟩ : ByteArray), .l (a8 ++ ([[.i (IntKind.i64.wrap (a2 + 1)), .s a6, .i (IntKind.i64.wrap (a1 + a7))]] : Rw))]) (
 none))) := (Lim_eq _ _).trans (by kernel_rfl)
theorem k_spec_l4Lease : SigOk Tryz.prog (d_spec_l4Lease.sig (L_spec_l4Lease none)) ∧ (d_spec_l4Lease.sig (L_spec_l4Lease none)).ok = true := sound_lim known_nil (by kernel_rfl) (by kernel_rfl) (by kernel_rfl)
def d_spec_l4Put : FD := { fn := 177, nb := 0, pre := ⟨[.ag [.i .i64 0, .i .i64 1, .i .i64 2, .i .i64 3, .fz 90 false 4, .fz 156 false 5, .ow 0], .ag [.i .i64 6, .s 7, .s 8, .i .i64 9, .s 10, .fz 9 false 11]], [.rw 158 false 12]⟩, post := ⟨[.ag [.i .i64 0, .i .i64 1, .i .i64 2, .i .i64 3, .i .i64 4, .fz 90 false 5, .fz 156 false 6, .ow 0, .s 7, .i .i64 8, .s 9, .s 10]], [.rw 158 false 11]⟩, sh := true, cuts := [⟨4, [2, 3, 4, 5, 6, 7], ⟨[.sc (.pt 0 0), .sc (.pt 1 0), .sc (.pt 2 0), .sc (.s 0), .sc (.s 1), .sc (.i .i64 2)], [.bx [.i .i64 3, .i .i64 4, .i .i64 5, .i .i64 6, .fz 90 false 7, .fz 156 false 8, .ow 3], .bx [.i .i64 9, .s 10, .s 11, .i .i64 12, .s 13, .fz 9 false 14], .bx [.i .i64 15, .i .i64 16, .i .i64 17, .i .i64 18, .i .i64 19, .ow 4, .ow 5, .ow 6, .s 20, .i .i64 21, .s 22, .s 23], .rw 158 false 24, .rw 90 true 25, .rw 156 true 26, .rw 158 true 27]⟩⟩, ⟨20, [2, 3, 4, 6, 10, 11, 12, 13], ⟨[.sc (.pt 0 0), .sc (.pt 1 0), .sc (.pt 2 0), .sc (.s 0), .sc (.ow 3), .sc (.b 1), .sc (.pt 4 0), .sc (.i .i64 2)], [.bx [.i .i64 3, .i .i64 4, .i .i64 5, .i .i64 6, .fz 90 false 7, .fz 156 false 8, .ow 5], .bx [.i .i64 9, .s 10, .s 11, .i .i64 12, .s 13, .fz 9 false 14], .bx [.i .i64 15, .i .i64 16, .i .i64 17, .i .i64 18, .i .i64 19, .ow 6, .ow 7, .ow 8, .s 20, .i .i64 21, .s 22, .s 23], .rw 90 false 24, .bx [.s 25, .i .i64 26, .s 27, .fz 9 true 28], .rw 158 false 29, .rw 90 true 30, .rw 156 true 31, .rw 158 true 32]⟩⟩] }
noncomputable def L_spec_l4Put : Option Nat → Lv → Option Lv := Lim Tryz.prog [d_spec_FormThing.sig (L_spec_FormThing none), d_spec_l1Thing.sig (L_spec_l1Thing none), d_spec_Sum.sig (L_spec_Sum none), d_spec_l4Find.sig (L_spec_l4Find none), d_spec_l4Lease.sig (L_spec_l4Lease none)] d_spec_l4Put Tryz.f177
theorem e_spec_l4Put_i (a0 : Int) (a1 : Int) (a2 : Int) (a3 : Int) (a4 : Rw) (a5 : Rw) (a6 : Int) (a7 : ByteArray) (a8 : ByteArray) (a9 : Int) (a10 : ByteArray) (a11 : Rw) (a12 : Rw) : L_spec_l4Put none [.i a0, .i a1, .i a2, .i a3, .l a4, .l a5, .i a6, .s a7, .s a8, .i a9, .s a10, .l a11, .l a12] =
 (L_spec_FormThing none [.s a10, .l a11, .i a0]).bind fun y1 =>
 (L_spec_Sum none [.s ((g y1 0).str), .i a0]).bind fun y2 =>
 L_spec_l4Put (some 4) [.s ((g y1 0).str), .s ((g y2 0).str), .i 0, .i a0, .i a1, .i a2, .i a3, .l a4, .l a5, .i a6, .s a7, .s a8, .i a9, .s a10, .l a11, .i 0, .i 0, .i 0, .i 0, .i 0, .s (⟨#[]⟩ : ByteArray), .i 0, .s (⟨#[]⟩ : ByteArray), .s (⟨#[]⟩ : ByteArray), .l a12, .l [], .l [], .l []] := (Lim_eq _ _).trans (by kernel_rfl)
theorem e_spec_l4Put_4 (a0 : ByteArray) (a1 : ByteArray) (a2 : Int) (a3 : Int) (a4 : Int) (a5 : Int) (a6 : Int) (a7 : Rw) (a8 : Rw) (a9 : Int) (a10 : ByteArray) (a11 : ByteArray) (a12 : Int) (a13 : ByteArray) (a14 : Rw) (a15 : Int) (a16 : Int) (a17 : Int) (a18 : Int) (a19 : Int) (a20 : ByteArray) (a21 : Int) (a22 : ByteArray) (a23 : ByteArray) (a24 : Rw) (a25 : Rw) (a26 : Rw) (a27 : Rw) : L_spec_l4Put (some 4) [.s a0, .s a1, .i a2, .i a3, .i a4, .i a5, .i a6, .l a7, .l a8, .i a9, .s a10, .s a11, .i a12, .s a13, .l a14, .i a15, .i a16, .i a17, .i a18, .i a19, .s a20, .i a21, .s a22, .s a23, .l a24, .l a25, .l a26, .l a27] =
 cond (decide (a2 < (a14.length : Int))) (
 cond (inb a2 a14.length) (
 (L_spec_l4Find none [.i a3, .i a4, .i a5, .i a6, .l a7, .l a8, .l a24, .s ((rd a14 a2.toNat 0).str)]).bind fun y1 =>
 cond (decide ((g y1 0).int < 0)) (
 some [.i 2, .i 0, .i 0, .i 0, .i 0, .l ([]), .l ([]), .s (⟨#[]⟩ : ByteArray), .i 0, .s (⟨#[]⟩ : ByteArray), .s (⟨#[]⟩ : ByteArray), .l []]) (
 L_spec_l4Put (some 4) [.s a0, .s a1, .i (IntKind.i64.wrap (a2 + 1)), .i a3, .i a4, .i a5, .i a6, .l a7, .l a8, .i a9, .s a10, .s a11, .i a12, .s a13, .l a14, .i a15, .i a16, .i a17, .i a18, .i a19, .s a20, .i a21, .s a22, .s a23, .l a24, .l a25, .l a26, .l a27])) (
 none)) (
 (L_spec_l4Find none [.i a3, .i a4, .i a5, .i a6, .l a7, .l a8, .l a24, .s a1]).bind fun y2 =>
 cond (decide (0 ≤ (g y2 0).int)) (
 cond (inb ((g y2 0).int) a7.length) (
 (L_spec_FormThing none [.s ((rd a7 (((g y2 0).int).toNat) 2).str), .l ((rd a7 (((g y2 0).int).toNat) 3).list), .i a3]).bind fun y3 =>
 cond (!Eng.seq ((g y3 0).str) a0) (
 some [.i 3, .i 0, .i 0, .i 0, .i 0, .l ([]), .l ([]), .s (⟨#[]⟩ : ByteArray), .i 0, .s ((g y3 0).str), .s a0, .l []]) (
 (L_spec_l4Lease none [.i a3, .i a4, .i a5, .i a6, .l a7, .l a8, .s a1, .i a12, .l a24]).bind fun y4 =>
 cond ((g y4 0).int == 0) (
 some [.i ((g y4 0).int), .i ((g y4 1).int), .i ((g y4 2).int), .i ((g y4 3).int), .i ((g y4 4).int), .l ((g y4 5).list), .l ((g y4 6).list), .s a1, .i ((g y4 8).int), .s ((g y4 9).str), .s ((g y4 10).str), .l ((g y4 11).list)]) (
 some [.i ((g y4 0).int), .i ((g y4 1).int), .i ((g y4 2).int), .i ((g y4 3).int), .i ((g y4 4).int), .l ((g y4 5).list), .l ((g y4 6).list), .s ((g y4 7).str), .i ((g y4 8).int), .s ((g y4 9).str), .s ((g y4 10).str), .l ((g y4 11).list)]))) (
 none)) (
 cond (decide (600 ≤ (a7.length : Int))) (
 some [.i 4, .i 0, .i 0, .i 0, .i 0, .l ([]), .l ([]), .s (⟨#[]⟩ : ByteArray), .i 0, .s (⟨#[]⟩ : ByteArray), .s (⟨#[]⟩ : ByteArray), .l []]) (
 cond (decide (1000000000 ≤ a6)) (
 some [.i 4, .i 0, .i 0, .i 0, .i 0, .l ([]), .l ([]), .s (⟨#[]⟩ : ByteArray), .i 0, .s (⟨#[]⟩ : ByteArray), .s (⟨#[]⟩ : ByteArray), .l []]) (
 (L_spec_l1Thing none [.s a13, .l a14]).bind fun y5 =>
 L_spec_l4Put (some 20) [.s a1, .b false, .i 0, .i a3, .i a4, .i a5, .i (IntKind.i64.wrap (a6 + 1)), .l a7, .l a8, .i a9, .s a10, .s a11, .i a12, .s a13, .l a14, .i a15, .i a16, .i a17, .i a18, .i a19, .s a20, .i a21, .s a22, .s a23, .l ([] : Rw), .s a1, .i (IntKind.i64.wrap (a6 + 1)), .s ((g y5 0).str), .l ((g y5 1).list), .l a24, .l a25, .l a26, .l a27])))) := (Lim_eq _ _).trans (by kernel_rfl)
theorem e_spec_l4Put_20 (a0 : ByteArray) (a1 : Bool) (a2 : Int) (a3 : Int) (a4 : Int) (a5 : Int) (a6 : Int) (a7 : Rw) (a8 : Rw) (a9 : Int) (a10 : ByteArray) (a11 : ByteArray) (a12 : Int) (a13 : ByteArray) (a14 : Rw) (a15 : Int) (a16 : Int) (a17 : Int) (a18 : Int) (a19 : Int) (a20 : ByteArray) (a21 : Int) (a22 : ByteArray) (a23 : ByteArray) (a24 : Rw) (a25 : ByteArray) (a26 : Int) (a27 : ByteArray) (a28 : Rw) (a29 : Rw) (a30 : Rw) (a31 : Rw) (a32 : Rw) : L_spec_l4Put (some 20) [.s a0, .b a1, .i a2, .i a3, .i a4, .i a5, .i a6, .l a7, .l a8, .i a9, .s a10, .s a11, .i a12, .s a13, .l a14, .i a15, .i a16, .i a17, .i a18, .i a19, .s a20, .i a21, .s a22, .s a23, .l a24, .s a25, .i a26, .s a27, .l a28, .l a29, .l a30, .l a31, .l a32] =
 cond (decide (a2 < (a7.length : Int))) (
 cond (!a1) (
 cond (inb a2 a7.length) (
 cond (!(slt ((rd a7 a2.toNat 0).str) a0 || Eng.seq ((rd a7 a2.toNat 0).str) a0)) (
 cond (decide (a24.length + ([[.s a25, .i a26, .s a27, .l a28]] : Rw).length ≤ most)) (
 cond (inb a2 a7.length) (
 cond (decide ((a24 ++ ([[.s a25, .i a26, .s a27, .l a28]] : Rw)).length + ([[.s ((rd a7 a2.toNat 0).str), .i ((rd a7 a2.toNat 1).int), .s ((rd a7 a2.toNat 2).str), .l ((rd a7 a2.toNat 3).list)]] : Rw).length ≤ most)) (
 L_spec_l4Put (some 20) [.s a0, .b true, .i (IntKind.i64.wrap (a2 + 1)), .i a3, .i a4, .i a5, .i a6, .l a7, .l a8, .i a9, .s a10, .s a11, .i a12, .s a13, .l a14, .i a15, .i a16, .i a17, .i a18, .i a19, .s a20, .i a21, .s a22, .s a23, .l ((a24 ++ ([[.s a25, .i a26, .s a27, .l a28]] : Rw)) ++ ([[.s ((rd a7 a2.toNat 0).str), .i ((rd a7 a2.toNat 1).int), .s ((rd a7 a2.toNat 2).str), .l ((rd a7 a2.toNat 3).list)]] : Rw)), .s a25, .i a26, .s a27, .l a28, .l a29, .l a30, .l a31, .l a32]) (
 none)) (
 none)) (
 none)) (
 cond (inb a2 a7.length) (
 cond (decide (a24.length + ([[.s ((rd a7 a2.toNat 0).str), .i ((rd a7 a2.toNat 1).int), .s ((rd a7 a2.toNat 2).str), .l ((rd a7 a2.toNat 3).list)]] : Rw).length ≤ most)) (
 L_spec_l4Put (some 20) [.s a0, .b a1, .i (IntKind.i64.wrap (a2 + 1)), .i a3, .i a4, .i a5, .i a6, .l a7, .l a8, .i a9, .s a10, .s a11, .i a12, .s a13, .l a14, .i a15, .i a16, .i a17, .i a18, .i a19, .s a20, .i a21, .s a22, .s a23, .l (a24 ++ ([[.s ((rd a7 a2.toNat 0).str), .i ((rd a7 a2.toNat 1).int), .s ((rd a7 a2.toNat 2).str), .l ((rd a7 a2.toNat 3).list)]] : Rw)), .s a25, .i a26, .s a27, .l a28, .l a29, .l a30, .l a31, .l a32]) (
 none)) (
 none))) (
 none)) (
 cond (inb a2 a7.length) (
 cond (decide (a24.length + ([[.s ((rd a7 a2.toNat 0).str), .i ((rd a7 a2.toNat 1).int), .s ((rd a7 a2.toNat 2).str), .l ((rd a7 a2.toNat 3).list)]] : Rw).length ≤ most)) (
 L_spec_l4Put (some 20) [.s a0, .b a1, .i (IntKind.i64.wrap (a2 + 1)), .i a3, .i a4, .i a5, .i a6, .l a7, .l a8, .i a9, .s a10, .s a11, .i a12, .s a13, .l a14, .i a15, .i a16, .i a17, .i a18, .i a19, .s a20, .i a21, .s a22, .s a23, .l (a24 ++ ([[.s ((rd a7 a2.toNat 0).str), .i ((rd a7 a2.toNat 1).int), .s ((rd a7 a2.toNat 2).str), .l ((rd a7 a2.toNat 3).list)]] : Rw)), .s a25, .i a26, .s a27, .l a28, .l a29, .l a30, .l a31, .l a32]) (
 none)) (
 none))) (
 cond (!a1) (
 cond (decide (a24.length + ([[.s a25, .i a26, .s a27, .l a28]] : Rw).length ≤ most)) (
 (L_spec_l4Lease none [.i a3, .i a4, .i a5, .i a6, .l (a24 ++ ([[.s a25, .i a26, .s a27, .l a28]] : Rw)), .l a8, .s a0, .i a12, .l a29]).bind fun y1 =>
 cond ((g y1 0).int == 0) (
 some [.i ((g y1 0).int), .i ((g y1 1).int), .i ((g y1 2).int), .i ((g y1 3).int), .i ((g y1 4).int), .l ((g y1 5).list), .l ((g y1 6).list), .s a0, .i ((g y1 8).int), .s ((g y1 9).str), .s ((g y1 10).str), .l ((g y1 11).list)]) (
 some [.i ((g y1 0).int), .i ((g y1 1).int), .i ((g y1 2).int), .i ((g y1 3).int), .i ((g y1 4).int), .l ((g y1 5).list), .l ((g y1 6).list), .s ((g y1 7).str), .i ((g y1 8).int), .s ((g y1 9).str), .s ((g y1 10).str), .l ((g y1 11).list)])) (
 none)) (
 (L_spec_l4Lease none [.i a3, .i a4, .i a5, .i a6, .l a24, .l a8, .s a0, .i a12, .l a29]).bind fun y2 =>
 cond ((g y2 0).int == 0) (
 some [.i ((g y2 0).int), .i ((g y2 1).int), .i ((g y2 2).int), .i ((g y2 3).int), .i ((g y2 4).int), .l ((g y2 5).list), .l ((g y2 6).list), .s a0, .i ((g y2 8).int), .s ((g y2 9).str), .s ((g y2 10).str), .l ((g y2 11).list)]) (
 some [.i ((g y2 0).int), .i ((g y2 1).int), .i ((g y2 2).int), .i ((g y2 3).int), .i ((g y2 4).int), .l ((g y2 5).list), .l ((g y2 6).list), .s ((g y2 7).str), .i ((g y2 8).int), .s ((g y2 9).str), .s ((g y2 10).str), .l ((g y2 11).list)]))) := (Lim_eq _ _).trans (by kernel_rfl)
theorem k_spec_l4Put : SigOk Tryz.prog (d_spec_l4Put.sig (L_spec_l4Put none)) ∧ (d_spec_l4Put.sig (L_spec_l4Put none)).ok = true := sound_lim (known_cons k_spec_FormThing (by kernel_rfl) (known_cons k_spec_l1Thing (by kernel_rfl) (known_cons k_spec_Sum (by kernel_rfl) (known_cons k_spec_l4Find (by kernel_rfl) (known_cons k_spec_l4Lease (by kernel_rfl) known_nil))))) (by kernel_rfl) (by kernel_rfl) (by kernel_rfl)
def d_spec_l4Pin : FD := { fn := 178, nb := 0, pre := ⟨[.ag [.i .i64 0, .i .i64 1, .i .i64 2, .i .i64 3, .fz 90 false 4, .fz 156 false 5, .ow 0], .ag [.i .i64 6, .s 7, .s 8, .i .i64 9, .s 10, .fz 9 false 11]], [.rw 158 false 12]⟩, post := ⟨[.ag [.i .i64 0, .i .i64 1, .i .i64 2, .i .i64 3, .i .i64 4, .fz 90 false 5, .ow 0, .ow 1, .s 6, .i .i64 7, .s 8, .s 9]], [.rw 156 true 10, .rw 158 false 11]⟩, sh := true, cuts := [⟨6, [2, 3, 4, 5, 6, 7], ⟨[.sc (.pt 0 0), .sc (.pt 1 0), .sc (.pt 2 0), .sc (.ow 3), .sc (.b 0), .sc (.i .i64 1)], [.bx [.i .i64 2, .i .i64 3, .i .i64 4, .i .i64 5, .fz 90 false 6, .fz 156 false 7, .ow 4], .bx [.i .i64 8, .s 9, .s 10, .i .i64 11, .s 12, .fz 9 false 13], .bx [.i .i64 14, .i .i64 15, .i .i64 16, .i .i64 17, .i .i64 18, .ow 5, .ow 6, .ow 7, .s 19, .i .i64 20, .s 21, .s 22], .rw 156 true 23, .rw 158 false 24, .rw 90 true 25, .rw 156 true 26, .rw 158 true 27]⟩⟩, ⟨11, [2, 3, 4, 5, 6, 7], ⟨[.sc (.pt 0 0), .sc (.pt 1 0), .sc (.pt 2 0), .sc (.ow 3), .sc (.b 0), .sc (.i .i64 1)], [.bx [.i .i64 2, .i .i64 3, .i .i64 4, .i .i64 5, .fz 90 false 6, .fz 156 false 7, .ow 4], .bx [.i .i64 8, .s 9, .s 10, .i .i64 11, .s 12, .fz 9 false 13], .bx [.i .i64 14, .i .i64 15, .i .i64 16, .i .i64 17, .i .i64 18, .ow 5, .ow 6, .ow 7, .s 19, .i .i64 20, .s 21, .s 22], .rw 156 true 23, .rw 158 false 24, .rw 90 true 25, .rw 156 true 26, .rw 158 true 27]⟩⟩] }
noncomputable def L_spec_l4Pin : Option Nat → Lv → Option Lv := Lim Tryz.prog [d_spec_l4Find.sig (L_spec_l4Find none)] d_spec_l4Pin Tryz.f178
theorem e_spec_l4Pin_i (a0 : Int) (a1 : Int) (a2 : Int) (a3 : Int) (a4 : Rw) (a5 : Rw) (a6 : Int) (a7 : ByteArray) (a8 : ByteArray) (a9 : Int) (a10 : ByteArray) (a11 : Rw) (a12 : Rw) : L_spec_l4Pin none [.i a0, .i a1, .i a2, .i a3, .l a4, .l a5, .i a6, .s a7, .s a8, .i a9, .s a10, .l a11, .l a12] =
 (L_spec_l4Find none [.i a0, .i a1, .i a2, .i a3, .l a4, .l a5, .l a12, .s a7]).bind fun y1 =>
 cond (decide ((g y1 0).int < 0)) (
 some [.i 2, .i 0, .i 0, .i 0, .i 0, .l ([]), .s (⟨#[]⟩ : ByteArray), .i 0, .s (⟨#[]⟩ : ByteArray), .s (⟨#[]⟩ : ByteArray), .l [], .l []]) (
 L_spec_l4Pin (some 6) [.b false, .i 0, .i a0, .i a1, .i a2, .i a3, .l a4, .l a5, .i a6, .s a7, .s a8, .i a9, .s a10, .l a11, .i 0, .i 0, .i 0, .i 0, .i 0, .s (⟨#[]⟩ : ByteArray), .i 0, .s (⟨#[]⟩ : ByteArray), .s (⟨#[]⟩ : ByteArray), .l ([] : Rw), .l a12, .l [], .l [], .l []]) := (Lim_eq _ _).trans (by kernel_rfl)
theorem e_spec_l4Pin_6 (a0 : Bool) (a1 : Int) (a2 : Int) (a3 : Int) (a4 : Int) (a5 : Int) (a6 : Rw) (a7 : Rw) (a8 : Int) (a9 : ByteArray) (a10 : ByteArray) (a11 : Int) (a12 : ByteArray) (a13 : Rw) (a14 : Int) (a15 : Int) (a16 : Int) (a17 : Int) (a18 : Int) (a19 : ByteArray) (a20 : Int) (a21 : ByteArray) (a22 : ByteArray) (a23 : Rw) (a24 : Rw) (a25 : Rw) (a26 : Rw) (a27 : Rw) : L_spec_l4Pin (some 6) [.b a0, .i a1, .i a2, .i a3, .i a4, .i a5, .l a6, .l a7, .i a8, .s a9, .s a10, .i a11, .s a12, .l a13, .i a14, .i a15, .i a16, .i a17, .i a18, .s a19, .i a20, .s a21, .s a22, .l a23, .l a24, .l a25, .l a26, .l a27] =
 cond (decide (a1 < (a7.length : Int))) (
 cond (!a0) (
 cond (inb a1 a7.length) (
 cond (!slt ((rd a7 a1.toNat 0).str) a10) (
 cond (decide (a23.length + ([[.s a10, .s a9]] : Rw).length ≤ most)) (
 L_spec_l4Pin (some 11) [.b true, .i a1, .i a2, .i a3, .i a4, .i a5, .l a6, .l a7, .i a8, .s a9, .s a10, .i a11, .s a12, .l a13, .i a14, .i a15, .i a16, .i a17, .i a18, .s a19, .i a20, .s a21, .s a22, .l (a23 ++ ([[.s a10, .s a9]] : Rw)), .l a24, .l a25, .l a26, .l a27]) (
 none)) (
 L_spec_l4Pin (some 11) [.b a0, .i a1, .i a2, .i a3, .i a4, .i a5, .l a6, .l a7, .i a8, .s a9, .s a10, .i a11, .s a12, .l a13, .i a14, .i a15, .i a16, .i a17, .i a18, .s a19, .i a20, .s a21, .s a22, .l a23, .l a24, .l a25, .l a26, .l a27])) (
 none)) (
 L_spec_l4Pin (some 11) [.b a0, .i a1, .i a2, .i a3, .i a4, .i a5, .l a6, .l a7, .i a8, .s a9, .s a10, .i a11, .s a12, .l a13, .i a14, .i a15, .i a16, .i a17, .i a18, .s a19, .i a20, .s a21, .s a22, .l a23, .l a24, .l a25, .l a26, .l a27])) (
 cond (!a0) (
 cond (decide (a23.length + ([[.s a10, .s a9]] : Rw).length ≤ most)) (
 cond (decide (100 < ((a23 ++ ([[.s a10, .s a9]] : Rw)).length : Int))) (
 some [.i 4, .i 0, .i 0, .i 0, .i 0, .l ([]), .s (⟨#[]⟩ : ByteArray), .i 0, .s (⟨#[]⟩ : ByteArray), .s (⟨#[]⟩ : ByteArray), .l [], .l []]) (
 some [.i 0, .i a2, .i a3, .i a4, .i a5, .l a6, .s (⟨#[]⟩ : ByteArray), .i 0, .s (⟨#[]⟩ : ByteArray), .s (⟨#[]⟩ : ByteArray), .l (a23 ++ ([[.s a10, .s a9]] : Rw)), .l a24])) (
 none)) (
 cond (decide (100 < (a23.length : Int))) (
 some [.i 4, .i 0, .i 0, .i 0, .i 0, .l ([]), .s (⟨#[]⟩ : ByteArray), .i 0, .s (⟨#[]⟩ : ByteArray), .s (⟨#[]⟩ : ByteArray), .l [], .l []]) (
 some [.i 0, .i a2, .i a3, .i a4, .i a5, .l a6, .s (⟨#[]⟩ : ByteArray), .i 0, .s (⟨#[]⟩ : ByteArray), .s (⟨#[]⟩ : ByteArray), .l a23, .l a24]))) := (Lim_eq _ _).trans (by kernel_rfl)
theorem e_spec_l4Pin_11 (a0 : Bool) (a1 : Int) (a2 : Int) (a3 : Int) (a4 : Int) (a5 : Int) (a6 : Rw) (a7 : Rw) (a8 : Int) (a9 : ByteArray) (a10 : ByteArray) (a11 : Int) (a12 : ByteArray) (a13 : Rw) (a14 : Int) (a15 : Int) (a16 : Int) (a17 : Int) (a18 : Int) (a19 : ByteArray) (a20 : Int) (a21 : ByteArray) (a22 : ByteArray) (a23 : Rw) (a24 : Rw) (a25 : Rw) (a26 : Rw) (a27 : Rw) : L_spec_l4Pin (some 11) [.b a0, .i a1, .i a2, .i a3, .i a4, .i a5, .l a6, .l a7, .i a8, .s a9, .s a10, .i a11, .s a12, .l a13, .i a14, .i a15, .i a16, .i a17, .i a18, .s a19, .i a20, .s a21, .s a22, .l a23, .l a24, .l a25, .l a26, .l a27] =
 cond (inb a1 a7.length) (
 cond (!Eng.seq ((rd a7 a1.toNat 0).str) a10) (
 cond (inb a1 a7.length) (
 cond (decide (a23.length + ([[.s ((rd a7 a1.toNat 0).str), .s ((rd a7 a1.toNat 1).str)]] : Rw).length ≤ most)) (
 L_spec_l4Pin (some 6) [.b a0, .i (IntKind.i64.wrap (a1 + 1)), .i a2, .i a3, .i a4, .i a5, .l a6, .l a7, .i a8, .s a9, .s a10, .i a11, .s a12, .l a13, .i a14, .i a15, .i a16, .i a17, .i a18, .s a19, .i a20, .s a21, .s a22, .l (a23 ++ ([[.s ((rd a7 a1.toNat 0).str), .s ((rd a7 a1.toNat 1).str)]] : Rw)), .l a24, .l a25, .l a26, .l a27]) (
 none)) (
 none)) (
 L_spec_l4Pin (some 6) [.b a0, .i (IntKind.i64.wrap (a1 + 1)), .i a2, .i a3, .i a4, .i a5, .l a6, .l a7, .i a8, .s a9, .s a10, .i a11, .s a12, .l a13, .i a14, .i a15, .i a16, .i a17, .i a18, .s a19, .i a20, .s a21, .s a22, .l a23, .l a24, .l a25, .l a26, .l a27])) (
 none) := (Lim_eq _ _).trans (by kernel_rfl)
theorem k_spec_l4Pin : SigOk Tryz.prog (d_spec_l4Pin.sig (L_spec_l4Pin none)) ∧ (d_spec_l4Pin.sig (L_spec_l4Pin none)).ok = true := sound_lim (known_cons k_spec_l4Find (by kernel_rfl) known_nil) (by kernel_rfl) (by kernel_rfl) (by kernel_rfl)
def d_spec_l4Unpin : FD := { fn := 179, nb := 0, pre := ⟨[.ag [.i .i64 0, .i .i64 1, .i .i64 2, .i .i64 3, .fz 90 false 4, .fz 156 false 5, .ow 0], .sc (.s 6)], [.rw 158 false 7]⟩, post := ⟨[.ag [.i .i64 0, .i .i64 1, .i .i64 2, .i .i64 3, .i .i64 4, .fz 90 false 5, .ow 0, .ow 1, .s 6, .i .i64 7, .s 8, .s 9]], [.rw 156 true 10, .rw 158 false 11]⟩, sh := true, cuts := [⟨3, [1, 2, 4, 5, 6], ⟨[.sc (.s 0), .sc (.pt 0 0), .sc (.pt 1 0), .sc (.ow 2), .sc (.i .i64 1)], [.bx [.i .i64 2, .i .i64 3, .i .i64 4, .i .i64 5, .fz 90 false 6, .fz 156 false 7, .ow 3], .bx [.i .i64 8, .i .i64 9, .i .i64 10, .i .i64 11, .i .i64 12, .ow 4, .ow 5, .ow 6, .s 13, .i .i64 14, .s 15, .s 16], .rw 156 true 17, .rw 158 false 18, .rw 90 true 19, .rw 156 true 20, .rw 158 true 21]⟩⟩] }
noncomputable def L_spec_l4Unpin : Option Nat → Lv → Option Lv := Lim Tryz.prog [] d_spec_l4Unpin Tryz.f179
theorem e_spec_l4Unpin_i (a0 : Int) (a1 : Int) (a2 : Int) (a3 : Int) (a4 : Rw) (a5 : Rw) (a6 : ByteArray) (a7 : Rw) : L_spec_l4Unpin none [.i a0, .i a1, .i a2, .i a3, .l a4, .l a5, .s a6, .l a7] =
 L_spec_l4Unpin (some 3) [.s a6, .i 0, .i a0, .i a1, .i a2, .i a3, .l a4, .l a5, .i 0, .i 0, .i 0, .i 0, .i 0, .s (⟨#[]⟩ : ByteArray), .i 0, .s (⟨#[]⟩ : ByteArray), .s (⟨#[]⟩ : ByteArray), .l ([] : Rw), .l a7, .l [], .l [], .l []] := (Lim_eq _ _).trans (by kernel_rfl)
theorem e_spec_l4Unpin_3 (a0 : ByteArray) (a1 : Int) (a2 : Int) (a3 : Int) (a4 : Int) (a5 : Int) (a6 : Rw) (a7 : Rw) (a8 : Int) (a9 : Int) (a10 : Int) (a11 : Int) (a12 : Int) (a13 : ByteArray) (a14 : Int) (a15 : ByteArray) (a16 : ByteArray) (a17 : Rw) (a18 : Rw) (a19 : Rw) (a20 : Rw) (a21 : Rw) : L_spec_l4Unpin (some 3) [.s a0, .i a1, .i a2, .i a3, .i a4, .i a5, .l a6, .l a7, .i a8, .i a9, .i a10, .i a11, .i a12, .s a13, .i a14, .s a15, .s a16, .l a17, .l a18, .l a19, .l a20, .l a21] =
 cond (decide (a1 < (a7.length : Int))) (
 cond (inb a1 a7.length) (
 cond (!Eng.seq ((rd a7 a1.toNat 0).str) a0) (
 cond (inb a1 a7.length) (
 cond (decide (a17.length + ([[.s ((rd a7 a1.toNat 0).str), .s ((rd a7 a1.toNat 1).str)]] : Rw).length ≤ most)) (
 L_spec_l4Unpin (some 3) [.s a0, .i (IntKind.i64.wrap (a1 + 1)), .i a2, .i a3, .i a4, .i a5, .l a6, .l a7, .i a8, .i a9, .i a10, .i a11, .i a12, .s a13, .i a14, .s a15, .s a16, .l (a17 ++ ([[.s ((rd a7 a1.toNat 0).str), .s ((rd a7 a1.toNat 1).str)]] : Rw)), .l a18, .l a19, .l a20, .l a21]) (
 none)) (
 none)) (
 L_spec_l4Unpin (some 3) [.s a0, .i (IntKind.i64.wrap (a1 + 1)), .i a2, .i a3, .i a4, .i a5, .l a6, .l a7, .i a8, .i a9, .i a10, .i a11, .i a12, .s a13, .i a14, .s a15, .s a16, .l a17, .l a18, .l a19, .l a20, .l a21])) (
 none)) (
 cond ((a17.length : Int) == (a7.length : Int)) (
 some [.i 5, .i 0, .i 0, .i 0, .i 0, .l ([]), .s (⟨#[]⟩ : ByteArray), .i 0, .s (⟨#[]⟩ : ByteArray), .s (⟨#[]⟩ : ByteArray), .l [], .l []]) (
 some [.i 0, .i a2, .i a3, .i a4, .i a5, .l a6, .s (⟨#[]⟩ : ByteArray), .i 0, .s (⟨#[]⟩ : ByteArray), .s (⟨#[]⟩ : ByteArray), .l a17, .l a18])) := (Lim_eq _ _).trans (by kernel_rfl)
theorem k_spec_l4Unpin : SigOk Tryz.prog (d_spec_l4Unpin.sig (L_spec_l4Unpin none)) ∧ (d_spec_l4Unpin.sig (L_spec_l4Unpin none)).ok = true := sound_lim known_nil (by kernel_rfl) (by kernel_rfl) (by kernel_rfl)
def d_spec_l4Give : FD := { fn := 181, nb := 0, pre := ⟨[.ag [.i .i64 0, .i .i64 1, .i .i64 2, .i .i64 3, .fz 90 false 4, .fz 156 false 5, .ow 0], .sc (.i .i64 6)], [.rw 158 false 7]⟩, post := ⟨[.ag [.i .i64 0, .i .i64 1, .i .i64 2, .i .i64 3, .i .i64 4, .fz 90 false 5, .fz 156 false 6, .ow 0, .s 7, .i .i64 8, .s 9, .s 10]], [.rw 158 true 11]⟩, sh := true, cuts := [⟨3, [1, 2, 4, 5, 6], ⟨[.sc (.i .i64 0), .sc (.pt 0 0), .sc (.pt 1 0), .sc (.ow 2), .sc (.i .i64 1)], [.bx [.i .i64 2, .i .i64 3, .i .i64 4, .i .i64 5, .fz 90 false 6, .fz 156 false 7, .ow 3], .bx [.i .i64 8, .i .i64 9, .i .i64 10, .i .i64 11, .i .i64 12, .ow 4, .ow 5, .ow 6, .s 13, .i .i64 14, .s 15, .s 16], .rw 158 true 17, .rw 158 false 18, .rw 90 true 19, .rw 156 true 20, .rw 158 true 21]⟩⟩] }
noncomputable def L_spec_l4Give : Option Nat → Lv → Option Lv := Lim Tryz.prog [] d_spec_l4Give Tryz.f181
theorem e_spec_l4Give_i (a0 : Int) (a1 : Int) (a2 : Int) (a3 : Int) (a4 : Rw) (a5 : Rw) (a6 : Int) (a7 : Rw) : L_spec_l4Give none [.i a0, .i a1, .i a2, .i a3, .l a4, .l a5, .i a6, .l a7] =
 L_spec_l4Give (some 3) [.i a6, .i 0, .i a0, .i a1, .i a2, .i a3, .l a4, .l a5, .i 0, .i 0, .i 0, .i 0, .i 0, .s (⟨#[]⟩ : ByteArray), .i 0, .s (⟨#[]⟩ : ByteArray), .s (⟨#[]⟩ : ByteArray), .l ([] : Rw), .l a7, .l [], .l [], .l []] := (Lim_eq _ _).trans (by kernel_rfl)
theorem e_spec_l4Give_3 (a0 : Int) (a1 : Int) (a2 : Int) (a3 : Int) (a4 : Int) (a5 : Int) (a6 : Rw) (a7 : Rw) (a8 : Int) (a9 : Int) (a10 : Int) (a11 : Int) (a12 : Int) (a13 : ByteArray) (a14 : Int) (a15 : ByteArray) (a16 : ByteArray) (a17 : Rw) (a18 : Rw) (a19 : Rw) (a20 : Rw) (a21 : Rw) : L_spec_l4Give (some 3) [.i a0, .i a1, .i a2, .i a3, .i a4, .i a5, .l a6, .l a7, .i a8, .i a9, .i a10, .i a11, .i a12, .s a13, .i a14, .s a15, .s a16, .l a17, .l a18, .l a19, .l a20, .l a21] =
 cond (decide (a1 < (a18.length : Int))) (
 cond (inb a1 a18.length) (
 cond ((rd a18 a1.toNat 0).int != a0) (
 cond (inb a1 a18.length) (
 cond (decide (a17.length + ([[.i ((rd a18 a1.toNat 0).int), .s ((rd a18 a1.toNat 1).str), .i ((rd a18 a1.toNat 2).int)]] : Rw).length ≤ most)) (
 L_spec_l4Give (some 3) [.i a0, .i (IntKind.i64.wrap (a1 + 1)), .i a2, .i a3, .i a4, .i a5, .l a6, .l a7, .i a8, .i a9, .i a10, .i a11, .i a12, .s a13, .i a14, .s a15, .s a16, .l (a17 ++ ([[.i ((rd a18 a1.toNat 0).int), .s ((rd a18 a1.toNat 1).str), .i ((rd a18 a1.toNat 2).int)]] : Rw)), .l a18, .l a19, .l a20, .l a21]) (
 none)) (
 none)) (
 L_spec_l4Give (some 3) [.i a0, .i (IntKind.i64.wrap (a1 + 1)), .i a2, .i a3, .i a4, .i a5, .l a6, .l a7, .i a8, .i a9, .i a10, .i a11, .i a12, .s a13, .i a14, .s a15, .s a16, .l a17, .l a18, .l a19, .l a20, .l a21])) (
 none)) (
 cond ((a17.length : Int) == (a18.length : Int)) (
 some [.i 5, .i 0, .i 0, .i 0, .i 0, .l ([]), .l ([]), .s (⟨#[]⟩ : ByteArray), .i 0, .s (⟨#[]⟩ : ByteArray), .s (⟨#[]⟩ : ByteArray), .l []]) (
 some [.i 0, .i a2, .i a3, .i a4, .i a5, .l a6, .l a7, .s (⟨#[]⟩ : ByteArray), .i 0, .s (⟨#[]⟩ : ByteArray), .s (⟨#[]⟩ : ByteArray), .l a17])) := (Lim_eq _ _).trans (by kernel_rfl)
theorem k_spec_l4Give : SigOk Tryz.prog (d_spec_l4Give.sig (L_spec_l4Give none)) ∧ (d_spec_l4Give.sig (L_spec_l4Give none)).ok = true := sound_lim known_nil (by kernel_rfl) (by kernel_rfl) (by kernel_rfl)
def d_spec_l4Wait : FD := { fn := 182, nb := 0, pre := ⟨[.ag [.i .i64 0, .i .i64 1, .i .i64 2, .i .i64 3, .fz 90 false 4, .fz 156 false 5, .ow 0], .sc (.i .i64 6)], [.rw 158 false 7]⟩, post := ⟨[.ag [.i .i64 0, .i .i64 1, .i .i64 2, .i .i64 3, .i .i64 4, .fz 90 false 5, .fz 156 false 6, .ow 0, .s 7, .i .i64 8, .s 9, .s 10]], [.rw 158 true 11]⟩, sh := true, cuts := [⟨6, [2, 4, 5, 6], ⟨[.sc (.pt 0 0), .sc (.pt 1 0), .sc (.ow 2), .sc (.i .i64 0)], [.bx [.i .i64 1, .i .i64 2, .i .i64 3, .i .i64 4, .fz 90 false 5, .fz 156 false 6, .ow 3], .bx [.i .i64 7, .i .i64 8, .i .i64 9, .i .i64 10, .i .i64 11, .ow 4, .ow 5, .ow 6, .s 12, .i .i64 13, .s 14, .s 15], .rw 158 true 16, .rw 158 false 17, .rw 90 true 18, .rw 156 true 19, .rw 158 true 20]⟩⟩] }
noncomputable def L_spec_l4Wait : Option Nat → Lv → Option Lv := Lim Tryz.prog [] d_spec_l4Wait Tryz.f182
theorem e_spec_l4Wait_i (a0 : Int) (a1 : Int) (a2 : Int) (a3 : Int) (a4 : Rw) (a5 : Rw) (a6 : Int) (a7 : Rw) : L_spec_l4Wait none [.i a0, .i a1, .i a2, .i a3, .l a4, .l a5, .i a6, .l a7] =
 cond (decide (1000000000 < (IntKind.i64.wrap (a1 + a6)))) (
 some [.i 4, .i 0, .i 0, .i 0, .i 0, .l ([]), .l ([]), .s (⟨#[]⟩ : ByteArray), .i 0, .s (⟨#[]⟩ : ByteArray), .s (⟨#[]⟩ : ByteArray), .l []]) (
 L_spec_l4Wait (some 6) [.i 0, .i a0, .i (IntKind.i64.wrap (a1 + a6)), .i a2, .i a3, .l a4, .l a5, .i 0, .i 0, .i 0, .i 0, .i 0, .s (⟨#[]⟩ : ByteArray), .i 0, .s (⟨#[]⟩ : ByteArray), .s (⟨#[]⟩ : ByteArray), .l ([] : Rw), .l a7, .l [], .l [], .l []]) := (Lim_eq _ _).trans (by kernel_rfl)
theorem e_spec_l4Wait_6 (a0 : Int) (a1 : Int) (a2 : Int) (a3 : Int) (a4 : Int) (a5 : Rw) (a6 : Rw) (a7 : Int) (a8 : Int) (a9 : Int) (a10 : Int) (a11 : Int) (a12 : ByteArray) (a13 : Int) (a14 : ByteArray) (a15 : ByteArray) (a16 : Rw) (a17 : Rw) (a18 : Rw) (a19 : Rw) (a20 : Rw) : L_spec_l4Wait (some 6) [.i a0, .i a1, .i a2, .i a3, .i a4, .l a5, .l a6, .i a7, .i a8, .i a9, .i a10, .i a11, .s a12, .i a13, .s a14, .s a15, .l a16, .l a17, .l a18, .l a19, .l a20] =
 cond (decide (a0 < (a17.length : Int))) (
 cond (inb a0 a17.length) (
 cond (decide (a2 < (rd a17 a0.toNat 2).int)) (
 cond (inb a0 a17.length) (
 cond (decide (a16.length + ([[.i ((rd a17 a0.toNat 0).int), .s ((rd a17 a0.toNat 1).str), .i ((rd a17 a0.toNat 2).int)]] : Rw).length ≤ most)) (
 L_spec_l4Wait (some 6) [.i (IntKind.i64.wrap (a0 + 1)), .i a1, .i a2, .i a3, .i a4, .l a5, .l a6, .i a7, .i a8, .i a9, .i a10, .i a11, .s a12, .i a13, .s a14, .s a15, .l (a16 ++ ([[.i ((rd a17 a0.toNat 0).int), .s ((rd a17 a0.toNat 1).str), .i ((rd a17 a0.toNat 2).int)]] : Rw)), .l a17, .l a18, .l a19, .l a20]) (
 none)) (
 none)) (
 L_spec_l4Wait (some 6) [.i (IntKind.i64.wrap (a0 + 1)), .i a1, .i a2, .i a3, .i a4, .l a5, .l a6, .i a7, .i a8, .i a9, .i a10, .i a11, .s a12, .i a13, .s a14, .s a15, .l a16, .l a17, .l a18, .l a19, .l a20])) (
 none)) (
 some [.i 0, .i a1, .i a2, .i a3, .i a4, .l a5, .l a6, .s (⟨#[]⟩ : ByteArray), .i 0, .s (⟨#[]⟩ : ByteArray), .s (⟨#[]⟩ : ByteArray), .l a16]) := (Lim_eq _ _).trans (by kernel_rfl)
theorem k_spec_l4Wait : SigOk Tryz.prog (d_spec_l4Wait.sig (L_spec_l4Wait none)) ∧ (d_spec_l4Wait.sig (L_spec_l4Wait none)).ok = true := sound_lim known_nil (by kernel_rfl) (by kernel_rfl) (by kernel_rfl)
def d_spec_l4Has : FD := { fn := 130, nb := 0, pre := ⟨[.sc (.fz 9 false 0), .sc (.s 1)], []⟩, post := ⟨[.sc (.b 0)], []⟩, sh := false, cuts := [⟨2, [0, 1, 5], ⟨[.sc (.fz 9 false 0), .sc (.s 1), .sc (.i .i64 2)], []⟩⟩] }
noncomputable def L_spec_l4Has : Option Nat → Lv → Option Lv := Lim Tryz.prog [] d_spec_l4Has Tryz.f130
theorem e_spec_l4Has_i (a0 : Rw) (a1 : ByteArray) : L_spec_l4Has none [.l a0, .s a1] =
 L_spec_l4Has (some 2) [.l a0, .s a1, .i 0] := (Lim_eq _ _).trans (by kernel_rfl)
theorem e_spec_l4Has_2 (a0 : Rw) (a1 : ByteArray) (a2 : Int) : L_spec_l4Has (some 2) [.l a0, .s a1, .i a2] =
 cond (decide (a2 < (a0.length : Int))) (
 cond (inb a2 a0.length) (
 cond (Eng.seq ((rd a0 a2.toNat 0).str) a1) (
 some [.b true]) (
 L_spec_l4Has (some 2) [.l a0, .s a1, .i (IntKind.i64.wrap (a2 + 1))])) (
 none)) (
 some [.b false]) := (Lim_eq _ _).trans (by kernel_rfl)
theorem k_spec_l4Has : SigOk Tryz.prog (d_spec_l4Has.sig (L_spec_l4Has none)) ∧ (d_spec_l4Has.sig (L_spec_l4Has none)).ok = true := sound_lim known_nil (by kernel_rfl) (by kernel_rfl) (by kernel_rfl)
def d_spec_l4Held : FD := { fn := 220, nb := 0, pre := ⟨[.ag [.i .i64 0, .i .i64 1, .i .i64 2, .i .i64 3, .fz 90 false 4, .fz 156 false 5, .fz 158 false 6], .sc (.s 7)], []⟩, post := ⟨[.sc (.b 0)], []⟩, sh := false, cuts := [⟨2, [1, 2, 5], ⟨[.sc (.s 0), .sc (.pt 0 0), .sc (.i .i64 1)], [.bx [.i .i64 2, .i .i64 3, .i .i64 4, .i .i64 5, .fz 90 false 6, .fz 156 false 7, .fz 158 false 8]]⟩⟩, ⟨7, [1, 2, 6], ⟨[.sc (.s 0), .sc (.pt 0 0), .sc (.i .i64 1)], [.bx [.i .i64 2, .i .i64 3, .i .i64 4, .i .i64 5, .fz 90 false 6, .fz 156 false 7, .fz 158 false 8]]⟩⟩] }
noncomputable def L_spec_l4Held : Option Nat → Lv → Option Lv := Lim Tryz.prog [] d_spec_l4Held Tryz.f220
theorem e_spec_l4Held_i (a0 : Int) (a1 : Int) (a2 : Int) (a3 : Int) (a4 : Rw) (a5 : Rw) (a6 : Rw) (a7 : ByteArray) : L_spec_l4Held none [.i a0, .i a1, .i a2, .i a3, .l a4, .l a5, .l a6, .s a7] =
 L_spec_l4Held (some 2) [.s a7, .i 0, .i a0, .i a1, .i a2, .i a3, .l a4, .l a5, .l a6] := (Lim_eq _ _).trans (by kernel_rfl)
theorem e_spec_l4Held_2 (a0 : ByteArray) (a1 : Int) (a2 : Int) (a3 : Int) (a4 : Int) (a5 : Int) (a6 : Rw) (a7 : Rw) (a8 : Rw) : L_spec_l4Held (some 2) [.s a0, .i a1, .i a2, .i a3, .i a4, .i a5, .l a6, .l a7, .l a8] =
 cond (decide (a1 < (a7.length : Int))) (
 cond (inb a1 a7.length) (
 cond (Eng.seq ((rd a7 a1.toNat 1).str) a0) (
 some [.b true]) (
 L_spec_l4Held (some 2) [.s a0, .i (IntKind.i64.wrap (a1 + 1)), .i a2, .i a3, .i a4, .i a5, .l a6, .l a7, .l a8])) (
 none)) (
 L_spec_l4Held (some 7) [.s a0, .i 0, .i a2, .i a3, .i a4, .i a5, .l a6, .l a7, .l a8]) := (Lim_eq _ _).trans (by kernel_rfl)
theorem e_spec_l4Held_7 (a0 : ByteArray) (a1 : Int) (a2 : Int) (a3 : Int) (a4 : Int) (a5 : Int) (a6 : Rw) (a7 : Rw) (a8 : Rw) : L_spec_l4Held (some 7) [.s a0, .i a1, .i a2, .i a3, .i a4, .i a5, .l a6, .l a7, .l a8] =
 cond (decide (a1 < (a8.length : Int))) (
 cond (inb a1 a8.length) (
 cond (Eng.seq ((rd a8 a1.toNat 1).str) a0) (
 some [.b true]) (
 L_spec_l4Held (some 7) [.s a0, .i (IntKind.i64.wrap (a1 + 1)), .i a2, .i a3, .i a4, .i a5, .l a6, .l a7, .l a8])) (
 none)) (
 some [.b false]) := (Lim_eq _ _).trans (by kernel_rfl)
theorem k_spec_l4Held : SigOk Tryz.prog (d_spec_l4Held.sig (L_spec_l4Held none)) ∧ (d_spec_l4Held.sig (L_spec_l4Held none)).ok = true := sound_lim known_nil (by kernel_rfl) (by kernel_rfl) (by kernel_rfl)
end KV
end
section
set_option maxRecDepth 100000
namespace KV
open Go Go.Eng Go.Proofs
def d_spec_l4Drop : FD := { fn := 183, nb := 0, pre := ⟨[.ag [.i .i64 0, .i .i64 1, .i .i64 2, .i .i64 3, .fz 90 false 4, .fz 156 false 5, .ow 0], .sc (.s 6)], [.rw 158 false 7]⟩, post := ⟨[.ag [.i .i64 0, .i .i64 1, .i .i64 2, .i .i64 3, .i .i64 4, .ow 0, .fz 156 false 5, .ow 1, .s 6, .i .i64 7, .s 8, .s 9]], [.rw 90 false 10, .rw 158 false 11]⟩, sh := true, cuts := [⟨7, [1, 2, 4, 5, 6], ⟨[.sc (.s 0), .sc (.pt 0 0), .sc (.pt 1 0), .sc (.ow 2), .sc (.i .i64 1)], [.bx [.i .i64 2, .i .i64 3, .i .i64 4, .i .i64 5, .fz 90 false 6, .fz 156 false 7, .ow 3], .bx [.i .i64 8, .i .i64 9, .i .i64 10, .i .i64 11, .i .i64 12, .ow 4, .ow 5, .ow 6, .s 13, .i .i64 14, .s 15, .s 16], .rw 90 false 17, .rw 158 false 18, .rw 90 true 19, .rw 156 true 20, .rw 158 true 21]⟩⟩] }
noncomputable def L_spec_l4Drop : Option Nat → Lv → Option Lv := Lim Tryz.prog [d_spec_l4Find.sig (L_spec_l4Find none), d_spec_l4Has.sig (L_spec_l4Has none), d_spec_l4Held.sig (L_spec_l4Held none)] d_spec_l4Drop Tryz.f183
theorem e_spec_l4Drop_i (a0 : Int) (a1 : Int) (a2 : Int) (a3 : Int) (a4 : Rw) (a5 : Rw) (a6 : ByteArray) (a7 : Rw) : L_spec_l4Drop none [.i a0, .i a1, .i a2, .i a3, .l a4, .l a5, .s a6, .l a7] =
 (L_spec_l4Find none [.i a0, .i a1, .i a2, .i a3, .l a4, .l a5, .l a7, .s a6]).bind fun y1 =>
 cond (decide ((g y1 0).int < 0)) (
 some [.i 2, .i 0, .i 0, .i 0, .i 0, .l ([]), .s (⟨#[]⟩ : ByteArray), .i 0, .s (⟨#[]⟩ : ByteArray), .s (⟨#[]⟩ : ByteArray), .l [], .l []]) (
 (L_spec_l4Held none [.i a0, .i a1, .i a2, .i a3, .l a4, .l a5, .l a7, .s a6]).bind fun y2 =>
 cond ((g y2 0).bool) (
 some [.i 6, .i 0, .i 0, .i 0, .i 0, .l ([]), .s (⟨#[]⟩ : ByteArray), .i 0, .s (⟨#[]⟩ : ByteArray), .s (⟨#[]⟩ : ByteArray), .l [], .l []]) (
 L_spec_l4Drop (some 7) [.s a6, .i 0, .i a0, .i a1, .i a2, .i a3, .l a4, .l a5, .i 0, .i 0, .i 0, .i 0, .i 0, .s (⟨#[]⟩ : ByteArray), .i 0, .s (⟨#[]⟩ : ByteArray), .s (⟨#[]⟩ : ByteArray), .l ([] : Rw), .l a7, .l [], .l [], .l []])) := (Lim_eq _ _).trans (by kernel_rfl)
theorem e_spec_l4Drop_7 (a0 : ByteArray) (a1 : Int) (a2 : Int) (a3 : Int) (a4 : Int) (a5 : Int) (a6 : Rw) (a7 : Rw) (a8 : Int) (a9 : Int) (a10 : Int) (a11 : Int) (a12 : Int) (a13 : ByteArray) (a14 : Int) (a15 : ByteArray) (a16 : ByteArray) (a17 : Rw) (a18 : Rw) (a19 : Rw) (a20 : Rw) (a21 : Rw) : L_spec_l4Drop (some 7) [.s a0, .i a1, .i a2, .i a3, .i a4, .i a5, .l a6, .l a7, .i a8, .i a9, .i a10, .i a11, .i a12, .s a13, .i a14, .s a15, .s a16, .l a17, .l a18, .l a19, .l a20, .l a21] =
 cond (decide (a1 < (a6.length : Int))) (
 cond (inb a1 a6.length) (
 (L_spec_l4Has none [.l ((rd a6 a1.toNat 3).list), .s a0]).bind fun y1 =>
 cond ((g y1 0).bool) (
 some [.i 6, .i 0, .i 0, .i 0, .i 0, .l ([]), .s (⟨#[]⟩ : ByteArray), .i 0, .s (⟨#[]⟩ : ByteArray), .s (⟨#[]⟩ : ByteArray), .l [], .l []]) (
 cond (inb a1 a6.length) (
 cond (!Eng.seq ((rd a6 a1.toNat 0).str) a0) (
 cond (inb a1 a6.length) (
 cond (decide (a17.length + ([[.s ((rd a6 a1.toNat 0).str), .i ((rd a6 a1.toNat 1).int), .s ((rd a6 a1.toNat 2).str), .l ((rd a6 a1.toNat 3).list)]] : Rw).length ≤ most)) (
 L_spec_l4Drop (some 7) [.s a0, .i (IntKind.i64.wrap (a1 + 1)), .i a2, .i a3, .i a4, .i a5, .l a6, .l a7, .i a8, .i a9, .i a10, .i a11, .i a12, .s a13, .i a14, .s a15, .s a16, .l (a17 ++ ([[.s ((rd a6 a1.toNat 0).str), .i ((rd a6 a1.toNat 1).int), .s ((rd a6 a1.toNat 2).str), .l ((rd a6 a1.toNat 3).list)]] : Rw)), .l a18, .l a19, .l a20, .l a21]) (
 none)) (
 none)) (
 L_spec_l4Drop (some 7) [.s a0, .i (IntKind.i64.wrap (a1 + 1)), .i a2, .i a3, .i a4, .i a5, .l a6, .l a7, .i a8, .i a9, .i a10, .i a11, .i a12, .s a13, .i a14, .s a15, .s a16, .l a17, .l a18, .l a19, .l a20, .l a21])) (
 none))) (
 none)) (
 some [.i 0, .i a2, .i a3, .i a4, .i a5, .l a7, .s (⟨#[]⟩ : ByteArray), .i 0, .s (⟨#[]⟩ : ByteArray), .s (⟨#[]⟩ : ByteArray), .l a17, .l a18]) := (Lim_eq _ _).trans (by kernel_rfl)
theorem k_spec_l4Drop : SigOk Tryz.prog (d_spec_l4Drop.sig (L_spec_l4Drop none)) ∧ (d_spec_l4Drop.sig (L_spec_l4Drop none)).ok = true := sound_lim (known_cons k_spec_l4Find (by kernel_rfl) (known_cons k_spec_l4Has (by kernel_rfl) (known_cons k_spec_l4Held (by kernel_rfl) known_nil))) (by kernel_rfl) (by kernel_rfl) (by kernel_rfl)
def d_spec_l4Apply : FD := { fn := 114, nb := 0, pre := ⟨[.ag [.i .i64 0, .i .i64 1, .i .i64 2, .i .i64 3, .fz 90 false 4, .fz 156 false 5, .ow 0], .ag [.i .i64 6, .s 7, .s 8, .i .i64 9, .s 10, .fz 9 false 11]], [.rw 158 false 12]⟩, post := ⟨[.ag [.i .i64 0, .i .i64 1, .i .i64 2, .i .i64 3, .i .i64 4, .fz 90 false 5, .fz 156 false 6, .ow 0, .s 7, .i .i64 8, .s 9, .s 10]], [.rw 158 false 11]⟩, sh := true, cuts := [] }
noncomputable def L_spec_l4Apply : Option Nat → Lv → Option Lv := Lim Tryz.prog [d_spec_l4Copy.sig (L_spec_l4Copy none), d_spec_l4Find.sig (L_spec_l4Find none), d_spec_l4Lease.sig (L_spec_l4Lease none), d_spec_l4Put.sig (L_spec_l4Put none), d_spec_l4Pin.sig (L_spec_l4Pin none), d_spec_l4Unpin.sig (L_spec_l4Unpin none), d_spec_l4Give.sig (L_spec_l4Give none), d_spec_l4Wait.sig (L_spec_l4Wait none), d_spec_l4Drop.sig (L_spec_l4Drop none)] d_spec_l4Apply Tryz.f114
theorem e_spec_l4Apply_i (a0 : Int) (a1 : Int) (a2 : Int) (a3 : Int) (a4 : Rw) (a5 : Rw) (a6 : Int) (a7 : ByteArray) (a8 : ByteArray) (a9 : Int) (a10 : ByteArray) (a11 : Rw) (a12 : Rw) : L_spec_l4Apply none [.i a0, .i a1, .i a2, .i a3, .l a4, .l a5, .i a6, .s a7, .s a8, .i a9, .s a10, .l a11, .l a12] =
 cond (a6 == 1) (
 (L_spec_l4Put none [.i a0, .i a1, .i a2, .i a3, .l a4, .l a5, .i a6, .s a7, .s a8, .i a9, .s a10, .l a11, .l a12]).bind fun y1 =>
 some [.i ((g y1 0).int), .i ((g y1 1).int), .i ((g y1 2).int), .i ((g y1 3).int), .i ((g y1 4).int), .l ((g y1 5).list), .l ((g y1 6).list), .s ((g y1 7).str), .i ((g y1 8).int), .s ((g y1 9).str), .s ((g y1 10).str), .l ((g y1 11).list)]) (
 cond (a6 == 2) (
 (L_spec_l4Pin none [.i a0, .i a1, .i a2, .i a3, .l a4, .l a5, .i a6, .s a7, .s a8, .i a9, .s a10, .l a11, .l a12]).bind fun y2 =>
 some [.i ((g y2 0).int), .i ((g y2 1).int), .i ((g y2 2).int), .i ((g y2 3).int), .i ((g y2 4).int), .l ((g y2 5).list), .l ((g y2 10).list), .s ((g y2 6).str), .i ((g y2 7).int), .s ((g y2 8).str), .s ((g y2 9).str), .l ((g y2 11).list)]) (
 cond (a6 == 3) (
 (L_spec_l4Unpin none [.i a0, .i a1, .i a2, .i a3, .l a4, .l a5, .s a8, .l a12]).bind fun y3 =>
 some [.i ((g y3 0).int), .i ((g y3 1).int), .i ((g y3 2).int), .i ((g y3 3).int), .i ((g y3 4).int), .l ((g y3 5).list), .l ((g y3 10).list), .s ((g y3 6).str), .i ((g y3 7).int), .s ((g y3 8).str), .s ((g y3 9).str), .l ((g y3 11).list)]) (
 cond (a6 == 4) (
 (L_spec_l4Find none [.i a0, .i a1, .i a2, .i a3, .l a4, .l a5, .l a12, .s a7]).bind fun y4 =>
 cond (decide ((g y4 0).int < 0)) (
 some [.i 2, .i 0, .i 0, .i 0, .i 0, .l ([]), .l ([]), .s (⟨#[]⟩ : ByteArray), .i 0, .s (⟨#[]⟩ : ByteArray), .s (⟨#[]⟩ : ByteArray), .l []]) (
 (L_spec_l4Copy none [.i a0, .i a1, .i a2, .i a3, .l a4, .l a5, .l a12]).bind fun y5 =>
 (L_spec_l4Lease none [.i ((g y5 0).int), .i ((g y5 1).int), .i ((g y5 2).int), .i ((g y5 3).int), .l ((g y5 4).list), .l ((g y5 5).list), .s a7, .i a9, .l ((g y5 6).list)]).bind fun y6 =>
 some [.i ((g y6 0).int), .i ((g y6 1).int), .i ((g y6 2).int), .i ((g y6 3).int), .i ((g y6 4).int), .l ((g y6 5).list), .l ((g y6 6).list), .s ((g y6 7).str), .i ((g y6 8).int), .s ((g y6 9).str), .s ((g y6 10).str), .l ((g y6 11).list)])) (
 cond (a6 == 5) (
 (L_spec_l4Give none [.i a0, .i a1, .i a2, .i a3, .l a4, .l a5, .i a9, .l a12]).bind fun y7 =>
 some [.i ((g y7 0).int), .i ((g y7 1).int), .i ((g y7 2).int), .i ((g y7 3).int), .i ((g y7 4).int), .l ((g y7 5).list), .l ((g y7 6).list), .s ((g y7 7).str), .i ((g y7 8).int), .s ((g y7 9).str), .s ((g y7 10).str), .l ((g y7 11).list)]) (
 cond (a6 == 6) (
 (L_spec_l4Wait none [.i a0, .i a1, .i a2, .i a3, .l a4, .l a5, .i a9, .l a12]).bind fun y8 =>
 some [.i ((g y8 0).int), .i ((g y8 1).int), .i ((g y8 2).int), .i ((g y8 3).int), .i ((g y8 4).int), .l ((g y8 5).list), .l ((g y8 6).list), .s ((g y8 7).str), .i ((g y8 8).int), .s ((g y8 9).str), .s ((g y8 10).str), .l ((g y8 11).list)]) (
 (L_spec_l4Drop none [.i a0, .i a1, .i a2, .i a3, .l a4, .l a5, .s a7, .l a12]).bind fun y9 =>
 some [.i ((g y9 0).int), .i ((g y9 1).int), .i ((g y9 2).int), .i ((g y9 3).int), .i ((g y9 4).int), .l ((g y9 10).list), .l ((g y9 5).list), .s ((g y9 6).str), .i ((g y9 7).int), .s ((g y9 8).str), .s ((g y9 9).str), .l ((g y9 11).list)])))))) := (Lim_eq _ _).trans (by kernel_rfl)
theorem k_spec_l4Apply : SigOk Tryz.prog (d_spec_l4Apply.sig (L_spec_l4Apply none)) ∧ (d_spec_l4Apply.sig (L_spec_l4Apply none)).ok = true := sound_lim (known_cons k_spec_l4Copy (by kernel_rfl) (known_cons k_spec_l4Find (by kernel_rfl) (known_cons k_spec_l4Lease (by kernel_rfl) (known_cons k_spec_l4Put (by kernel_rfl) (known_cons k_spec_l4Pin (by kernel_rfl) (known_cons k_spec_l4Unpin (by kernel_rfl) (known_cons k_spec_l4Give (by kernel_rfl) (known_cons k_spec_l4Wait (by kernel_rfl) (known_cons k_spec_l4Drop (by kernel_rfl) known_nil))))))))) (by kernel_rfl) (by kernel_rfl) (by kernel_rfl)
def d_spec_Replay : FD := { fn := 34, nb := 0, pre := ⟨[.sc (.i .i64 0), .sc (.fz 9 false 1)], []⟩, post := ⟨[.ag [.i .i64 0, .i .i64 1, .i .i64 2, .i .i64 3, .i .i64 4, .ow 0, .ow 1, .ow 2, .s 5, .i .i64 6, .s 7, .s 8]], [.rw 90 true 9, .rw 156 true 10, .rw 158 true 11]⟩, sh := false, cuts := [⟨5, [0, 1, 4, 5, 6], ⟨[.sc (.i .i64 0), .sc (.fz 9 false 1), .sc (.pt 0 0), .sc (.pt 1 0), .sc (.i .i64 2)], [.bx [.i .i64 3, .i .i64 4, .i .i64 5, .i .i64 6, .i .i64 7, .ow 2, .ow 3, .ow 4, .s 8, .i .i64 9, .s 10, .s 11], .bx [.i .i64 12, .i .i64 13, .i .i64 14, .i .i64 15, .fz 90 true 16, .fz 156 true 17, .ow 5], .rw 90 true 18, .rw 156 true 19, .rw 158 true 20, .rw 158 true 21]⟩⟩] }
noncomputable def L_spec_Replay : Option Nat → Lv → Option Lv := Lim Tryz.prog [d_spec_l1Width.sig (L_spec_l1Width none), d_spec_ReadEntry.sig (L_spec_ReadEntry none), d_spec_l4Copy.sig (L_spec_l4Copy none), d_spec_l4Apply.sig (L_spec_l4Apply none)] d_spec_Replay Tryz.f34
theorem e_spec_Replay_i (a0 : Int) (a1 : Rw) : L_spec_Replay none [.i a0, .l a1] =
 (L_spec_l1Width none [.i a0]).bind fun y1 =>
 cond (!(g y1 0).bool) (
 some [.i 1, .i 0, .i 0, .i 0, .i 0, .s (⟨#[]⟩ : ByteArray), .i 0, .s (⟨#[]⟩ : ByteArray), .s (⟨#[]⟩ : ByteArray), .l [], .l [], .l []]) (
 cond (decide (4000 < (a1.length : Int))) (
 some [.i 1, .i 0, .i 0, .i 0, .i 0, .s (⟨#[]⟩ : ByteArray), .i 0, .s (⟨#[]⟩ : ByteArray), .s (⟨#[]⟩ : ByteArray), .l [], .l [], .l []]) (
 L_spec_Replay (some 5) [.i a0, .l a1, .i 0, .i 0, .i 0, .i 0, .i 0, .i 0, .s (⟨#[]⟩ : ByteArray), .i 0, .s (⟨#[]⟩ : ByteArray), .s (⟨#[]⟩ : ByteArray), .i a0, .i 0, .i 0, .i 0, .l ([]), .l ([]), .l [], .l [], .l [], .l []])) := (Lim_eq _ _).trans (by kernel_rfl)
theorem e_spec_Replay_5 (a0 : Int) (a1 : Rw) (a2 : Int) (a3 : Int) (a4 : Int) (a5 : Int) (a6 : Int) (a7 : Int) (a8 : ByteArray) (a9 : Int) (a10 : ByteArray) (a11 : ByteArray) (a12 : Int) (a13 : Int) (a14 : Int) (a15 : Int) (a16 : Rw) (a17 : Rw) (a18 : Rw) (a19 : Rw) (a20 : Rw) (a21 : Rw) : L_spec_Replay (some 5) [.i a0, .l a1, .i a2, .i a3, .i a4, .i a5, .i a6, .i a7, .s a8, .i a9, .s a10, .s a11, .i a12, .i a13, .i a14, .i a15, .l a16, .l a17, .l a18, .l a19, .l a20, .l a21] =
 cond (decide (a2 < (a1.length : Int))) (
 cond (inb a2 a1.length) (
 (L_spec_ReadEntry none [.s ((rd a1 a2.toNat 0).str), .i a0]).bind fun y1 =>
 cond (!(g y1 5).bool) (
 some [.i 7, .i 0, .i 0, .i 0, .i 0, .s (⟨#[]⟩ : ByteArray), .i (IntKind.i64.wrap (a2 + 1)), .s (⟨#[]⟩ : ByteArray), .s (⟨#[]⟩ : ByteArray), .l [], .l [], .l []]) (
 (L_spec_l4Apply none [.i a12, .i a13, .i a14, .i a15, .l a16, .l a17, .i ((g y1 0).int), .s ((g y1 1).str), .s ((g y1 2).str), .i ((g y1 3).int), .s ((g y1 4).str), .l ((g y1 6).list), .l a21]).bind fun y2 =>
 cond ((g y2 0).int != 0) (
 some [.i 7, .i 0, .i 0, .i 0, .i 0, .s (⟨#[]⟩ : ByteArray), .i (IntKind.i64.wrap (a2 + 1)), .s (⟨#[]⟩ : ByteArray), .s (⟨#[]⟩ : ByteArray), .l [], .l [], .l []]) (
 L_spec_Replay (some 5) [.i a0, .l a1, .i (IntKind.i64.wrap (a2 + 1)), .i a3, .i a4, .i a5, .i a6, .i a7, .s a8, .i a9, .s a10, .s a11, .i ((g y2 1).int), .i ((g y2 2).int), .i ((g y2 3).int), .i ((g y2 4).int), .l ((g y2 5).list), .l ((g y2 6).list), .l a18, .l a19, .l a20, .l ((g y2 11).list)]))) (
 none)) (
 (L_spec_l4Copy none [.i a12, .i a13, .i a14, .i a15, .l a16, .l a17, .l a21]).bind fun y3 =>
 some [.i 0, .i ((g y3 0).int), .i ((g y3 1).int), .i ((g y3 2).int), .i ((g y3 3).int), .s (⟨#[]⟩ : ByteArray), .i 0, .s (⟨#[]⟩ : ByteArray), .s (⟨#[]⟩ : ByteArray), .l ((g y3 4).list), .l ((g y3 5).list), .l ((g y3 6).list)]) := (Lim_eq _ _).trans (by kernel_rfl)
theorem k_spec_Replay : SigOk Tryz.prog (d_spec_Replay.sig (L_spec_Replay none)) ∧ (d_spec_Replay.sig (L_spec_Replay none)).ok = true := sound_lim (known_cons k_spec_l1Width (by kernel_rfl) (known_cons k_spec_ReadEntry (by kernel_rfl) (known_cons k_spec_l4Copy (by kernel_rfl) (known_cons k_spec_l4Apply (by kernel_rfl) known_nil)))) (by kernel_rfl) (by kernel_rfl) (by kernel_rfl)
def d_spec_l4Range : FD := { fn := 87, nb := 0, pre := ⟨[.sc (.i .i64 0), .sc (.i .i64 1), .sc (.i .i64 2)], []⟩, post := ⟨[.sc (.b 0)], []⟩, sh := false, cuts := [] }
noncomputable def L_spec_l4Range : Option Nat → Lv → Option Lv := Lim Tryz.prog [] d_spec_l4Range Tryz.f87
theorem e_spec_l4Range_i (a0 : Int) (a1 : Int) (a2 : Int) : L_spec_l4Range none [.i a0, .i a1, .i a2] =
 cond (decide (a1 ≤ a0)) (
 some [.b (decide (a0 ≤ a2))]) (
 some [.b false]) := (Lim_eq _ _).trans (by kernel_rfl)
theorem k_spec_l4Range : SigOk Tryz.prog (d_spec_l4Range.sig (L_spec_l4Range none)) ∧ (d_spec_l4Range.sig (L_spec_l4Range none)).ok = true := sound_lim known_nil (by kernel_rfl) (by kernel_rfl) (by kernel_rfl)
def d_spec_ValidLog : FD := { fn := 88, nb := 0, pre := ⟨[.ag [.fz 9 false 0, .fz 9 false 1]], []⟩, post := ⟨[.sc (.b 0)], []⟩, sh := false, cuts := [⟨2, [1, 3], ⟨[.sc (.pt 0 0), .sc (.i .i64 0)], [.bx [.fz 9 false 1, .fz 9 false 2]]⟩⟩, ⟨7, [1, 4], ⟨[.sc (.pt 0 0), .sc (.i .i64 0)], [.bx [.fz 9 false 1, .fz 9 false 2]]⟩⟩] }
noncomputable def L_spec_ValidLog : Option Nat → Lv → Option Lv := Lim Tryz.prog [] d_spec_ValidLog Tryz.f88
theorem e_spec_ValidLog_i (a0 : Rw) (a1 : Rw) : L_spec_ValidLog none [.l a0, .l a1] =
 L_spec_ValidLog (some 2) [.i 0, .l a0, .l a1] := (Lim_eq _ _).trans (by kernel_rfl)
theorem e_spec_ValidLog_2 (a0 : Int) (a1 : Rw) (a2 : Rw) : L_spec_ValidLog (some 2) [.i a0, .l a1, .l a2] =
 cond (decide (a0 < (a1.length : Int))) (
 cond (inb a0 a1.length) (
 cond (decide (5000 < (((rd a1 a0.toNat 0).str).size : Int))) (
 some [.b false]) (
 L_spec_ValidLog (some 2) [.i (IntKind.i64.wrap (a0 + 1)), .l a1, .l a2])) (
 none)) (
 L_spec_ValidLog (some 7) [.i 0, .l a1, .l a2]) := (Lim_eq _ _).trans (by kernel_rfl)
theorem e_spec_ValidLog_7 (a0 : Int) (a1 : Rw) (a2 : Rw) : L_spec_ValidLog (some 7) [.i a0, .l a1, .l a2] =
 cond (decide (a0 < (a2.length : Int))) (
 cond (inb a0 a2.length) (
 cond (decide (5000 < (((rd a2 a0.toNat 0).str).size : Int))) (
 some [.b false]) (
 L_spec_ValidLog (some 7) [.i (IntKind.i64.wrap (a0 + 1)), .l a1, .l a2])) (
 none)) (
 some [.b (decide ((IntKind.i64.wrap ((a1.length : Int) + (a2.length : Int))) ≤ 4000))]) := (Lim_eq _ _).trans (by kernel_rfl)
theorem k_spec_ValidLog : SigOk Tryz.prog (d_spec_ValidLog.sig (L_spec_ValidLog none)) ∧ (d_spec_ValidLog.sig (L_spec_ValidLog none)).ok = true := sound_lim known_nil (by kernel_rfl) (by kernel_rfl) (by kernel_rfl)
def d_spec_l7All : FD := { fn := 89, nb := 0, pre := ⟨[.ag [.fz 9 false 0, .fz 9 false 1]], []⟩, post := ⟨[.sc (.ow 0)], [.rw 9 true 0]⟩, sh := false, cuts := [] }
noncomputable def L_spec_l7All : Option Nat → Lv → Option Lv := Lim Tryz.prog [] d_spec_l7All Tryz.f89
theorem e_spec_l7All_i (a0 : Rw) (a1 : Rw) : L_spec_l7All none [.l a0, .l a1] =
 cond (decide (([] : Rw).length + a0.length ≤ most)) (
 cond (decide ((([] : Rw) ++ a0).length + a1.length ≤ most)) (
 some [.l ((([] : Rw) ++ a0) ++ a1)]) (
 none)) (
 none) := (Lim_eq _ _).trans (by kernel_rfl)
theorem k_spec_l7All : SigOk Tryz.prog (d_spec_l7All.sig (L_spec_l7All none)) ∧ (d_spec_l7All.sig (L_spec_l7All none)).ok = true := sound_lim known_nil (by kernel_rfl) (by kernel_rfl) (by kernel_rfl)
def d_spec_l7SameThing : FD := { fn := 155, nb := 0, pre := ⟨[.ag [.s 0, .fz 9 false 1], .ag [.s 2, .fz 9 false 3]], []⟩, post := ⟨[.sc (.b 0)], []⟩, sh := false, cuts := [⟨4, [2, 3, 5], ⟨[.sc (.pt 0 0), .sc (.pt 1 0), .sc (.i .i64 0)], [.bx [.s 1, .fz 9 false 2], .bx [.s 3, .fz 9 false 4]]⟩⟩] }
noncomputable def L_spec_l7SameThing : Option Nat → Lv → Option Lv := Lim Tryz.prog [] d_spec_l7SameThing Tryz.f155
theorem e_spec_l7SameThing_i (a0 : ByteArray) (a1 : Rw) (a2 : ByteArray) (a3 : Rw) : L_spec_l7SameThing none [.s a0, .l a1, .s a2, .l a3] =
 cond (!Eng.seq a0 a2) (
 some [.b false]) (
 cond ((a1.length : Int) != (a3.length : Int)) (
 some [.b false]) (
 L_spec_l7SameThing (some 4) [.i 0, .s a0, .l a1, .s a2, .l a3])) := (Lim_eq _ _).trans (by kernel_rfl)
theorem e_spec_l7SameThing_4 (a0 : Int) (a1 : ByteArray) (a2 : Rw) (a3 : ByteArray) (a4 : Rw) : L_spec_l7SameThing (some 4) [.i a0, .s a1, .l a2, .s a3, .l a4] =
 cond (decide (a0 < (a2.length : Int))) (
 cond (inb a0 a2.length) (
 cond (inb a0 a4.length) (
 cond (!Eng.seq ((rd a2 a0.toNat 0).str) ((rd a4 a0.toNat 0).str)) (
 some [.b false]) (
 L_spec_l7SameThing (some 4) [.i (IntKind.i64.wrap (a0 + 1)), .s a1, .l a2, .s a3, .l a4])) (
 none)) (
 none)) (
 some [.b true]) := (Lim_eq _ _).trans (by kernel_rfl)
theorem k_spec_l7SameThing : SigOk Tryz.prog (d_spec_l7SameThing.sig (L_spec_l7SameThing none)) ∧ (d_spec_l7SameThing.sig (L_spec_l7SameThing none)).ok = true := sound_lim known_nil (by kernel_rfl) (by kernel_rfl) (by kernel_rfl)
def d_spec_l7SameState : FD := { fn := 90, nb := 0, pre := ⟨[.ag [.i .i64 0, .i .i64 1, .i .i64 2, .i .i64 3, .fz 90 false 4, .fz 156 false 5, .fz 158 false 6], .ag [.i .i64 7, .i .i64 8, .i .i64 9, .i .i64 10, .fz 90 false 11, .fz 156 false 12, .fz 158 false 13]], []⟩, post := ⟨[.sc (.b 0)], []⟩, sh := false, cuts := [⟨4, [2, 3, 5], ⟨[.sc (.pt 0 0), .sc (.pt 1 0), .sc (.i .i64 0)], [.bx [.i .i64 1, .i .i64 2, .i .i64 3, .i .i64 4, .fz 90 false 5, .fz 156 false 6, .fz 158 false 7], .bx [.i .i64 8, .i .i64 9, .i .i64 10, .i .i64 11, .fz 90 false 12, .fz 156 false 13, .fz 158 false 14]]⟩⟩, ⟨9, [2, 3, 6], ⟨[.sc (.pt 0 0), .sc (.pt 1 0), .sc (.i .i64 0)], [.bx [.i .i64 1, .i .i64 2, .i .i64 3, .i .i64 4, .fz 90 false 5, .fz 156 false 6, .fz 158 false 7], .bx [.i .i64 8, .i .i64 9, .i .i64 10, .i .i64 11, .fz 90 false 12, .fz 156 false 13, .fz 158 false 14]]⟩⟩, ⟨14, [2, 3, 7], ⟨[.sc (.pt 0 0), .sc (.pt 1 0), .sc (.i .i64 0)], [.bx [.i .i64 1, .i .i64 2, .i .i64 3, .i .i64 4, .fz 90 false 5, .fz 156 false 6, .fz 158 false 7], .bx [.i .i64 8, .i .i64 9, .i .i64 10, .i .i64 11, .fz 90 false 12, .fz 156 false 13, .fz 158 false 14]]⟩⟩] }
noncomputable def L_spec_l7SameState : Option Nat → Lv → Option Lv := Lim Tryz.prog [d_spec_l7SameThing.sig (L_spec_l7SameThing none)] d_spec_l7SameState Tryz.f90
theorem e_spec_l7SameState_i (a0 : Int) (a1 : Int) (a2 : Int) (a3 : Int) (a4 : Rw) (a5 : Rw) (a6 : Rw) (a7 : Int) (a8 : Int) (a9 : Int) (a10 : Int) (a11 : Rw) (a12 : Rw) (a13 : Rw) : L_spec_l7SameState none [.i a0, .i a1, .i a2, .i a3, .l a4, .l a5, .l a6, .i a7, .i a8, .i a9, .i a10, .l a11, .l a12, .l a13] =
 cond (a0 != a7) (
 some [.b false]) (
 cond (a1 != a8) (
 some [.b false]) (
 cond (a2 != a9) (
 some [.b false]) (
 cond (a3 != a10) (
 some [.b false]) (
 cond ((a4.length : Int) != (a11.length : Int)) (
 some [.b false]) (
 cond ((a5.length : Int) != (a12.length : Int)) (
 some [.b false]) (
 cond ((a6.length : Int) != (a13.length : Int)) (
 some [.b false]) (
 L_spec_l7SameState (some 4) [.i 0, .i a0, .i a1, .i a2, .i a3, .l a4, .l a5, .l a6, .i a7, .i a8, .i a9, .i a10, .l a11, .l a12, .l a13]))))))) := (Lim_eq _ _).trans (by kernel_rfl)
theorem e_spec_l7SameState_4 (a0 : Int) (a1 : Int) (a2 : Int) (a3 : Int) (a4 : Int) (a5 : Rw) (a6 : Rw) (a7 : Rw) (a8 : Int) (a9 : Int) (a10 : Int) (a11 : Int) (a12 : Rw) (a13 : Rw) (a14 : Rw) : L_spec_l7SameState (some 4) [.i a0, .i a1, .i a2, .i a3, .i a4, .l a5, .l a6, .l a7, .i a8, .i a9, .i a10, .i a11, .l a12, .l a13, .l a14] =
 cond (decide (a0 < (a5.length : Int))) (
 cond (inb a0 a5.length) (
 cond (inb a0 a12.length) (
 cond (!Eng.seq ((rd a5 a0.toNat 0).str) ((rd a12 a0.toNat 0).str)) (
 some [.b false]) (
 cond (inb a0 a5.length) (
 cond (inb a0 a12.length) (
 cond ((rd a5 a0.toNat 1).int != (rd a12 a0.toNat 1).int) (
 some [.b false]) (
 cond (inb a0 a5.length) (
 cond (inb a0 a12.length) (
 (L_spec_l7SameThing none [.s ((rd a5 a0.toNat 2).str), .l ((rd a5 a0.toNat 3).list), .s ((rd a12 a0.toNat 2).str), .l ((rd a12 a0.toNat 3).list)]).bind fun y1 =>
 cond (!(g y1 0).bool) (
 some [.b false]) (
 L_spec_l7SameState (some 4) [.i (IntKind.i64.wrap (a0 + 1)), .i a1, .i a2, .i a3, .i a4, .l a5, .l a6, .l a7, .i a8, .i a9, .i a10, .i a11, .l a12, .l a13, .l a14])) (
 none)) (
 none))) (
 none)) (
 none))) (
 none)) (
 none)) (
 L_spec_l7SameState (some 9) [.i 0, .i a1, .i a2, .i a3, .i a4, .l a5, .l a6, .l a7, .i a8, .i a9, .i a10, .i a11, .l a12, .l a13, .l a14]) := (Lim_eq _ _).trans (by kernel_rfl)
theorem e_spec_l7SameState_9 (a0 : Int) (a1 : Int) (a2 : Int) (a3 : Int) (a4 : Int) (a5 : Rw) (a6 : Rw) (a7 : Rw) (a8 : Int) (a9 : Int) (a10 : Int) (a11 : Int) (a12 : Rw) (a13 : Rw) (a14 : Rw) : L_spec_l7SameState (some 9) [.i a0, .i a1, .i a2, .i a3, .i a4, .l a5, .l a6, .l a7, .i a8, .i a9, .i a10, .i a11, .l a12, .l a13, .l a14] =
 cond (decide (a0 < (a6.length : Int))) (
 cond (inb a0 a6.length) (
 cond (inb a0 a13.length) (
 cond (!((Eng.seq ((rd a6 a0.toNat 0).str) ((rd a13 a0.toNat 0).str)) && ((Eng.seq ((rd a6 a0.toNat 1).str) ((rd a13 a0.toNat 1).str)) && true))) (
 some [.b false]) (
 L_spec_l7SameState (some 9) [.i (IntKind.i64.wrap (a0 + 1)), .i a1, .i a2, .i a3, .i a4, .l a5, .l a6, .l a7, .i a8, .i a9, .i a10, .i a11, .l a12, .l a13, .l a14])) (
 none)) (
 none)) (
 L_spec_l7SameState (some 14) [.i 0, .i a1, .i a2, .i a3, .i a4, .l a5, .l a6, .l a7, .i a8, .i a9, .i a10, .i a11, .l a12, .l a13, .l a14]) := (Lim_eq _ _).trans (by kernel_rfl)
theorem e_spec_l7SameState_14 (a0 : Int) (a1 : Int) (a2 : Int) (a3 : Int) (a4 : Int) (a5 : Rw) (a6 : Rw) (a7 : Rw) (a8 : Int) (a9 : Int) (a10 : Int) (a11 : Int) (a12 : Rw) (a13 : Rw) (a14 : Rw) : L_spec_l7SameState (some 14) [.i a0, .i a1, .i a2, .i a3, .i a4, .l a5, .l a6, .l a7, .i a8, .i a9, .i a10, .i a11, .l a12, .l a13, .l a14] =
 cond (decide (a0 < (a7.length : Int))) (
 cond (inb a0 a7.length) (
 cond (inb a0 a14.length) (
 cond (!(((rd a7 a0.toNat 0).int == (rd a14 a0.toNat 0).int) && ((Eng.seq ((rd a7 a0.toNat 1).str) ((rd a14 a0.toNat 1).str)) && (((rd a7 a0.toNat 2).int == (rd a14 a0.toNat 2).int) && true)))) (
 some [.b false]) (
 L_spec_l7SameState (some 14) [.i (IntKind.i64.wrap (a0 + 1)), .i a1, .i a2, .i a3, .i a4, .l a5, .l a6, .l a7, .i a8, .i a9, .i a10, .i a11, .l a12, .l a13, .l a14])) (
 none)) (
 none)) (
 some [.b true]) := (Lim_eq _ _).trans (by kernel_rfl)
theorem k_spec_l7SameState : SigOk Tryz.prog (d_spec_l7SameState.sig (L_spec_l7SameState none)) ∧ (d_spec_l7SameState.sig (L_spec_l7SameState none)).ok = true := sound_lim (known_cons k_spec_l7SameThing (by kernel_rfl) known_nil) (by kernel_rfl) (by kernel_rfl) (by kernel_rfl)
def d_spec_l6Ok : FD := { fn := 91, nb := 0, pre := ⟨[.ag [.i .i64 0, .i .i64 1, .i .i64 2, .i .i64 3, .fz 90 false 4, .fz 156 false 5, .fz 158 false 6], .ag [.i .i64 7, .fz 9 false 8, .fz 9 false 9, .i .i64 10, .i .i64 11, .i .i64 12]], []⟩, post := ⟨[.sc (.b 0)], []⟩, sh := false, cuts := [⟨4, [2, 3, 5], ⟨[.sc (.pt 0 0), .sc (.pt 1 0), .sc (.i .i64 0)], [.bx [.i .i64 1, .i .i64 2, .i .i64 3, .i .i64 4, .fz 90 false 5, .fz 156 false 6, .fz 158 false 7], .bx [.i .i64 8, .fz 9 false 9, .fz 9 false 10, .i .i64 11, .i .i64 12, .i .i64 13]]⟩⟩, ⟨9, [2, 3, 6], ⟨[.sc (.pt 0 0), .sc (.pt 1 0), .sc (.i .i64 0)], [.bx [.i .i64 1, .i .i64 2, .i .i64 3, .i .i64 4, .fz 90 false 5, .fz 156 false 6, .fz 158 false 7], .bx [.i .i64 8, .fz 9 false 9, .fz 9 false 10, .i .i64 11, .i .i64 12, .i .i64 13]]⟩⟩] }
noncomputable def L_spec_l6Ok : Option Nat → Lv → Option Lv := Lim Tryz.prog [d_spec_l4Has.sig (L_spec_l4Has none), d_spec_l4Range.sig (L_spec_l4Range none)] d_spec_l6Ok Tryz.f91
theorem e_spec_l6Ok_i (a0 : Int) (a1 : Int) (a2 : Int) (a3 : Int) (a4 : Rw) (a5 : Rw) (a6 : Rw) (a7 : Int) (a8 : Rw) (a9 : Rw) (a10 : Int) (a11 : Int) (a12 : Int) : L_spec_l6Ok none [.i a0, .i a1, .i a2, .i a3, .l a4, .l a5, .l a6, .i a7, .l a8, .l a9, .i a10, .i a11, .i a12] =
 cond (decide (a7 < 0)) (
 some [.b false]) (
 cond (decide (2 < a7)) (
 some [.b false]) (
 (L_spec_l4Range none [.i a12, .i 0, .i 1000000000]).bind fun y1 =>
 cond (!(g y1 0).bool) (
 some [.b false]) (
 cond (decide (23200 < (a8.length : Int))) (
 some [.b false]) (
 cond (decide (600 < (a9.length : Int))) (
 some [.b false]) (
 L_spec_l6Ok (some 4) [.i 0, .i a0, .i a1, .i a2, .i a3, .l a4, .l a5, .l a6, .i a7, .l a8, .l a9, .i a10, .i a11, .i a12]))))) := (Lim_eq _ _).trans (by kernel_rfl)
theorem e_spec_l6Ok_4 (a0 : Int) (a1 : Int) (a2 : Int) (a3 : Int) (a4 : Int) (a5 : Rw) (a6 : Rw) (a7 : Rw) (a8 : Int) (a9 : Rw) (a10 : Rw) (a11 : Int) (a12 : Int) (a13 : Int) : L_spec_l6Ok (some 4) [.i a0, .i a1, .i a2, .i a3, .i a4, .l a5, .l a6, .l a7, .i a8, .l a9, .l a10, .i a11, .i a12, .i a13] =
 cond (decide (a0 < (a9.length : Int))) (
 cond (inb a0 a9.length) (
 cond ((((rd a9 a0.toNat 0).str).size : Int) != a1) (
 some [.b false]) (
 L_spec_l6Ok (some 4) [.i (IntKind.i64.wrap (a0 + 1)), .i a1, .i a2, .i a3, .i a4, .l a5, .l a6, .l a7, .i a8, .l a9, .l a10, .i a11, .i a12, .i a13])) (
 none)) (
 L_spec_l6Ok (some 9) [.i 0, .i a1, .i a2, .i a3, .i a4, .l a5, .l a6, .l a7, .i a8, .l a9, .l a10, .i a11, .i a12, .i a13]) := (Lim_eq _ _).trans (by kernel_rfl)
theorem e_spec_l6Ok_9 (a0 : Int) (a1 : Int) (a2 : Int) (a3 : Int) (a4 : Int) (a5 : Rw) (a6 : Rw) (a7 : Rw) (a8 : Int) (a9 : Rw) (a10 : Rw) (a11 : Int) (a12 : Int) (a13 : Int) : L_spec_l6Ok (some 9) [.i a0, .i a1, .i a2, .i a3, .i a4, .l a5, .l a6, .l a7, .i a8, .l a9, .l a10, .i a11, .i a12, .i a13] =
 cond (decide (a0 < (a10.length : Int))) (
 cond (inb a0 a10.length) (
 cond ((((rd a10 a0.toNat 0).str).size : Int) != a1) (
 some [.b false]) (
 cond (decide (0 ≤ a0)) (
 cond (decide (a0 ≤ (a10.length : Int))) (
 cond (inb a0 a10.length) (
 (L_spec_l4Has none [.l (Eng.sub a10 0 a0.toNat), .s ((rd a10 a0.toNat 0).str)]).bind fun y1 =>
 cond ((g y1 0).bool) (
 some [.b false]) (
 L_spec_l6Ok (some 9) [.i (IntKind.i64.wrap (a0 + 1)), .i a1, .i a2, .i a3, .i a4, .l a5, .l a6, .l a7, .i a8, .l a9, .l a10, .i a11, .i a12, .i a13])) (
 none)) (
 none)) (
 none))) (
 none)) (
 cond (a8 == 0) (
 cond ((a9.length : Int) == 0) (
 cond ((a10.length : Int) == 0) (
 cond (a11 == 0) (
 some [.b (a12 == 0)]) (
 some [.b false])) (
 some [.b false])) (
 some [.b false])) (
 (L_spec_l4Range none [.i a11, .i 0, .i a4]).bind fun y2 =>
 cond (!(g y2 0).bool) (
 some [.b false]) (
 (L_spec_l4Range none [.i a12, .i 1, .i (IntKind.i64.wrap (a11 + 1))]).bind fun y3 =>
 cond (!(g y3 0).bool) (
 some [.b false]) (
 cond (a8 == 2) (
 some [.b true]) (
 some [.b (a12 == (IntKind.i64.wrap (a11 + 1)))]))))) := (Lim_eq _ _).trans (by kernel_rfl)
theorem k_spec_l6Ok : SigOk Tryz.prog (d_spec_l6Ok.sig (L_spec_l6Ok none)) ∧ (d_spec_l6Ok.sig (L_spec_l6Ok none)).ok = true := sound_lim (known_cons k_spec_l4Has (by kernel_rfl) (known_cons k_spec_l4Range (by kernel_rfl) known_nil)) (by kernel_rfl) (by kernel_rfl) (by kernel_rfl)
def d_spec_ValidVault : FD := { fn := 19, nb := 0, pre := ⟨[.ag [.i .i64 0, .i .i64 1, .fz 9 false 2, .fz 9 false 3, .i .i64 4, .i .i64 5, .i .i64 6, .i .i64 7, .fz 90 false 8, .fz 156 false 9, .fz 158 false 10, .i .i64 11, .fz 9 false 12, .fz 9 false 13, .i .i64 14, .i .i64 15, .i .i64 16]], []⟩, post := ⟨[.sc (.b 0)], []⟩, sh := false, cuts := [] }
noncomputable def L_spec_ValidVault : Option Nat → Lv → Option Lv := Lim Tryz.prog [d_spec_l1Width.sig (L_spec_l1Width none), d_spec_Replay.sig (L_spec_Replay none), d_spec_l4Range.sig (L_spec_l4Range none), d_spec_ValidLog.sig (L_spec_ValidLog none), d_spec_l7All.sig (L_spec_l7All none), d_spec_l7SameState.sig (L_spec_l7SameState none), d_spec_l6Ok.sig (L_spec_l6Ok none)] d_spec_ValidVault Tryz.f19
theorem e_spec_ValidVault_i (a0 : Int) (a1 : Int) (a2 : Rw) (a3 : Rw) (a4 : Int) (a5 : Int) (a6 : Int) (a7 : Int) (a8 : Rw) (a9 : Rw) (a10 : Rw) (a11 : Int) (a12 : Rw) (a13 : Rw) (a14 : Int) (a15 : Int) (a16 : Int) : L_spec_ValidVault none [.i a0, .i a1, .l a2, .l a3, .i a4, .i a5, .i a6, .i a7, .l a8, .l a9, .l a10, .i a11, .l a12, .l a13, .i a14, .i a15, .i a16] =
 (L_spec_l1Width none [.i a0]).bind fun y1 =>
 cond (!(g y1 0).bool) (
 some [.b false]) (
 (L_spec_l4Range none [.i a1, .i 0, .i 1000000]).bind fun y2 =>
 cond (!(g y2 0).bool) (
 some [.b false]) (
 (L_spec_ValidLog none [.l a2, .l a3]).bind fun y3 =>
 cond (!(g y3 0).bool) (
 some [.b false]) (
 (L_spec_l7All none [.l a2, .l a3]).bind fun y4 =>
 (L_spec_Replay none [.i a0, .l ((g y4 0).list)]).bind fun y5 =>
 cond ((g y5 0).int == 0) (
 (L_spec_l7SameState none [.i ((g y5 1).int), .i ((g y5 2).int), .i ((g y5 3).int), .i ((g y5 4).int), .l ((g y5 9).list), .l ((g y5 10).list), .l ((g y5 11).list), .i a4, .i a5, .i a6, .i a7, .l a8, .l a9, .l a10]).bind fun y6 =>
 cond ((g y6 0).bool) (
 (L_spec_l6Ok none [.i a4, .i a5, .i a6, .i a7, .l a8, .l a9, .l a10, .i a11, .l a12, .l a13, .i a14, .i a15, .i a16]).bind fun y7 =>
 some [.b ((g y7 0).bool)]) (
 some [.b false])) (
 some [.b false])))) := (Lim_eq _ _).trans (by kernel_rfl)
theorem k_spec_ValidVault : SigOk Tryz.prog (d_spec_ValidVault.sig (L_spec_ValidVault none)) ∧ (d_spec_ValidVault.sig (L_spec_ValidVault none)).ok = true := sound_lim (known_cons k_spec_l1Width (by kernel_rfl) (known_cons k_spec_Replay (by kernel_rfl) (known_cons k_spec_l4Range (by kernel_rfl) (known_cons k_spec_ValidLog (by kernel_rfl) (known_cons k_spec_l7All (by kernel_rfl) (known_cons k_spec_l7SameState (by kernel_rfl) (known_cons k_spec_l6Ok (by kernel_rfl) known_nil))))))) (by kernel_rfl) (by kernel_rfl) (by kernel_rfl)
def d_spec_l2Log : FD := { fn := 206, nb := 0, pre := ⟨[.ag [.fz 9 false 0, .fz 9 false 1]], []⟩, post := ⟨[.ag [.ow 0, .ow 1]], [.rw 9 true 0, .rw 9 true 1]⟩, sh := false, cuts := [] }
noncomputable def L_spec_l2Log : Option Nat → Lv → Option Lv := Lim Tryz.prog [] d_spec_l2Log Tryz.f206
theorem e_spec_l2Log_i (a0 : Rw) (a1 : Rw) : L_spec_l2Log none [.l a0, .l a1] =
 cond (decide (([] : Rw).length + a0.length ≤ most)) (
 cond (decide (([] : Rw).length + a1.length ≤ most)) (
 some [.l (([] : Rw) ++ a0), .l (([] : Rw) ++ a1)]) (
 none)) (
 none) := (Lim_eq _ _).trans (by kernel_rfl)
theorem k_spec_l2Log : SigOk Tryz.prog (d_spec_l2Log.sig (L_spec_l2Log none)) ∧ (d_spec_l2Log.sig (L_spec_l2Log none)).ok = true := sound_lim known_nil (by kernel_rfl) (by kernel_rfl) (by kernel_rfl)
def d_spec_l6Round : FD := { fn := 207, nb := 0, pre := ⟨[.ag [.i .i64 0, .fz 9 false 1, .fz 9 false 2, .i .i64 3, .i .i64 4, .i .i64 5]], []⟩, post := ⟨[.ag [.i .i64 0, .ow 0, .ow 1, .i .i64 1, .i .i64 2, .i .i64 3]], [.rw 9 true 4, .rw 9 true 5]⟩, sh := false, cuts := [] }
noncomputable def L_spec_l6Round : Option Nat → Lv → Option Lv := Lim Tryz.prog [] d_spec_l6Round Tryz.f207
theorem e_spec_l6Round_i (a0 : Int) (a1 : Rw) (a2 : Rw) (a3 : Int) (a4 : Int) (a5 : Int) : L_spec_l6Round none [.i a0, .l a1, .l a2, .i a3, .i a4, .i a5] =
 cond (decide (([] : Rw).length + a1.length ≤ most)) (
 cond (decide (([] : Rw).length + a2.length ≤ most)) (
 some [.i a0, .i a3, .i a4, .i a5, .l (([] : Rw) ++ a1), .l (([] : Rw) ++ a2)]) (
 none)) (
 none) := (Lim_eq _ _).trans (by kernel_rfl)
theorem k_spec_l6Round : SigOk Tryz.prog (d_spec_l6Round.sig (L_spec_l6Round none)) ∧ (d_spec_l6Round.sig (L_spec_l6Round none)).ok = true := sound_lim known_nil (by kernel_rfl) (by kernel_rfl) (by kernel_rfl)
def d_spec_l7Copy : FD := { fn := 156, nb := 0, pre := ⟨[.ag [.i .i64 0, .i .i64 1, .fz 9 false 2, .fz 9 false 3, .i .i64 4, .i .i64 5, .i .i64 6, .i .i64 7, .fz 90 false 8, .fz 156 false 9, .fz 158 false 10, .i .i64 11, .fz 9 false 12, .fz 9 false 13, .i .i64 14, .i .i64 15, .i .i64 16]], []⟩, post := ⟨[.ag [.i .i64 0, .i .i64 1, .ow 0, .ow 1, .i .i64 2, .i .i64 3, .i .i64 4, .i .i64 5, .ow 2, .ow 3, .ow 4, .i .i64 6, .ow 5, .ow 6, .i .i64 7, .i .i64 8, .i .i64 9]], [.rw 9 true 10, .rw 9 true 11, .rw 90 true 12, .rw 156 true 13, .rw 158 true 14, .rw 9 true 15, .rw 9 true 16]⟩, sh := false, cuts := [] }
noncomputable def L_spec_l7Copy : Option Nat → Lv → Option Lv := Lim Tryz.prog [d_spec_l4Copy.sig (L_spec_l4Copy none), d_spec_l2Log.sig (L_spec_l2Log none), d_spec_l6Round.sig (L_spec_l6Round none)] d_spec_l7Copy Tryz.f156
theorem e_spec_l7Copy_i (a0 : Int) (a1 : Int) (a2 : Rw) (a3 : Rw) (a4 : Int) (a5 : Int) (a6 : Int) (a7 : Int) (a8 : Rw) (a9 : Rw) (a10 : Rw) (a11 : Int) (a12 : Rw) (a13 : Rw) (a14 : Int) (a15 : Int) (a16 : Int) : L_spec_l7Copy none [.i a0, .i a1, .l a2, .l a3, .i a4, .i a5, .i a6, .i a7, .l a8, .l a9, .l a10, .i a11, .l a12, .l a13, .i a14, .i a15, .i a16] =
 (L_spec_l2Log none [.l a2, .l a3]).bind fun y1 =>
 (L_spec_l4Copy none [.i a4, .i a5, .i a6, .i a7, .l a8, .l a9, .l a10]).bind fun y2 =>
 (L_spec_l6Round none [.i a11, .l a12, .l a13, .i a14, .i a15, .i a16]).bind fun y3 =>
 some [.i a0, .i a1, .i ((g y2 0).int), .i ((g y2 1).int), .i ((g y2 2).int), .i ((g y2 3).int), .i ((g y3 0).int), .i ((g y3 1).int), .i ((g y3 2).int), .i ((g y3 3).int), .l ((g y1 0).list), .l ((g y1 1).list), .l ((g y2 4).list), .l ((g y2 5).list), .l ((g y2 6).list), .l ((g y3 4).list), .l ((g y3 5).list)] := (Lim_eq _ _).trans (by kernel_rfl)
theorem k_spec_l7Copy : SigOk Tryz.prog (d_spec_l7Copy.sig (L_spec_l7Copy none)) ∧ (d_spec_l7Copy.sig (L_spec_l7Copy none)).ok = true := sound_lim (known_cons k_spec_l4Copy (by kernel_rfl) (known_cons k_spec_l2Log (by kernel_rfl) (known_cons k_spec_l6Round (by kernel_rfl) known_nil))) (by kernel_rfl) (by kernel_rfl) (by kernel_rfl)
def d_spec_l5Room : FD := { fn := 202, nb := 0, pre := ⟨[.ag [.i .i64 0, .i .i64 1, .i .i64 2, .i .i64 3, .fz 90 false 4, .fz 156 false 5, .fz 158 false 6]], []⟩, post := ⟨[.sc (.i .i64 0)], []⟩, sh := false, cuts := [⟨3, [1, 3, 4], ⟨[.sc (.pt 0 0), .sc (.i .i64 0), .sc (.i .i64 1)], [.bx [.i .i64 2, .i .i64 3, .i .i64 4, .i .i64 5, .fz 90 false 6, .fz 156 false 7, .fz 158 false 8]]⟩⟩] }
noncomputable def L_spec_l5Room : Option Nat → Lv → Option Lv := Lim Tryz.prog [] d_spec_l5Room Tryz.f202
theorem e_spec_l5Room_i (a0 : Int) (a1 : Int) (a2 : Int) (a3 : Int) (a4 : Rw) (a5 : Rw) (a6 : Rw) : L_spec_l5Room none [.i a0, .i a1, .i a2, .i a3, .l a4, .l a5, .l a6] =
 L_spec_l5Room (some 3) [.i 0, .i 0, .i a0, .i a1, .i a2, .i a3, .l a4, .l a5, .l a6] := (Lim_eq _ _).trans (by kernel_rfl)
theorem e_spec_l5Room_3 (a0 : Int) (a1 : Int) (a2 : Int) (a3 : Int) (a4 : Int) (a5 : Int) (a6 : Rw) (a7 : Rw) (a8 : Rw) : L_spec_l5Room (some 3) [.i a0, .i a1, .i a2, .i a3, .i a4, .i a5, .l a6, .l a7, .l a8] =
 cond (decide (a1 < (a6.length : Int))) (
 cond (inb a1 a6.length) (
 cond (inb a1 a6.length) (
 L_spec_l5Room (some 3) [.i (IntKind.i64.wrap ((IntKind.i64.wrap ((IntKind.i64.wrap (a0 + 1)) + (IntKind.i64.wrap ((((rd a6 a1.toNat 3).list).length : Int) * a2)))) + (((rd a6 a1.toNat 2).str).size : Int))), .i (IntKind.i64.wrap (a1 + 1)), .i a2, .i a3, .i a4, .i a5, .l a6, .l a7, .l a8]) (
 none)) (
 none)) (
 some [.i a0]) := (Lim_eq _ _).trans (by kernel_rfl)
theorem k_spec_l5Room : SigOk Tryz.prog (d_spec_l5Room.sig (L_spec_l5Room none)) ∧ (d_spec_l5Room.sig (L_spec_l5Room none)).ok = true := sound_lim known_nil (by kernel_rfl) (by kernel_rfl) (by kernel_rfl)
end KV
end
section
set_option maxRecDepth 100000
namespace KV
open Go Go.Eng Go.Proofs
def d_spec_l6Shade : FD := { fn := 203, nb := 0, pre := ⟨[.ag [.i .i64 0, .i .i64 1, .i .i64 2, .i .i64 3, .fz 90 false 4, .fz 156 false 5, .fz 158 false 6], .ag [.i .i64 7, .fz 9 false 8, .fz 9 false 9, .i .i64 10, .i .i64 11, .i .i64 12], .sc (.s 13)], []⟩, post := ⟨[.ag [.i .i64 0, .ow 0, .ow 1, .i .i64 1, .i .i64 2, .i .i64 3]], [.rw 9 true 4, .rw 9 true 5]⟩, sh := false, cuts := [] }
noncomputable def L_spec_l6Shade : Option Nat → Lv → Option Lv := Lim Tryz.prog [d_spec_l4Find.sig (L_spec_l4Find none), d_spec_l4Has.sig (L_spec_l4Has none), d_spec_l6Round.sig (L_spec_l6Round none)] d_spec_l6Shade Tryz.f203
theorem e_spec_l6Shade_i (a0 : Int) (a1 : Int) (a2 : Int) (a3 : Int) (a4 : Rw) (a5 : Rw) (a6 : Rw) (a7 : Int) (a8 : Rw) (a9 : Rw) (a10 : Int) (a11 : Int) (a12 : Int) (a13 : ByteArray) : L_spec_l6Shade none [.i a0, .i a1, .i a2, .i a3, .l a4, .l a5, .l a6, .i a7, .l a8, .l a9, .i a10, .i a11, .i a12, .s a13] =
 cond (a7 == 0) (
 (L_spec_l6Round none [.i a7, .l a8, .l a9, .i a10, .i a11, .i a12]).bind fun y1 =>
 some [.i ((g y1 0).int), .i ((g y1 1).int), .i ((g y1 2).int), .i ((g y1 3).int), .l ((g y1 4).list), .l ((g y1 5).list)]) (
 (L_spec_l4Find none [.i a0, .i a1, .i a2, .i a3, .l a4, .l a5, .l a6, .s a13]).bind fun y2 =>
 cond (decide ((g y2 0).int < 0)) (
 (L_spec_l6Round none [.i a7, .l a8, .l a9, .i a10, .i a11, .i a12]).bind fun y3 =>
 some [.i ((g y3 0).int), .i ((g y3 1).int), .i ((g y3 2).int), .i ((g y3 3).int), .l ((g y3 4).list), .l ((g y3 5).list)]) (
 (L_spec_l4Has none [.l a9, .s a13]).bind fun y4 =>
 cond ((g y4 0).bool) (
 (L_spec_l6Round none [.i a7, .l a8, .l a9, .i a10, .i a11, .i a12]).bind fun y5 =>
 some [.i ((g y5 0).int), .i ((g y5 1).int), .i ((g y5 2).int), .i ((g y5 3).int), .l ((g y5 4).list), .l ((g y5 5).list)]) (
 cond (decide (23200 ≤ (a8.length : Int))) (
 (L_spec_l6Round none [.i a7, .l a8, .l a9, .i a10, .i a11, .i a12]).bind fun y6 =>
 some [.i ((g y6 0).int), .i ((g y6 1).int), .i ((g y6 2).int), .i ((g y6 3).int), .l ((g y6 4).list), .l ((g y6 5).list)]) (
 (L_spec_l6Round none [.i a7, .l a8, .l a9, .i a10, .i a11, .i a12]).bind fun y7 =>
 cond (decide (((g y7 4).list).length + ([[.s a13]] : Rw).length ≤ most)) (
 some [.i ((g y7 0).int), .i ((g y7 1).int), .i ((g y7 2).int), .i ((g y7 3).int), .l ((g y7 4).list ++ ([[.s a13]] : Rw)), .l ((g y7 5).list)]) (
 none))))) := (Lim_eq _ _).trans (by kernel_rfl)
theorem k_spec_l6Shade : SigOk Tryz.prog (d_spec_l6Shade.sig (L_spec_l6Shade none)) ∧ (d_spec_l6Shade.sig (L_spec_l6Shade none)).ok = true := sound_lim (known_cons k_spec_l4Find (by kernel_rfl) (known_cons k_spec_l4Has (by kernel_rfl) (known_cons k_spec_l6Round (by kernel_rfl) known_nil))) (by kernel_rfl) (by kernel_rfl) (by kernel_rfl)
def d_spec_l7Do : FD := { fn := 147, nb := 0, pre := ⟨[.ag [.i .i64 0, .i .i64 1, .fz 9 false 2, .fz 9 false 3, .i .i64 4, .i .i64 5, .i .i64 6, .i .i64 7, .fz 90 false 8, .fz 156 false 9, .fz 158 false 10, .i .i64 11, .fz 9 false 12, .fz 9 false 13, .i .i64 14, .i .i64 15, .i .i64 16], .ag [.i .i64 17, .s 18, .s 19, .i .i64 20, .s 21, .fz 9 false 22]], []⟩, post := ⟨[.ag [.i .i64 0, .i .i64 1, .i .i64 2, .ow 0, .ow 1, .i .i64 3, .i .i64 4, .i .i64 5, .i .i64 6, .ow 2, .ow 3, .ow 4, .i .i64 7, .ow 5, .ow 6, .i .i64 8, .i .i64 9, .i .i64 10, .s 11, .i .i64 12, .s 13, .s 14]], [.rw 9 true 15, .rw 9 true 16, .rw 90 true 17, .rw 156 true 18, .rw 158 true 19, .rw 9 true 20, .rw 9 true 21]⟩, sh := false, cuts := [⟨25, [4, 6, 7, 8], ⟨[.sc (.pt 0 0), .sc (.pt 1 0), .sc (.pt 2 0), .sc (.s 0)], [.bx [.i .i64 1, .i .i64 2, .i .i64 3, .ow 11, .ow 12, .i .i64 4, .i .i64 5, .i .i64 6, .i .i64 7, .ow 13, .ow 14, .ow 15, .i .i64 8, .ow 16, .ow 17, .i .i64 9, .i .i64 10, .i .i64 11, .s 12, .i .i64 13, .s 14, .s 15], .bx [.i .i64 16, .i .i64 17, .i .i64 18, .i .i64 19, .i .i64 20, .fz 90 false 21, .fz 156 false 22, .ow 3, .s 23, .i .i64 24, .s 25, .s 26], .bx [.i .i64 27, .i .i64 28, .ow 4, .ow 5, .i .i64 29, .i .i64 30, .i .i64 31, .i .i64 32, .ow 6, .ow 7, .ow 8, .i .i64 33, .ow 9, .ow 10, .i .i64 34, .i .i64 35, .i .i64 36], .rw 158 false 37, .rw 9 true 38, .rw 9 true 39, .rw 90 true 40, .rw 156 true 41, .rw 158 true 42, .rw 9 true 43, .rw 9 true 44, .rw 9 true 45, .rw 9 true 46, .rw 90 true 47, .rw 156 true 48, .rw 158 true 49, .rw 9 true 50, .rw 9 true 51]⟩⟩] }
noncomputable def L_spec_l7Do : Option Nat → Lv → Option Lv := Lim Tryz.prog [d_spec_l3Ok.sig (L_spec_l3Ok none), d_spec_FormEntry.sig (L_spec_FormEntry none), d_spec_l4Copy.sig (L_spec_l4Copy none), d_spec_l4Apply.sig (L_spec_l4Apply none), d_spec_ValidVault.sig (L_spec_ValidVault none), d_spec_l7Copy.sig (L_spec_l7Copy none), d_spec_l5Room.sig (L_spec_l5Room none), d_spec_l6Shade.sig (L_spec_l6Shade none)] d_spec_l7Do Tryz.f147
theorem e_spec_l7Do_i (a0 : Int) (a1 : Int) (a2 : Rw) (a3 : Rw) (a4 : Int) (a5 : Int) (a6 : Int) (a7 : Int) (a8 : Rw) (a9 : Rw) (a10 : Rw) (a11 : Int) (a12 : Rw) (a13 : Rw) (a14 : Int) (a15 : Int) (a16 : Int) (a17 : Int) (a18 : ByteArray) (a19 : ByteArray) (a20 : Int) (a21 : ByteArray) (a22 : Rw) : L_spec_l7Do none [.i a0, .i a1, .l a2, .l a3, .i a4, .i a5, .i a6, .i a7, .l a8, .l a9, .l a10, .i a11, .l a12, .l a13, .i a14, .i a15, .i a16, .i a17, .s a18, .s a19, .i a20, .s a21, .l a22] =
 (L_spec_ValidVault none [.i a0, .i a1, .l a2, .l a3, .i a4, .i a5, .i a6, .i a7, .l a8, .l a9, .l a10, .i a11, .l a12, .l a13, .i a14, .i a15, .i a16]).bind fun y1 =>
 cond (!(g y1 0).bool) (
 some [.i 1, .i 0, .i 0, .i 0, .i 0, .i 0, .i 0, .i 0, .i 0, .i 0, .i 0, .s (⟨#[]⟩ : ByteArray), .i 0, .s (⟨#[]⟩ : ByteArray), .s (⟨#[]⟩ : ByteArray), .l [], .l [], .l [], .l [], .l [], .l [], .l []]) (
 (L_spec_l7Copy none [.i a0, .i a1, .l a2, .l a3, .i a4, .i a5, .i a6, .i a7, .l a8, .l a9, .l a10, .i a11, .l a12, .l a13, .i a14, .i a15, .i a16]).bind fun y2 =>
 (L_spec_l3Ok none [.i a17, .s a18, .s a19, .i a20, .s a21, .l a22, .i a0]).bind fun y3 =>
 cond (!(g y3 0).bool) (
 some [.i 1, .i ((g y2 0).int), .i ((g y2 1).int), .i ((g y2 2).int), .i ((g y2 3).int), .i ((g y2 4).int), .i ((g y2 5).int), .i ((g y2 6).int), .i ((g y2 7).int), .i ((g y2 8).int), .i ((g y2 9).int), .s (⟨#[]⟩ : ByteArray), .i 0, .s (⟨#[]⟩ : ByteArray), .s (⟨#[]⟩ : ByteArray), .l ((g y2 10).list), .l ((g y2 11).list), .l ((g y2 12).list), .l ((g y2 13).list), .l ((g y2 14).list), .l ((g y2 15).list), .l ((g y2 16).list)]) (
 (L_spec_l4Copy none [.i a4, .i a5, .i a6, .i a7, .l a8, .l a9, .l a10]).bind fun y4 =>
 (L_spec_l4Apply none [.i ((g y4 0).int), .i ((g y4 1).int), .i ((g y4 2).int), .i ((g y4 3).int), .l ((g y4 4).list), .l ((g y4 5).list), .i a17, .s a18, .s a19, .i a20, .s a21, .l a22, .l ((g y4 6).list)]).bind fun y5 =>
 cond ((g y5 0).int != 0) (
 some [.i ((g y5 0).int), .i ((g y2 0).int), .i ((g y2 1).int), .i ((g y2 2).int), .i ((g y2 3).int), .i ((g y2 4).int), .i ((g y2 5).int), .i ((g y2 6).int), .i ((g y2 7).int), .i ((g y2 8).int), .i ((g y2 9).int), .s (⟨#[]⟩ : ByteArray), .i 0, .s ((g y5 9).str), .s ((g y5 10).str), .l ((g y2 10).list), .l ((g y2 11).list), .l ((g y2 12).list), .l ((g y2 13).list), .l ((g y2 14).list), .l ((g y2 15).list), .l ((g y2 16).list)]) (
 cond (a17 == 1) (
 (L_spec_l5Room none [.i ((g y5 1).int), .i ((g y5 2).int), .i ((g y5 3).int), .i ((g y5 4).int), .l ((g y5 5).list), .l ((g y5 6).list), .l ((g y5 11).list)]).bind fun y6 =>
 cond (decide (a1 < (g y6 0).int)) (
 some [.i 8, .i ((g y2 0).int), .i ((g y2 1).int), .i ((g y2 2).int), .i ((g y2 3).int), .i ((g y2 4).int), .i ((g y2 5).int), .i ((g y2 6).int), .i ((g y2 7).int), .i ((g y2 8).int), .i ((g y2 9).int), .s (⟨#[]⟩ : ByteArray), .i 0, .s (⟨#[]⟩ : ByteArray), .s (⟨#[]⟩ : ByteArray), .l ((g y2 10).list), .l ((g y2 11).list), .l ((g y2 12).list), .l ((g y2 13).list), .l ((g y2 14).list), .l ((g y2 15).list), .l ((g y2 16).list)]) (
 cond (decide (4000 ≤ (IntKind.i64.wrap ((a2.length : Int) + (a3.length : Int))))) (
 some [.i 9, .i ((g y2 0).int), .i ((g y2 1).int), .i ((g y2 2).int), .i ((g y2 3).int), .i ((g y2 4).int), .i ((g y2 5).int), .i ((g y2 6).int), .i ((g y2 7).int), .i ((g y2 8).int), .i ((g y2 9).int), .s (⟨#[]⟩ : ByteArray), .i 0, .s (⟨#[]⟩ : ByteArray), .s (⟨#[]⟩ : ByteArray), .l ((g y2 10).list), .l ((g y2 11).list), .l ((g y2 12).list), .l ((g y2 13).list), .l ((g y2 14).list), .l ((g y2 15).list), .l ((g y2 16).list)]) (
 (L_spec_l7Copy none [.i a0, .i a1, .l a2, .l a3, .i a4, .i a5, .i a6, .i a7, .l a8, .l a9, .l a10, .i a11, .l a12, .l a13, .i a14, .i a15, .i a16]).bind fun y7 =>
 (L_spec_FormEntry none [.i a17, .s a18, .s a19, .i a20, .s a21, .l a22, .i a0]).bind fun y8 =>
 cond (decide (((g y7 11).list).length + ([[.s ((g y8 0).str)]] : Rw).length ≤ most)) (
 (L_spec_l4Copy none [.i ((g y5 1).int), .i ((g y5 2).int), .i ((g y5 3).int), .i ((g y5 4).int), .l ((g y5 5).list), .l ((g y5 6).list), .l ((g y5 11).list)]).bind fun y9 =>
 cond (a17 == 1) (
 L_spec_l7Do (some 25) [.s ((g y5 7).str), .i 0, .i 0, .i 0, .i 0, .i 0, .i 0, .i 0, .i 0, .i 0, .i 0, .i 0, .s (⟨#[]⟩ : ByteArray), .i 0, .s (⟨#[]⟩ : ByteArray), .s (⟨#[]⟩ : ByteArray), .i ((g y5 0).int), .i ((g y5 1).int), .i ((g y5 2).int), .i ((g y5 3).int), .i ((g y5 4).int), .l ((g y5 5).list), .l ((g y5 6).list), .s ((g y5 7).str), .i ((g y5 8).int), .s ((g y5 9).str), .s ((g y5 10).str), .i ((g y7 0).int), .i ((g y7 1).int), .i ((g y9 0).int), .i ((g y9 1).int), .i ((g y9 2).int), .i ((g y9 3).int), .i ((g y7 6).int), .i ((g y7 7).int), .i ((g y7 8).int), .i ((g y7 9).int), .l ((g y5 11).list), .l ((g y7 10).list), .l ((g y7 11).list ++ ([[.s ((g y8 0).str)]] : Rw)), .l ((g y9 4).list), .l ((g y9 5).list), .l ((g y9 6).list), .l ((g y7 15).list), .l ((g y7 16).list), .l [], .l [], .l [], .l [], .l [], .l [], .l []]) (
 L_spec_l7Do (some 25) [.s a18, .i 0, .i 0, .i 0, .i 0, .i 0, .i 0, .i 0, .i 0, .i 0, .i 0, .i 0, .s (⟨#[]⟩ : ByteArray), .i 0, .s (⟨#[]⟩ : ByteArray), .s (⟨#[]⟩ : ByteArray), .i ((g y5 0).int), .i ((g y5 1).int), .i ((g y5 2).int), .i ((g y5 3).int), .i ((g y5 4).int), .l ((g y5 5).list), .l ((g y5 6).list), .s ((g y5 7).str), .i ((g y5 8).int), .s ((g y5 9).str), .s ((g y5 10).str), .i ((g y7 0).int), .i ((g y7 1).int), .i ((g y9 0).int), .i ((g y9 1).int), .i ((g y9 2).int), .i ((g y9 3).int), .i ((g y7 6).int), .i ((g y7 7).int), .i ((g y7 8).int), .i ((g y7 9).int), .l ((g y5 11).list), .l ((g y7 10).list), .l ((g y7 11).list ++ ([[.s ((g y8 0).str)]] : Rw)), .l ((g y9 4).list), .l ((g y9 5).list), .l ((g y9 6).list), .l ((g y7 15).list), .l ((g y7 16).list), .l [], .l [], .l [], .l [], .l [], .l [], .l []])) (
 none)))) (
 cond (decide (4000 ≤ (IntKind.i64.wrap ((a2.length : Int) + (a3.length : Int))))) (
 some [.i 9, .i ((g y2 0).int), .i ((g y2 1).int), .i ((g y2 2).int), .i ((g y2 3).int), .i ((g y2 4).int), .i ((g y2 5).int), .i ((g y2 6).int), .i ((g y2 7).int), .i ((g y2 8).int), .i ((g y2 9).int), .s (⟨#[]⟩ : ByteArray), .i 0, .s (⟨#[]⟩ : ByteArray), .s (⟨#[]⟩ : ByteArray), .l ((g y2 10).list), .l ((g y2 11).list), .l ((g y2 12).list), .l ((g y2 13).list), .l ((g y2 14).list), .l ((g y2 15).list), .l ((g y2 16).list)]) (
 (L_spec_l7Copy none [.i a0, .i a1, .l a2, .l a3, .i a4, .i a5, .i a6, .i a7, .l a8, .l a9, .l a10, .i a11, .l a12, .l a13, .i a14, .i a15, .i a16]).bind fun y10 =>
 (L_spec_FormEntry none [.i a17, .s a18, .s a19, .i a20, .s a21, .l a22, .i a0]).bind fun y11 =>
 cond (decide (((g y10 11).list).length + ([[.s ((g y11 0).str)]] : Rw).length ≤ most)) (
 (L_spec_l4Copy none [.i ((g y5 1).int), .i ((g y5 2).int), .i ((g y5 3).int), .i ((g y5 4).int), .l ((g y5 5).list), .l ((g y5 6).list), .l ((g y5 11).list)]).bind fun y12 =>
 cond (a17 == 1) (
 L_spec_l7Do (some 25) [.s ((g y5 7).str), .i 0, .i 0, .i 0, .i 0, .i 0, .i 0, .i 0, .i 0, .i 0, .i 0, .i 0, .s (⟨#[]⟩ : ByteArray), .i 0, .s (⟨#[]⟩ : ByteArray), .s (⟨#[]⟩ : ByteArray), .i ((g y5 0).int), .i ((g y5 1).int), .i ((g y5 2).int), .i ((g y5 3).int), .i ((g y5 4).int), .l ((g y5 5).list), .l ((g y5 6).list), .s ((g y5 7).str), .i ((g y5 8).int), .s ((g y5 9).str), .s ((g y5 10).str), .i ((g y10 0).int), .i ((g y10 1).int), .i ((g y12 0).int), .i ((g y12 1).int), .i ((g y12 2).int), .i ((g y12 3).int), .i ((g y10 6).int), .i ((g y10 7).int), .i ((g y10 8).int), .i ((g y10 9).int), .l ((g y5 11).list), .l ((g y10 10).list), .l ((g y10 11).list ++ ([[.s ((g y11 0).str)]] : Rw)), .l ((g y12 4).list), .l ((g y12 5).list), .l ((g y12 6).list), .l ((g y10 15).list), .l ((g y10 16).list), .l [], .l [], .l [], .l [], .l [], .l [], .l []]) (
 L_spec_l7Do (some 25) [.s a18, .i 0, .i 0, .i 0, .i 0, .i 0, .i 0, .i 0, .i 0, .i 0, .i 0, .i 0, .s (⟨#[]⟩ : ByteArray), .i 0, .s (⟨#[]⟩ : ByteArray), .s (⟨#[]⟩ : ByteArray), .i ((g y5 0).int), .i ((g y5 1).int), .i ((g y5 2).int), .i ((g y5 3).int), .i ((g y5 4).int), .l ((g y5 5).list), .l ((g y5 6).list), .s ((g y5 7).str), .i ((g y5 8).int), .s ((g y5 9).str), .s ((g y5 10).str), .i ((g y10 0).int), .i ((g y10 1).int), .i ((g y12 0).int), .i ((g y12 1).int), .i ((g y12 2).int), .i ((g y12 3).int), .i ((g y10 6).int), .i ((g y10 7).int), .i ((g y10 8).int), .i ((g y10 9).int), .l ((g y5 11).list), .l ((g y10 10).list), .l ((g y10 11).list ++ ([[.s ((g y11 0).str)]] : Rw)), .l ((g y12 4).list), .l ((g y12 5).list), .l ((g y12 6).list), .l ((g y10 15).list), .l ((g y10 16).list), .l [], .l [], .l [], .l [], .l [], .l [], .l []])) (
 none)))))) := (Lim_eq _ _).trans (by kernel_rfl)
theorem e_spec_l7Do_25 (a0 : ByteArray) (a1 : Int) (a2 : Int) (a3 : Int) (a4 : Int) (a5 : Int) (a6 : Int) (a7 : Int) (a8 : Int) (a9 : Int) (a10 : Int) (a11 : Int) (a12 : ByteArray) (a13 : Int) (a14 : ByteArray) (a15 : ByteArray) (a16 : Int) (a17 : Int) (a18 : Int) (a19 : Int) (a20 : Int) (a21 : Rw) (a22 : Rw) (a23 : ByteArray) (a24 : Int) (a25 : ByteArray) (a26 : ByteArray) (a27 : Int) (a28 : Int) (a29 : Int) (a30 : Int) (a31 : Int) (a32 : Int) (a33 : Int) (a34 : Int) (a35 : Int) (a36 : Int) (a37 : Rw) (a38 : Rw) (a39 : Rw) (a40 : Rw) (a41 : Rw) (a42 : Rw) (a43 : Rw) (a44 : Rw) (a45 : Rw) (a46 : Rw) (a47 : Rw) (a48 : Rw) (a49 : Rw) (a50 : Rw) (a51 : Rw) : L_spec_l7Do (some 25) [.s a0, .i a1, .i a2, .i a3, .i a4, .i a5, .i a6, .i a7, .i a8, .i a9, .i a10, .i a11, .s a12, .i a13, .s a14, .s a15, .i a16, .i a17, .i a18, .i a19, .i a20, .l a21, .l a22, .s a23, .i a24, .s a25, .s a26, .i a27, .i a28, .i a29, .i a30, .i a31, .i a32, .i a33, .i a34, .i a35, .i a36, .l a37, .l a38, .l a39, .l a40, .l a41, .l a42, .l a43, .l a44, .l a45, .l a46, .l a47, .l a48, .l a49, .l a50, .l a51] =
 cond (!Eng.seq a0 (⟨#[]⟩ : ByteArray)) (
 (L_spec_l6Shade none [.i a29, .i a30, .i a31, .i a32, .l a40, .l a41, .l a42, .i a33, .l a43, .l a44, .i a34, .i a35, .i a36, .s a0]).bind fun y1 =>
 some [.i 0, .i a27, .i a28, .i a29, .i a30, .i a31, .i a32, .i ((g y1 0).int), .i ((g y1 1).int), .i ((g y1 2).int), .i ((g y1 3).int), .s a23, .i a24, .s (⟨#[]⟩ : ByteArray), .s (⟨#[]⟩ : ByteArray), .l a38, .l a39, .l a40, .l a41, .l a42, .l ((g y1 4).list), .l ((g y1 5).list)]) (
 some [.i 0, .i a27, .i a28, .i a29, .i a30, .i a31, .i a32, .i a33, .i a34, .i a35, .i a36, .s a23, .i a24, .s (⟨#[]⟩ : ByteArray), .s (⟨#[]⟩ : ByteArray), .l a38, .l a39, .l a40, .l a41, .l a42, .l a43, .l a44]) := (Lim_eq _ _).trans (by kernel_rfl)
theorem k_spec_l7Do : SigOk Tryz.prog (d_spec_l7Do.sig (L_spec_l7Do none)) ∧ (d_spec_l7Do.sig (L_spec_l7Do none)).ok = true := sound_lim (known_cons k_spec_l3Ok (by kernel_rfl) (known_cons k_spec_FormEntry (by kernel_rfl) (known_cons k_spec_l4Copy (by kernel_rfl) (known_cons k_spec_l4Apply (by kernel_rfl) (known_cons k_spec_ValidVault (by kernel_rfl) (known_cons k_spec_l7Copy (by kernel_rfl) (known_cons k_spec_l5Room (by kernel_rfl) (known_cons k_spec_l6Shade (by kernel_rfl) known_nil)))))))) (by kernel_rfl) (by kernel_rfl) (by kernel_rfl)
def d_spec_Put : FD := { fn := 61, nb := 0, pre := ⟨[.ag [.i .i64 0, .i .i64 1, .fz 9 false 2, .fz 9 false 3, .i .i64 4, .i .i64 5, .i .i64 6, .i .i64 7, .fz 90 false 8, .fz 156 false 9, .fz 158 false 10, .i .i64 11, .fz 9 false 12, .fz 9 false 13, .i .i64 14, .i .i64 15, .i .i64 16], .ag [.s 17, .fz 9 false 18], .sc (.i .i64 19)], []⟩, post := ⟨[.ag [.i .i64 0, .i .i64 1, .i .i64 2, .ow 0, .ow 1, .i .i64 3, .i .i64 4, .i .i64 5, .i .i64 6, .ow 2, .ow 3, .ow 4, .i .i64 7, .ow 5, .ow 6, .i .i64 8, .i .i64 9, .i .i64 10, .s 11, .i .i64 12, .s 13, .s 14]], [.rw 9 true 15, .rw 9 true 16, .rw 90 true 17, .rw 156 true 18, .rw 158 true 19, .rw 9 true 20, .rw 9 true 21]⟩, sh := false, cuts := [] }
noncomputable def L_spec_Put : Option Nat → Lv → Option Lv := Lim Tryz.prog [d_spec_l1Thing.sig (L_spec_l1Thing none), d_spec_l7Do.sig (L_spec_l7Do none)] d_spec_Put Tryz.f61
theorem e_spec_Put_i (a0 : Int) (a1 : Int) (a2 : Rw) (a3 : Rw) (a4 : Int) (a5 : Int) (a6 : Int) (a7 : Int) (a8 : Rw) (a9 : Rw) (a10 : Rw) (a11 : Int) (a12 : Rw) (a13 : Rw) (a14 : Int) (a15 : Int) (a16 : Int) (a17 : ByteArray) (a18 : Rw) (a19 : Int) : L_spec_Put none [.i a0, .i a1, .l a2, .l a3, .i a4, .i a5, .i a6, .i a7, .l a8, .l a9, .l a10, .i a11, .l a12, .l a13, .i a14, .i a15, .i a16, .s a17, .l a18, .i a19] =
 (L_spec_l1Thing none [.s a17, .l a18]).bind fun y1 =>
 (L_spec_l7Do none [.i a0, .i a1, .l a2, .l a3, .i a4, .i a5, .i a6, .i a7, .l a8, .l a9, .l a10, .i a11, .l a12, .l a13, .i a14, .i a15, .i a16, .i 1, .s (⟨#[]⟩ : ByteArray), .s (⟨#[]⟩ : ByteArray), .i a19, .s ((g y1 0).str), .l ((g y1 1).list)]).bind fun y2 =>
 some [.i ((g y2 0).int), .i ((g y2 1).int), .i ((g y2 2).int), .i ((g y2 3).int), .i ((g y2 4).int), .i ((g y2 5).int), .i ((g y2 6).int), .i ((g y2 7).int), .i ((g y2 8).int), .i ((g y2 9).int), .i ((g y2 10).int), .s ((g y2 11).str), .i ((g y2 12).int), .s ((g y2 13).str), .s ((g y2 14).str), .l ((g y2 15).list), .l ((g y2 16).list), .l ((g y2 17).list), .l ((g y2 18).list), .l ((g y2 19).list), .l ((g y2 20).list), .l ((g y2 21).list)] := (Lim_eq _ _).trans (by kernel_rfl)
theorem k_spec_Put : SigOk Tryz.prog (d_spec_Put.sig (L_spec_Put none)) ∧ (d_spec_Put.sig (L_spec_Put none)).ok = true := sound_lim (known_cons k_spec_l1Thing (by kernel_rfl) (known_cons k_spec_l7Do (by kernel_rfl) known_nil)) (by kernel_rfl) (by kernel_rfl) (by kernel_rfl)
def d_spec_Hold : FD := { fn := 63, nb := 0, pre := ⟨[.ag [.i .i64 0, .i .i64 1, .fz 9 false 2, .fz 9 false 3, .i .i64 4, .i .i64 5, .i .i64 6, .i .i64 7, .fz 90 false 8, .fz 156 false 9, .fz 158 false 10, .i .i64 11, .fz 9 false 12, .fz 9 false 13, .i .i64 14, .i .i64 15, .i .i64 16], .sc (.s 17), .sc (.s 18)], []⟩, post := ⟨[.ag [.i .i64 0, .i .i64 1, .i .i64 2, .ow 0, .ow 1, .i .i64 3, .i .i64 4, .i .i64 5, .i .i64 6, .ow 2, .ow 3, .ow 4, .i .i64 7, .ow 5, .ow 6, .i .i64 8, .i .i64 9, .i .i64 10, .s 11, .i .i64 12, .s 13, .s 14]], [.rw 9 true 15, .rw 9 true 16, .rw 90 true 17, .rw 156 true 18, .rw 158 true 19, .rw 9 true 20, .rw 9 true 21]⟩, sh := false, cuts := [] }
noncomputable def L_spec_Hold : Option Nat → Lv → Option Lv := Lim Tryz.prog [d_spec_l7Do.sig (L_spec_l7Do none)] d_spec_Hold Tryz.f63
theorem e_spec_Hold_i (a0 : Int) (a1 : Int) (a2 : Rw) (a3 : Rw) (a4 : Int) (a5 : Int) (a6 : Int) (a7 : Int) (a8 : Rw) (a9 : Rw) (a10 : Rw) (a11 : Int) (a12 : Rw) (a13 : Rw) (a14 : Int) (a15 : Int) (a16 : Int) (a17 : ByteArray) (a18 : ByteArray) : L_spec_Hold none [.i a0, .i a1, .l a2, .l a3, .i a4, .i a5, .i a6, .i a7, .l a8, .l a9, .l a10, .i a11, .l a12, .l a13, .i a14, .i a15, .i a16, .s a17, .s a18] =
 (L_spec_l7Do none [.i a0, .i a1, .l a2, .l a3, .i a4, .i a5, .i a6, .i a7, .l a8, .l a9, .l a10, .i a11, .l a12, .l a13, .i a14, .i a15, .i a16, .i 2, .s a18, .s a17, .i 0, .s (⟨#[]⟩ : ByteArray), .l ([])]).bind fun y1 =>
 some [.i ((g y1 0).int), .i ((g y1 1).int), .i ((g y1 2).int), .i ((g y1 3).int), .i ((g y1 4).int), .i ((g y1 5).int), .i ((g y1 6).int), .i ((g y1 7).int), .i ((g y1 8).int), .i ((g y1 9).int), .i ((g y1 10).int), .s ((g y1 11).str), .i ((g y1 12).int), .s ((g y1 13).str), .s ((g y1 14).str), .l ((g y1 15).list), .l ((g y1 16).list), .l ((g y1 17).list), .l ((g y1 18).list), .l ((g y1 19).list), .l ((g y1 20).list), .l ((g y1 21).list)] := (Lim_eq _ _).trans (by kernel_rfl)
theorem k_spec_Hold : SigOk Tryz.prog (d_spec_Hold.sig (L_spec_Hold none)) ∧ (d_spec_Hold.sig (L_spec_Hold none)).ok = true := sound_lim (known_cons k_spec_l7Do (by kernel_rfl) known_nil) (by kernel_rfl) (by kernel_rfl) (by kernel_rfl)
def d_spec_Loosen : FD := { fn := 82, nb := 0, pre := ⟨[.ag [.i .i64 0, .i .i64 1, .fz 9 false 2, .fz 9 false 3, .i .i64 4, .i .i64 5, .i .i64 6, .i .i64 7, .fz 90 false 8, .fz 156 false 9, .fz 158 false 10, .i .i64 11, .fz 9 false 12, .fz 9 false 13, .i .i64 14, .i .i64 15, .i .i64 16], .sc (.s 17)], []⟩, post := ⟨[.ag [.i .i64 0, .i .i64 1, .i .i64 2, .ow 0, .ow 1, .i .i64 3, .i .i64 4, .i .i64 5, .i .i64 6, .ow 2, .ow 3, .ow 4, .i .i64 7, .ow 5, .ow 6, .i .i64 8, .i .i64 9, .i .i64 10, .s 11, .i .i64 12, .s 13, .s 14]], [.rw 9 true 15, .rw 9 true 16, .rw 90 true 17, .rw 156 true 18, .rw 158 true 19, .rw 9 true 20, .rw 9 true 21]⟩, sh := false, cuts := [] }
noncomputable def L_spec_Loosen : Option Nat → Lv → Option Lv := Lim Tryz.prog [d_spec_l7Do.sig (L_spec_l7Do none)] d_spec_Loosen Tryz.f82
theorem e_spec_Loosen_i (a0 : Int) (a1 : Int) (a2 : Rw) (a3 : Rw) (a4 : Int) (a5 : Int) (a6 : Int) (a7 : Int) (a8 : Rw) (a9 : Rw) (a10 : Rw) (a11 : Int) (a12 : Rw) (a13 : Rw) (a14 : Int) (a15 : Int) (a16 : Int) (a17 : ByteArray) : L_spec_Loosen none [.i a0, .i a1, .l a2, .l a3, .i a4, .i a5, .i a6, .i a7, .l a8, .l a9, .l a10, .i a11, .l a12, .l a13, .i a14, .i a15, .i a16, .s a17] =
 (L_spec_l7Do none [.i a0, .i a1, .l a2, .l a3, .i a4, .i a5, .i a6, .i a7, .l a8, .l a9, .l a10, .i a11, .l a12, .l a13, .i a14, .i a15, .i a16, .i 3, .s (⟨#[]⟩ : ByteArray), .s a17, .i 0, .s (⟨#[]⟩ : ByteArray), .l ([])]).bind fun y1 =>
 some [.i ((g y1 0).int), .i ((g y1 1).int), .i ((g y1 2).int), .i ((g y1 3).int), .i ((g y1 4).int), .i ((g y1 5).int), .i ((g y1 6).int), .i ((g y1 7).int), .i ((g y1 8).int), .i ((g y1 9).int), .i ((g y1 10).int), .s ((g y1 11).str), .i ((g y1 12).int), .s ((g y1 13).str), .s ((g y1 14).str), .l ((g y1 15).list), .l ((g y1 16).list), .l ((g y1 17).list), .l ((g y1 18).list), .l ((g y1 19).list), .l ((g y1 20).list), .l ((g y1 21).list)] := (Lim_eq _ _).trans (by kernel_rfl)
theorem k_spec_Loosen : SigOk Tryz.prog (d_spec_Loosen.sig (L_spec_Loosen none)) ∧ (d_spec_Loosen.sig (L_spec_Loosen none)).ok = true := sound_lim (known_cons k_spec_l7Do (by kernel_rfl) known_nil) (by kernel_rfl) (by kernel_rfl) (by kernel_rfl)
def d_spec_Borrow : FD := { fn := 83, nb := 0, pre := ⟨[.ag [.i .i64 0, .i .i64 1, .fz 9 false 2, .fz 9 false 3, .i .i64 4, .i .i64 5, .i .i64 6, .i .i64 7, .fz 90 false 8, .fz 156 false 9, .fz 158 false 10, .i .i64 11, .fz 9 false 12, .fz 9 false 13, .i .i64 14, .i .i64 15, .i .i64 16], .sc (.s 17), .sc (.i .i64 18)], []⟩, post := ⟨[.ag [.i .i64 0, .i .i64 1, .i .i64 2, .ow 0, .ow 1, .i .i64 3, .i .i64 4, .i .i64 5, .i .i64 6, .ow 2, .ow 3, .ow 4, .i .i64 7, .ow 5, .ow 6, .i .i64 8, .i .i64 9, .i .i64 10, .s 11, .i .i64 12, .s 13, .s 14]], [.rw 9 true 15, .rw 9 true 16, .rw 90 true 17, .rw 156 true 18, .rw 158 true 19, .rw 9 true 20, .rw 9 true 21]⟩, sh := false, cuts := [] }
noncomputable def L_spec_Borrow : Option Nat → Lv → Option Lv := Lim Tryz.prog [d_spec_l7Do.sig (L_spec_l7Do none)] d_spec_Borrow Tryz.f83
theorem e_spec_Borrow_i (a0 : Int) (a1 : Int) (a2 : Rw) (a3 : Rw) (a4 : Int) (a5 : Int) (a6 : Int) (a7 : Int) (a8 : Rw) (a9 : Rw) (a10 : Rw) (a11 : Int) (a12 : Rw) (a13 : Rw) (a14 : Int) (a15 : Int) (a16 : Int) (a17 : ByteArray) (a18 : Int) : L_spec_Borrow none [.i a0, .i a1, .l a2, .l a3, .i a4, .i a5, .i a6, .i a7, .l a8, .l a9, .l a10, .i a11, .l a12, .l a13, .i a14, .i a15, .i a16, .s a17, .i a18] =
 (L_spec_l7Do none [.i a0, .i a1, .l a2, .l a3, .i a4, .i a5, .i a6, .i a7, .l a8, .l a9, .l a10, .i a11, .l a12, .l a13, .i a14, .i a15, .i a16, .i 4, .s a17, .s (⟨#[]⟩ : ByteArray), .i a18, .s (⟨#[]⟩ : ByteArray), .l ([])]).bind fun y1 =>
 some [.i ((g y1 0).int), .i ((g y1 1).int), .i ((g y1 2).int), .i ((g y1 3).int), .i ((g y1 4).int), .i ((g y1 5).int), .i ((g y1 6).int), .i ((g y1 7).int), .i ((g y1 8).int), .i ((g y1 9).int), .i ((g y1 10).int), .s ((g y1 11).str), .i ((g y1 12).int), .s ((g y1 13).str), .s ((g y1 14).str), .l ((g y1 15).list), .l ((g y1 16).list), .l ((g y1 17).list), .l ((g y1 18).list), .l ((g y1 19).list), .l ((g y1 20).list), .l ((g y1 21).list)] := (Lim_eq _ _).trans (by kernel_rfl)
theorem k_spec_Borrow : SigOk Tryz.prog (d_spec_Borrow.sig (L_spec_Borrow none)) ∧ (d_spec_Borrow.sig (L_spec_Borrow none)).ok = true := sound_lim (known_cons k_spec_l7Do (by kernel_rfl) known_nil) (by kernel_rfl) (by kernel_rfl) (by kernel_rfl)
def d_spec_GiveBack : FD := { fn := 84, nb := 0, pre := ⟨[.ag [.i .i64 0, .i .i64 1, .fz 9 false 2, .fz 9 false 3, .i .i64 4, .i .i64 5, .i .i64 6, .i .i64 7, .fz 90 false 8, .fz 156 false 9, .fz 158 false 10, .i .i64 11, .fz 9 false 12, .fz 9 false 13, .i .i64 14, .i .i64 15, .i .i64 16], .sc (.i .i64 17)], []⟩, post := ⟨[.ag [.i .i64 0, .i .i64 1, .i .i64 2, .ow 0, .ow 1, .i .i64 3, .i .i64 4, .i .i64 5, .i .i64 6, .ow 2, .ow 3, .ow 4, .i .i64 7, .ow 5, .ow 6, .i .i64 8, .i .i64 9, .i .i64 10, .s 11, .i .i64 12, .s 13, .s 14]], [.rw 9 true 15, .rw 9 true 16, .rw 90 true 17, .rw 156 true 18, .rw 158 true 19, .rw 9 true 20, .rw 9 true 21]⟩, sh := false, cuts := [] }
noncomputable def L_spec_GiveBack : Option Nat → Lv → Option Lv := Lim Tryz.prog [d_spec_l7Do.sig (L_spec_l7Do none)] d_spec_GiveBack Tryz.f84
theorem e_spec_GiveBack_i (a0 : Int) (a1 : Int) (a2 : Rw) (a3 : Rw) (a4 : Int) (a5 : Int) (a6 : Int) (a7 : Int) (a8 : Rw) (a9 : Rw) (a10 : Rw) (a11 : Int) (a12 : Rw) (a13 : Rw) (a14 : Int) (a15 : Int) (a16 : Int) (a17 : Int) : L_spec_GiveBack none [.i a0, .i a1, .l a2, .l a3, .i a4, .i a5, .i a6, .i a7, .l a8, .l a9, .l a10, .i a11, .l a12, .l a13, .i a14, .i a15, .i a16, .i a17] =
 (L_spec_l7Do none [.i a0, .i a1, .l a2, .l a3, .i a4, .i a5, .i a6, .i a7, .l a8, .l a9, .l a10, .i a11, .l a12, .l a13, .i a14, .i a15, .i a16, .i 5, .s (⟨#[]⟩ : ByteArray), .s (⟨#[]⟩ : ByteArray), .i a17, .s (⟨#[]⟩ : ByteArray), .l ([])]).bind fun y1 =>
 some [.i ((g y1 0).int), .i ((g y1 1).int), .i ((g y1 2).int), .i ((g y1 3).int), .i ((g y1 4).int), .i ((g y1 5).int), .i ((g y1 6).int), .i ((g y1 7).int), .i ((g y1 8).int), .i ((g y1 9).int), .i ((g y1 10).int), .s ((g y1 11).str), .i ((g y1 12).int), .s ((g y1 13).str), .s ((g y1 14).str), .l ((g y1 15).list), .l ((g y1 16).list), .l ((g y1 17).list), .l ((g y1 18).list), .l ((g y1 19).list), .l ((g y1 20).list), .l ((g y1 21).list)] := (Lim_eq _ _).trans (by kernel_rfl)
theorem k_spec_GiveBack : SigOk Tryz.prog (d_spec_GiveBack.sig (L_spec_GiveBack none)) ∧ (d_spec_GiveBack.sig (L_spec_GiveBack none)).ok = true := sound_lim (known_cons k_spec_l7Do (by kernel_rfl) known_nil) (by kernel_rfl) (by kernel_rfl) (by kernel_rfl)
def d_spec_Wait : FD := { fn := 85, nb := 0, pre := ⟨[.ag [.i .i64 0, .i .i64 1, .fz 9 false 2, .fz 9 false 3, .i .i64 4, .i .i64 5, .i .i64 6, .i .i64 7, .fz 90 false 8, .fz 156 false 9, .fz 158 false 10, .i .i64 11, .fz 9 false 12, .fz 9 false 13, .i .i64 14, .i .i64 15, .i .i64 16], .sc (.i .i64 17)], []⟩, post := ⟨[.ag [.i .i64 0, .i .i64 1, .i .i64 2, .ow 0, .ow 1, .i .i64 3, .i .i64 4, .i .i64 5, .i .i64 6, .ow 2, .ow 3, .ow 4, .i .i64 7, .ow 5, .ow 6, .i .i64 8, .i .i64 9, .i .i64 10, .s 11, .i .i64 12, .s 13, .s 14]], [.rw 9 true 15, .rw 9 true 16, .rw 90 true 17, .rw 156 true 18, .rw 158 true 19, .rw 9 true 20, .rw 9 true 21]⟩, sh := false, cuts := [] }
noncomputable def L_spec_Wait : Option Nat → Lv → Option Lv := Lim Tryz.prog [d_spec_l7Do.sig (L_spec_l7Do none)] d_spec_Wait Tryz.f85
theorem e_spec_Wait_i (a0 : Int) (a1 : Int) (a2 : Rw) (a3 : Rw) (a4 : Int) (a5 : Int) (a6 : Int) (a7 : Int) (a8 : Rw) (a9 : Rw) (a10 : Rw) (a11 : Int) (a12 : Rw) (a13 : Rw) (a14 : Int) (a15 : Int) (a16 : Int) (a17 : Int) : L_spec_Wait none [.i a0, .i a1, .l a2, .l a3, .i a4, .i a5, .i a6, .i a7, .l a8, .l a9, .l a10, .i a11, .l a12, .l a13, .i a14, .i a15, .i a16, .i a17] =
 (L_spec_l7Do none [.i a0, .i a1, .l a2, .l a3, .i a4, .i a5, .i a6, .i a7, .l a8, .l a9, .l a10, .i a11, .l a12, .l a13, .i a14, .i a15, .i a16, .i 6, .s (⟨#[]⟩ : ByteArray), .s (⟨#[]⟩ : ByteArray), .i a17, .s (⟨#[]⟩ : ByteArray), .l ([])]).bind fun y1 =>
 some [.i ((g y1 0).int), .i ((g y1 1).int), .i ((g y1 2).int), .i ((g y1 3).int), .i ((g y1 4).int), .i ((g y1 5).int), .i ((g y1 6).int), .i ((g y1 7).int), .i ((g y1 8).int), .i ((g y1 9).int), .i ((g y1 10).int), .s ((g y1 11).str), .i ((g y1 12).int), .s ((g y1 13).str), .s ((g y1 14).str), .l ((g y1 15).list), .l ((g y1 16).list), .l ((g y1 17).list), .l ((g y1 18).list), .l ((g y1 19).list), .l ((g y1 20).list), .l ((g y1 21).list)] := (Lim_eq _ _).trans (by kernel_rfl)
theorem k_spec_Wait : SigOk Tryz.prog (d_spec_Wait.sig (L_spec_Wait none)) ∧ (d_spec_Wait.sig (L_spec_Wait none)).ok = true := sound_lim (known_cons k_spec_l7Do (by kernel_rfl) known_nil) (by kernel_rfl) (by kernel_rfl) (by kernel_rfl)
def d_laws_wCode : FD := { fn := 18, nb := 0, pre := ⟨[.ag [.i .i64 0, .i .i64 1, .fz 9 false 2, .fz 9 false 3, .i .i64 4, .i .i64 5, .i .i64 6, .i .i64 7, .fz 90 false 8, .fz 156 false 9, .fz 158 false 10, .i .i64 11, .fz 9 false 12, .fz 9 false 13, .i .i64 14, .i .i64 15, .i .i64 16], .ag [.i .i64 17, .s 18, .i .i64 19, .s 20, .i .i64 21, .i .i64 22]], []⟩, post := ⟨[.sc (.i .i64 0)], []⟩, sh := false, cuts := [] }
noncomputable def L_laws_wCode : Option Nat → Lv → Option Lv := Lim Tryz.prog [d_spec_Act_Thing.sig (L_spec_Act_Thing none), d_spec_Act_Sum.sig (L_spec_Act_Sum none), d_spec_Act_Lease.sig (L_spec_Act_Lease none), d_spec_Put.sig (L_spec_Put none), d_spec_Hold.sig (L_spec_Hold none), d_spec_Loosen.sig (L_spec_Loosen none), d_spec_Borrow.sig (L_spec_Borrow none), d_spec_GiveBack.sig (L_spec_GiveBack none), d_spec_Wait.sig (L_spec_Wait none)] d_laws_wCode Tryz.f18
theorem e_laws_wCode_i (a0 : Int) (a1 : Int) (a2 : Rw) (a3 : Rw) (a4 : Int) (a5 : Int) (a6 : Int) (a7 : Int) (a8 : Rw) (a9 : Rw) (a10 : Rw) (a11 : Int) (a12 : Rw) (a13 : Rw) (a14 : Int) (a15 : Int) (a16 : Int) (a17 : Int) (a18 : ByteArray) (a19 : Int) (a20 : ByteArray) (a21 : Int) (a22 : Int) : L_laws_wCode none [.i a0, .i a1, .l a2, .l a3, .i a4, .i a5, .i a6, .i a7, .l a8, .l a9, .l a10, .i a11, .l a12, .l a13, .i a14, .i a15, .i a16, .i a17, .s a18, .i a19, .s a20, .i a21, .i a22] =
 cond (a17 == 1) (
 (L_spec_Act_Thing none [.i a17, .s a18, .i a19, .s a20, .i a21, .i a22, .i a4, .i a5, .i a6, .i a7, .l a8, .l a9, .l a10]).bind fun y1 =>
 (L_spec_Put none [.i a0, .i a1, .l a2, .l a3, .i a4, .i a5, .i a6, .i a7, .l a8, .l a9, .l a10, .i a11, .l a12, .l a13, .i a14, .i a15, .i a16, .s ((g y1 0).str), .l ((g y1 1).list), .i a22]).bind fun y2 =>
 some [.i ((g y2 0).int)]) (
 cond (a17 == 2) (
 (L_spec_Act_Sum none [.i a17, .s a18, .i a19, .s a20, .i a21, .i a22, .i a4, .i a5, .i a6, .i a7, .l a8, .l a9, .l a10]).bind fun y3 =>
 (L_spec_Hold none [.i a0, .i a1, .l a2, .l a3, .i a4, .i a5, .i a6, .i a7, .l a8, .l a9, .l a10, .i a11, .l a12, .l a13, .i a14, .i a15, .i a16, .s a20, .s ((g y3 0).str)]).bind fun y4 =>
 some [.i ((g y4 0).int)]) (
 cond (a17 == 3) (
 (L_spec_Loosen none [.i a0, .i a1, .l a2, .l a3, .i a4, .i a5, .i a6, .i a7, .l a8, .l a9, .l a10, .i a11, .l a12, .l a13, .i a14, .i a15, .i a16, .s a20]).bind fun y5 =>
 some [.i ((g y5 0).int)]) (
 cond (a17 == 4) (
 (L_spec_Act_Sum none [.i a17, .s a18, .i a19, .s a20, .i a21, .i a22, .i a4, .i a5, .i a6, .i a7, .l a8, .l a9, .l a10]).bind fun y6 =>
 (L_spec_Borrow none [.i a0, .i a1, .l a2, .l a3, .i a4, .i a5, .i a6, .i a7, .l a8, .l a9, .l a10, .i a11, .l a12, .l a13, .i a14, .i a15, .i a16, .s ((g y6 0).str), .i a22]).bind fun y7 =>
 some [.i ((g y7 0).int)]) (
 cond (a17 == 5) (
 (L_spec_Act_Lease none [.i a17, .s a18, .i a19, .s a20, .i a21, .i a22, .i a4, .i a5, .i a6, .i a7, .l a8, .l a9, .l a10]).bind fun y8 =>
 (L_spec_GiveBack none [.i a0, .i a1, .l a2, .l a3, .i a4, .i a5, .i a6, .i a7, .l a8, .l a9, .l a10, .i a11, .l a12, .l a13, .i a14, .i a15, .i a16, .i ((g y8 0).int)]).bind fun y9 =>
 some [.i ((g y9 0).int)]) (
 cond (a17 == 6) (
 (L_spec_Wait none [.i a0, .i a1, .l a2, .l a3, .i a4, .i a5, .i a6, .i a7, .l a8, .l a9, .l a10, .i a11, .l a12, .l a13, .i a14, .i a15, .i a16, .i a22]).bind fun y10 =>
 some [.i ((g y10 0).int)]) (
 some [.i 0])))))) := (Lim_eq _ _).trans (by kernel_rfl)
theorem k_laws_wCode : SigOk Tryz.prog (d_laws_wCode.sig (L_laws_wCode none)) ∧ (d_laws_wCode.sig (L_laws_wCode none)).ok = true := sound_lim (known_cons k_spec_Act_Thing (by kernel_rfl) (known_cons k_spec_Act_Sum (by kernel_rfl) (known_cons k_spec_Act_Lease (by kernel_rfl) (known_cons k_spec_Put (by kernel_rfl) (known_cons k_spec_Hold (by kernel_rfl) (known_cons k_spec_Loosen (by kernel_rfl) (known_cons k_spec_Borrow (by kernel_rfl) (known_cons k_spec_GiveBack (by kernel_rfl) (known_cons k_spec_Wait (by kernel_rfl) known_nil))))))))) (by kernel_rfl) (by kernel_rfl) (by kernel_rfl)
def d_laws_wList : FD := { fn := 56, nb := 0, pre := ⟨[.sc (.fz 9 false 0), .sc (.fz 9 false 1)], []⟩, post := ⟨[.sc (.b 0)], []⟩, sh := false, cuts := [⟨4, [0, 1, 5], ⟨[.sc (.fz 9 false 0), .sc (.fz 9 false 1), .sc (.i .i64 2)], []⟩⟩] }
noncomputable def L_laws_wList : Option Nat → Lv → Option Lv := Lim Tryz.prog [] d_laws_wList Tryz.f56
theorem e_laws_wList_i (a0 : Rw) (a1 : Rw) : L_laws_wList none [.l a0, .l a1] =
 cond ((a0.length : Int) != (a1.length : Int)) (
 some [.b false]) (
 L_laws_wList (some 4) [.l a0, .l a1, .i 0]) := (Lim_eq _ _).trans (by kernel_rfl)
theorem e_laws_wList_4 (a0 : Rw) (a1 : Rw) (a2 : Int) : L_laws_wList (some 4) [.l a0, .l a1, .i a2] =
 cond (decide (a2 < (a0.length : Int))) (
 cond (inb a2 a0.length) (
 cond (inb a2 a1.length) (
 cond (!Eng.seq ((rd a0 a2.toNat 0).str) ((rd a1 a2.toNat 0).str)) (
 some [.b false]) (
 L_laws_wList (some 4) [.l a0, .l a1, .i (IntKind.i64.wrap (a2 + 1))])) (
 none)) (
 none)) (
 some [.b true]) := (Lim_eq _ _).trans (by kernel_rfl)
theorem k_laws_wList : SigOk Tryz.prog (d_laws_wList.sig (L_laws_wList none)) ∧ (d_laws_wList.sig (L_laws_wList none)).ok = true := sound_lim known_nil (by kernel_rfl) (by kernel_rfl) (by kernel_rfl)
def d_laws_wThing : FD := { fn := 65, nb := 0, pre := ⟨[.ag [.s 0, .fz 9 false 1], .ag [.s 2, .fz 9 false 3]], []⟩, post := ⟨[.sc (.b 0)], []⟩, sh := false, cuts := [] }
noncomputable def L_laws_wThing : Option Nat → Lv → Option Lv := Lim Tryz.prog [d_laws_wList.sig (L_laws_wList none)] d_laws_wThing Tryz.f65
theorem e_laws_wThing_i (a0 : ByteArray) (a1 : Rw) (a2 : ByteArray) (a3 : Rw) : L_laws_wThing none [.s a0, .l a1, .s a2, .l a3] =
 cond (Eng.seq a0 a2) (
 (L_laws_wList none [.l a1, .l a3]).bind fun y1 =>
 some [.b ((g y1 0).bool)]) (
 some [.b false]) := (Lim_eq _ _).trans (by kernel_rfl)
theorem k_laws_wThing : SigOk Tryz.prog (d_laws_wThing.sig (L_laws_wThing none)) ∧ (d_laws_wThing.sig (L_laws_wThing none)).ok = true := sound_lim (known_cons k_laws_wList (by kernel_rfl) known_nil) (by kernel_rfl) (by kernel_rfl) (by kernel_rfl)
def d_laws_wState : FD := { fn := 35, nb := 0, pre := ⟨[.ag [.i .i64 0, .i .i64 1, .i .i64 2, .i .i64 3, .fz 90 false 4, .fz 156 false 5, .fz 158 false 6], .ag [.i .i64 7, .i .i64 8, .i .i64 9, .i .i64 10, .fz 90 false 11, .fz 156 false 12, .fz 158 false 13]], []⟩, post := ⟨[.sc (.b 0)], []⟩, sh := false, cuts := [⟨4, [2, 3, 5], ⟨[.sc (.pt 0 0), .sc (.pt 1 0), .sc (.i .i64 0)], [.bx [.i .i64 1, .i .i64 2, .i .i64 3, .i .i64 4, .fz 90 false 5, .fz 156 false 6, .fz 158 false 7], .bx [.i .i64 8, .i .i64 9, .i .i64 10, .i .i64 11, .fz 90 false 12, .fz 156 false 13, .fz 158 false 14]]⟩⟩, ⟨9, [2, 3, 6], ⟨[.sc (.pt 0 0), .sc (.pt 1 0), .sc (.i .i64 0)], [.bx [.i .i64 1, .i .i64 2, .i .i64 3, .i .i64 4, .fz 90 false 5, .fz 156 false 6, .fz 158 false 7], .bx [.i .i64 8, .i .i64 9, .i .i64 10, .i .i64 11, .fz 90 false 12, .fz 156 false 13, .fz 158 false 14]]⟩⟩, ⟨14, [2, 3, 7], ⟨[.sc (.pt 0 0), .sc (.pt 1 0), .sc (.i .i64 0)], [.bx [.i .i64 1, .i .i64 2, .i .i64 3, .i .i64 4, .fz 90 false 5, .fz 156 false 6, .fz 158 false 7], .bx [.i .i64 8, .i .i64 9, .i .i64 10, .i .i64 11, .fz 90 false 12, .fz 156 false 13, .fz 158 false 14]]⟩⟩] }
noncomputable def L_laws_wState : Option Nat → Lv → Option Lv := Lim Tryz.prog [d_laws_wThing.sig (L_laws_wThing none)] d_laws_wState Tryz.f35
theorem e_laws_wState_i (a0 : Int) (a1 : Int) (a2 : Int) (a3 : Int) (a4 : Rw) (a5 : Rw) (a6 : Rw) (a7 : Int) (a8 : Int) (a9 : Int) (a10 : Int) (a11 : Rw) (a12 : Rw) (a13 : Rw) : L_laws_wState none [.i a0, .i a1, .i a2, .i a3, .l a4, .l a5, .l a6, .i a7, .i a8, .i a9, .i a10, .l a11, .l a12, .l a13] =
 cond (a0 != a7) (
 some [.b false]) (
 cond (a1 != a8) (
 some [.b false]) (
 cond (a2 != a9) (
 some [.b false]) (
 cond (a3 != a10) (
 some [.b false]) (
 cond ((a4.length : Int) != (a11.length : Int)) (
 some [.b false]) (
 cond ((a5.length : Int) != (a12.length : Int)) (
 some [.b false]) (
 cond ((a6.length : Int) != (a13.length : Int)) (
 some [.b false]) (
 L_laws_wState (some 4) [.i 0, .i a0, .i a1, .i a2, .i a3, .l a4, .l a5, .l a6, .i a7, .i a8, .i a9, .i a10, .l a11, .l a12, .l a13]))))))) := (Lim_eq _ _).trans (by kernel_rfl)
theorem e_laws_wState_4 (a0 : Int) (a1 : Int) (a2 : Int) (a3 : Int) (a4 : Int) (a5 : Rw) (a6 : Rw) (a7 : Rw) (a8 : Int) (a9 : Int) (a10 : Int) (a11 : Int) (a12 : Rw) (a13 : Rw) (a14 : Rw) : L_laws_wState (some 4) [.i a0, .i a1, .i a2, .i a3, .i a4, .l a5, .l a6, .l a7, .i a8, .i a9, .i a10, .i a11, .l a12, .l a13, .l a14] =
 cond (decide (a0 < (a5.length : Int))) (
 cond (inb a0 a5.length) (
 cond (inb a0 a12.length) (
 cond (!Eng.seq ((rd a5 a0.toNat 0).str) ((rd a12 a0.toNat 0).str)) (
 some [.b false]) (
 cond (inb a0 a5.length) (
 cond (inb a0 a12.length) (
 cond ((rd a5 a0.toNat 1).int != (rd a12 a0.toNat 1).int) (
 some [.b false]) (
 cond (inb a0 a5.length) (
 cond (inb a0 a12.length) (
 (L_laws_wThing none [.s ((rd a5 a0.toNat 2).str), .l ((rd a5 a0.toNat 3).list), .s ((rd a12 a0.toNat 2).str), .l ((rd a12 a0.toNat 3).list)]).bind fun y1 =>
 cond (!(g y1 0).bool) (
 some [.b false]) (
 L_laws_wState (some 4) [.i (IntKind.i64.wrap (a0 + 1)), .i a1, .i a2, .i a3, .i a4, .l a5, .l a6, .l a7, .i a8, .i a9, .i a10, .i a11, .l a12, .l a13, .l a14])) (
 none)) (
 none))) (
 none)) (
 none))) (
 none)) (
 none)) (
 L_laws_wState (some 9) [.i 0, .i a1, .i a2, .i a3, .i a4, .l a5, .l a6, .l a7, .i a8, .i a9, .i a10, .i a11, .l a12, .l a13, .l a14]) := (Lim_eq _ _).trans (by kernel_rfl)
theorem e_laws_wState_9 (a0 : Int) (a1 : Int) (a2 : Int) (a3 : Int) (a4 : Int) (a5 : Rw) (a6 : Rw) (a7 : Rw) (a8 : Int) (a9 : Int) (a10 : Int) (a11 : Int) (a12 : Rw) (a13 : Rw) (a14 : Rw) : L_laws_wState (some 9) [.i a0, .i a1, .i a2, .i a3, .i a4, .l a5, .l a6, .l a7, .i a8, .i a9, .i a10, .i a11, .l a12, .l a13, .l a14] =
 cond (decide (a0 < (a6.length : Int))) (
 cond (inb a0 a6.length) (
 cond (inb a0 a13.length) (
 cond (!((Eng.seq ((rd a6 a0.toNat 0).str) ((rd a13 a0.toNat 0).str)) && ((Eng.seq ((rd a6 a0.toNat 1).str) ((rd a13 a0.toNat 1).str)) && true))) (
 some [.b false]) (
 L_laws_wState (some 9) [.i (IntKind.i64.wrap (a0 + 1)), .i a1, .i a2, .i a3, .i a4, .l a5, .l a6, .l a7, .i a8, .i a9, .i a10, .i a11, .l a12, .l a13, .l a14])) (
 none)) (
 none)) (
 L_laws_wState (some 14) [.i 0, .i a1, .i a2, .i a3, .i a4, .l a5, .l a6, .l a7, .i a8, .i a9, .i a10, .i a11, .l a12, .l a13, .l a14]) := (Lim_eq _ _).trans (by kernel_rfl)
theorem e_laws_wState_14 (a0 : Int) (a1 : Int) (a2 : Int) (a3 : Int) (a4 : Int) (a5 : Rw) (a6 : Rw) (a7 : Rw) (a8 : Int) (a9 : Int) (a10 : Int) (a11 : Int) (a12 : Rw) (a13 : Rw) (a14 : Rw) : L_laws_wState (some 14) [.i a0, .i a1, .i a2, .i a3, .i a4, .l a5, .l a6, .l a7, .i a8, .i a9, .i a10, .i a11, .l a12, .l a13, .l a14] =
 cond (decide (a0 < (a7.length : Int))) (
 cond (inb a0 a7.length) (
 cond (inb a0 a14.length) (
 cond (!(((rd a7 a0.toNat 0).int == (rd a14 a0.toNat 0).int) && ((Eng.seq ((rd a7 a0.toNat 1).str) ((rd a14 a0.toNat 1).str)) && (((rd a7 a0.toNat 2).int == (rd a14 a0.toNat 2).int) && true)))) (
 some [.b false]) (
 L_laws_wState (some 14) [.i (IntKind.i64.wrap (a0 + 1)), .i a1, .i a2, .i a3, .i a4, .l a5, .l a6, .l a7, .i a8, .i a9, .i a10, .i a11, .l a12, .l a13, .l a14])) (
 none)) (
 none)) (
 some [.b true]) := (Lim_eq _ _).trans (by kernel_rfl)
theorem k_laws_wState : SigOk Tryz.prog (d_laws_wState.sig (L_laws_wState none)) ∧ (d_laws_wState.sig (L_laws_wState none)).ok = true := sound_lim (known_cons k_laws_wThing (by kernel_rfl) known_nil) (by kernel_rfl) (by kernel_rfl) (by kernel_rfl)
def d_laws_wRound : FD := { fn := 50, nb := 0, pre := ⟨[.ag [.i .i64 0, .fz 9 false 1, .fz 9 false 2, .i .i64 3, .i .i64 4, .i .i64 5], .ag [.i .i64 6, .fz 9 false 7, .fz 9 false 8, .i .i64 9, .i .i64 10, .i .i64 11]], []⟩, post := ⟨[.sc (.b 0)], []⟩, sh := false, cuts := [] }
noncomputable def L_laws_wRound : Option Nat → Lv → Option Lv := Lim Tryz.prog [d_laws_wList.sig (L_laws_wList none)] d_laws_wRound Tryz.f50
theorem e_laws_wRound_i (a0 : Int) (a1 : Rw) (a2 : Rw) (a3 : Int) (a4 : Int) (a5 : Int) (a6 : Int) (a7 : Rw) (a8 : Rw) (a9 : Int) (a10 : Int) (a11 : Int) : L_laws_wRound none [.i a0, .l a1, .l a2, .i a3, .i a4, .i a5, .i a6, .l a7, .l a8, .i a9, .i a10, .i a11] =
 cond (a0 == a6) (
 cond (a3 == a9) (
 cond (a4 == a10) (
 cond (a5 == a11) (
 (L_laws_wList none [.l a1, .l a7]).bind fun y1 =>
 cond ((g y1 0).bool) (
 (L_laws_wList none [.l a2, .l a8]).bind fun y2 =>
 some [.b ((g y2 0).bool)]) (
 some [.b false])) (
 some [.b false])) (
 some [.b false])) (
 some [.b false])) (
 some [.b false]) := (Lim_eq _ _).trans (by kernel_rfl)
theorem k_laws_wRound : SigOk Tryz.prog (d_laws_wRound.sig (L_laws_wRound none)) ∧ (d_laws_wRound.sig (L_laws_wRound none)).ok = true := sound_lim (known_cons k_laws_wList (by kernel_rfl) known_nil) (by kernel_rfl) (by kernel_rfl) (by kernel_rfl)
def d_laws_wVault : FD := { fn := 20, nb := 0, pre := ⟨[.ag [.i .i64 0, .i .i64 1, .fz 9 false 2, .fz 9 false 3, .i .i64 4, .i .i64 5, .i .i64 6, .i .i64 7, .fz 90 false 8, .fz 156 false 9, .fz 158 false 10, .i .i64 11, .fz 9 false 12, .fz 9 false 13, .i .i64 14, .i .i64 15, .i .i64 16], .ag [.i .i64 17, .i .i64 18, .fz 9 false 19, .fz 9 false 20, .i .i64 21, .i .i64 22, .i .i64 23, .i .i64 24, .fz 90 false 25, .fz 156 false 26, .fz 158 false 27, .i .i64 28, .fz 9 false 29, .fz 9 false 30, .i .i64 31, .i .i64 32, .i .i64 33]], []⟩, post := ⟨[.sc (.b 0)], []⟩, sh := false, cuts := [] }
noncomputable def L_laws_wVault : Option Nat → Lv → Option Lv := Lim Tryz.prog [d_laws_wList.sig (L_laws_wList none), d_laws_wState.sig (L_laws_wState none), d_laws_wRound.sig (L_laws_wRound none)] d_laws_wVault Tryz.f20
theorem e_laws_wVault_i (a0 : Int) (a1 : Int) (a2 : Rw) (a3 : Rw) (a4 : Int) (a5 : Int) (a6 : Int) (a7 : Int) (a8 : Rw) (a9 : Rw) (a10 : Rw) (a11 : Int) (a12 : Rw) (a13 : Rw) (a14 : Int) (a15 : Int) (a16 : Int) (a17 : Int) (a18 : Int) (a19 : Rw) (a20 : Rw) (a21 : Int) (a22 : Int) (a23 : Int) (a24 : Int) (a25 : Rw) (a26 : Rw) (a27 : Rw) (a28 : Int) (a29 : Rw) (a30 : Rw) (a31 : Int) (a32 : Int) (a33 : Int) : L_laws_wVault none [.i a0, .i a1, .l a2, .l a3, .i a4, .i a5, .i a6, .i a7, .l a8, .l a9, .l a10, .i a11, .l a12, .l a13, .i a14, .i a15, .i a16, .i a17, .i a18, .l a19, .l a20, .i a21, .i a22, .i a23, .i a24, .l a25, .l a26, .l a27, .i a28, .l a29, .l a30, .i a31, .i a32, .i a33] =
 cond (a0 == a17) (
 cond (a1 == a18) (
 (L_laws_wList none [.l a2, .l a19]).bind fun y1 =>
 cond ((g y1 0).bool) (
 (L_laws_wList none [.l a3, .l a20]).bind fun y2 =>
 cond ((g y2 0).bool) (
 (L_laws_wState none [.i a4, .i a5, .i a6, .i a7, .l a8, .l a9, .l a10, .i a21, .i a22, .i a23, .i a24, .l a25, .l a26, .l a27]).bind fun y3 =>
 cond ((g y3 0).bool) (
 (L_laws_wRound none [.i a11, .l a12, .l a13, .i a14, .i a15, .i a16, .i a28, .l a29, .l a30, .i a31, .i a32, .i a33]).bind fun y4 =>
 some [.b ((g y4 0).bool)]) (
 some [.b false])) (
 some [.b false])) (
 some [.b false])) (
 some [.b false])) (
 some [.b false]) := (Lim_eq _ _).trans (by kernel_rfl)
theorem k_laws_wVault : SigOk Tryz.prog (d_laws_wVault.sig (L_laws_wVault none)) ∧ (d_laws_wVault.sig (L_laws_wVault none)).ok = true := sound_lim (known_cons k_laws_wList (by kernel_rfl) (known_cons k_laws_wState (by kernel_rfl) (known_cons k_laws_wRound (by kernel_rfl) known_nil))) (by kernel_rfl) (by kernel_rfl) (by kernel_rfl)
end KV
end
section
set_option maxRecDepth 100000
namespace KV
open Go Go.Eng Go.Proofs
def d_laws_wAmong : FD := { fn := 23, nb := 0, pre := ⟨[.sc (.fz 30 false 0), .ag [.i .i64 1, .i .i64 2, .i .i64 3, .i .i64 4, .fz 90 false 5, .fz 156 false 6, .fz 158 false 7]], []⟩, post := ⟨[.sc (.b 0)], []⟩, sh := false, cuts := [⟨2, [0, 3, 5], ⟨[.sc (.fz 30 false 0), .sc (.pt 0 0), .sc (.i .i64 1)], [.bx [.i .i64 2, .i .i64 3, .i .i64 4, .i .i64 5, .fz 90 false 6, .fz 156 false 7, .fz 158 false 8]]⟩⟩] }
noncomputable def L_laws_wAmong : Option Nat → Lv → Option Lv := Lim Tryz.prog [d_laws_wState.sig (L_laws_wState none)] d_laws_wAmong Tryz.f23
theorem e_laws_wAmong_i (a0 : Rw) (a1 : Int) (a2 : Int) (a3 : Int) (a4 : Int) (a5 : Rw) (a6 : Rw) (a7 : Rw) : L_laws_wAmong none [.l a0, .i a1, .i a2, .i a3, .i a4, .l a5, .l a6, .l a7] =
 L_laws_wAmong (some 2) [.l a0, .i 0, .i a1, .i a2, .i a3, .i a4, .l a5, .l a6, .l a7] := (Lim_eq _ _).trans (by kernel_rfl)
theorem e_laws_wAmong_2 (a0 : Rw) (a1 : Int) (a2 : Int) (a3 : Int) (a4 : Int) (a5 : Int) (a6 : Rw) (a7 : Rw) (a8 : Rw) : L_laws_wAmong (some 2) [.l a0, .i a1, .i a2, .i a3, .i a4, .i a5, .l a6, .l a7, .l a8] =
 cond (decide (a1 < (a0.length : Int))) (
 cond (inb a1 a0.length) (
 (L_laws_wState none [.i ((rd a0 a1.toNat 0).int), .i ((rd a0 a1.toNat 1).int), .i ((rd a0 a1.toNat 2).int), .i ((rd a0 a1.toNat 3).int), .l ((rd a0 a1.toNat 4).list), .l ((rd a0 a1.toNat 5).list), .l ((rd a0 a1.toNat 6).list), .i a2, .i a3, .i a4, .i a5, .l a6, .l a7, .l a8]).bind fun y1 =>
 cond ((g y1 0).bool) (
 some [.b true]) (
 L_laws_wAmong (some 2) [.l a0, .i (IntKind.i64.wrap (a1 + 1)), .i a2, .i a3, .i a4, .i a5, .l a6, .l a7, .l a8])) (
 none)) (
 some [.b false]) := (Lim_eq _ _).trans (by kernel_rfl)
theorem k_laws_wAmong : SigOk Tryz.prog (d_laws_wAmong.sig (L_laws_wAmong none)) ∧ (d_laws_wAmong.sig (L_laws_wAmong none)).ok = true := sound_lim (known_cons k_laws_wState (by kernel_rfl) known_nil) (by kernel_rfl) (by kernel_rfl) (by kernel_rfl)
def d_spec_l5Roots : FD := { fn := 95, nb := 0, pre := ⟨[.ag [.i .i64 0, .i .i64 1, .i .i64 2, .i .i64 3, .fz 90 false 4, .fz 156 false 5, .fz 158 false 6]], []⟩, post := ⟨[.sc (.ow 0)], [.rw 9 true 0]⟩, sh := false, cuts := [⟨3, [1, 3, 4], ⟨[.sc (.pt 0 0), .sc (.ow 1), .sc (.i .i64 0)], [.bx [.i .i64 1, .i .i64 2, .i .i64 3, .i .i64 4, .fz 90 false 5, .fz 156 false 6, .fz 158 false 7], .rw 9 true 8]⟩⟩, ⟨8, [1, 3, 5], ⟨[.sc (.pt 0 0), .sc (.ow 1), .sc (.i .i64 0)], [.bx [.i .i64 1, .i .i64 2, .i .i64 3, .i .i64 4, .fz 90 false 5, .fz 156 false 6, .fz 158 false 7], .rw 9 true 8]⟩⟩] }
noncomputable def L_spec_l5Roots : Option Nat → Lv → Option Lv := Lim Tryz.prog [d_spec_l4Has.sig (L_spec_l4Has none)] d_spec_l5Roots Tryz.f95
theorem e_spec_l5Roots_i (a0 : Int) (a1 : Int) (a2 : Int) (a3 : Int) (a4 : Rw) (a5 : Rw) (a6 : Rw) : L_spec_l5Roots none [.i a0, .i a1, .i a2, .i a3, .l a4, .l a5, .l a6] =
 L_spec_l5Roots (some 3) [.i 0, .i a0, .i a1, .i a2, .i a3, .l a4, .l a5, .l a6, .l ([] : Rw)] := (Lim_eq _ _).trans (by kernel_rfl)
theorem e_spec_l5Roots_3 (a0 : Int) (a1 : Int) (a2 : Int) (a3 : Int) (a4 : Int) (a5 : Rw) (a6 : Rw) (a7 : Rw) (a8 : Rw) : L_spec_l5Roots (some 3) [.i a0, .i a1, .i a2, .i a3, .i a4, .l a5, .l a6, .l a7, .l a8] =
 cond (decide (a0 < (a6.length : Int))) (
 cond (inb a0 a6.length) (
 (L_spec_l4Has none [.l a8, .s ((rd a6 a0.toNat 1).str)]).bind fun y1 =>
 cond (!(g y1 0).bool) (
 cond (inb a0 a6.length) (
 cond (decide (a8.length + ([[.s ((rd a6 a0.toNat 1).str)]] : Rw).length ≤ most)) (
 L_spec_l5Roots (some 3) [.i (IntKind.i64.wrap (a0 + 1)), .i a1, .i a2, .i a3, .i a4, .l a5, .l a6, .l a7, .l (a8 ++ ([[.s ((rd a6 a0.toNat 1).str)]] : Rw))]) (
 none)) (
 none)) (
 L_spec_l5Roots (some 3) [.i (IntKind.i64.wrap (a0 + 1)), .i a1, .i a2, .i a3, .i a4, .l a5, .l a6, .l a7, .l a8])) (
 none)) (
 L_spec_l5Roots (some 8) [.i 0, .i a1, .i a2, .i a3, .i a4, .l a5, .l a6, .l a7, .l a8]) := (Lim_eq _ _).trans (by kernel_rfl)
theorem e_spec_l5Roots_8 (a0 : Int) (a1 : Int) (a2 : Int) (a3 : Int) (a4 : Int) (a5 : Rw) (a6 : Rw) (a7 : Rw) (a8 : Rw) : L_spec_l5Roots (some 8) [.i a0, .i a1, .i a2, .i a3, .i a4, .l a5, .l a6, .l a7, .l a8] =
 cond (decide (a0 < (a7.length : Int))) (
 cond (inb a0 a7.length) (
 (L_spec_l4Has none [.l a8, .s ((rd a7 a0.toNat 1).str)]).bind fun y1 =>
 cond (!(g y1 0).bool) (
 cond (inb a0 a7.length) (
 cond (decide (a8.length + ([[.s ((rd a7 a0.toNat 1).str)]] : Rw).length ≤ most)) (
 L_spec_l5Roots (some 8) [.i (IntKind.i64.wrap (a0 + 1)), .i a1, .i a2, .i a3, .i a4, .l a5, .l a6, .l a7, .l (a8 ++ ([[.s ((rd a7 a0.toNat 1).str)]] : Rw))]) (
 none)) (
 none)) (
 L_spec_l5Roots (some 8) [.i (IntKind.i64.wrap (a0 + 1)), .i a1, .i a2, .i a3, .i a4, .l a5, .l a6, .l a7, .l a8])) (
 none)) (
 some [.l a8]) := (Lim_eq _ _).trans (by kernel_rfl)
theorem k_spec_l5Roots : SigOk Tryz.prog (d_spec_l5Roots.sig (L_spec_l5Roots none)) ∧ (d_spec_l5Roots.sig (L_spec_l5Roots none)).ok = true := sound_lim (known_cons k_spec_l4Has (by kernel_rfl) known_nil) (by kernel_rfl) (by kernel_rfl) (by kernel_rfl)
def d_spec_l6Next : FD := { fn := 208, nb := 0, pre := ⟨[.ag [.i .i64 0, .i .i64 1, .i .i64 2, .i .i64 3, .fz 90 false 4, .fz 156 false 5, .fz 158 false 6], .sc (.i .i64 7)], []⟩, post := ⟨[.sc (.i .i64 0)], []⟩, sh := false, cuts := [⟨3, [1, 2, 5, 6], ⟨[.sc (.i .i64 0), .sc (.pt 0 0), .sc (.i .i64 1), .sc (.i .i64 2)], [.bx [.i .i64 3, .i .i64 4, .i .i64 5, .i .i64 6, .fz 90 false 7, .fz 156 false 8, .fz 158 false 9]]⟩⟩] }
noncomputable def L_spec_l6Next : Option Nat → Lv → Option Lv := Lim Tryz.prog [] d_spec_l6Next Tryz.f208
theorem e_spec_l6Next_i (a0 : Int) (a1 : Int) (a2 : Int) (a3 : Int) (a4 : Rw) (a5 : Rw) (a6 : Rw) (a7 : Int) : L_spec_l6Next none [.i a0, .i a1, .i a2, .i a3, .l a4, .l a5, .l a6, .i a7] =
 L_spec_l6Next (some 3) [.i a7, .i (-1), .i 0, .i a0, .i a1, .i a2, .i a3, .l a4, .l a5, .l a6] := (Lim_eq _ _).trans (by kernel_rfl)
theorem e_spec_l6Next_3 (a0 : Int) (a1 : Int) (a2 : Int) (a3 : Int) (a4 : Int) (a5 : Int) (a6 : Int) (a7 : Rw) (a8 : Rw) (a9 : Rw) : L_spec_l6Next (some 3) [.i a0, .i a1, .i a2, .i a3, .i a4, .i a5, .i a6, .l a7, .l a8, .l a9] =
 cond (decide (a2 < (a7.length : Int))) (
 cond (inb a2 a7.length) (
 cond (decide ((rd a7 a2.toNat 1).int < a0)) (
 cond (decide (a1 < 0)) (
 L_spec_l6Next (some 3) [.i a0, .i a2, .i (IntKind.i64.wrap (a2 + 1)), .i a3, .i a4, .i a5, .i a6, .l a7, .l a8, .l a9]) (
 cond (inb a2 a7.length) (
 cond (inb a1 a7.length) (
 cond (decide ((rd a7 a1.toNat 1).int < (rd a7 a2.toNat 1).int)) (
 L_spec_l6Next (some 3) [.i a0, .i a2, .i (IntKind.i64.wrap (a2 + 1)), .i a3, .i a4, .i a5, .i a6, .l a7, .l a8, .l a9]) (
 L_spec_l6Next (some 3) [.i a0, .i a1, .i (IntKind.i64.wrap (a2 + 1)), .i a3, .i a4, .i a5, .i a6, .l a7, .l a8, .l a9])) (
 none)) (
 none))) (
 L_spec_l6Next (some 3) [.i a0, .i a1, .i (IntKind.i64.wrap (a2 + 1)), .i a3, .i a4, .i a5, .i a6, .l a7, .l a8, .l a9])) (
 none)) (
 some [.i a1]) := (Lim_eq _ _).trans (by kernel_rfl)
theorem k_spec_l6Next : SigOk Tryz.prog (d_spec_l6Next.sig (L_spec_l6Next none)) ∧ (d_spec_l6Next.sig (L_spec_l6Next none)).ok = true := sound_lim known_nil (by kernel_rfl) (by kernel_rfl) (by kernel_rfl)
def d_spec_l4Drop__plain : FD := { fn := 183, nb := 0, pre := ⟨[.ag [.i .i64 0, .i .i64 1, .i .i64 2, .i .i64 3, .fz 90 false 4, .fz 156 false 5, .fz 158 false 6], .sc (.s 7)], []⟩, post := ⟨[.ag [.i .i64 0, .i .i64 1, .i .i64 2, .i .i64 3, .i .i64 4, .ow 0, .fz 156 false 5, .fz 158 false 6, .s 7, .i .i64 8, .s 9, .s 10]], [.rw 90 false 11]⟩, sh := true, cuts := [⟨7, [1, 2, 4, 5, 6], ⟨[.sc (.s 0), .sc (.pt 0 0), .sc (.pt 1 0), .sc (.ow 2), .sc (.i .i64 1)], [.bx [.i .i64 2, .i .i64 3, .i .i64 4, .i .i64 5, .fz 90 false 6, .fz 156 false 7, .fz 158 false 8], .bx [.i .i64 9, .i .i64 10, .i .i64 11, .i .i64 12, .i .i64 13, .ow 3, .ow 4, .ow 5, .s 14, .i .i64 15, .s 16, .s 17], .rw 90 false 18, .rw 90 true 19, .rw 156 true 20, .rw 158 true 21]⟩⟩] }
noncomputable def L_spec_l4Drop__plain : Option Nat → Lv → Option Lv := Lim Tryz.prog [d_spec_l4Find.sig (L_spec_l4Find none), d_spec_l4Has.sig (L_spec_l4Has none), d_spec_l4Held.sig (L_spec_l4Held none)] d_spec_l4Drop__plain Tryz.f183
theorem e_spec_l4Drop__plain_i (a0 : Int) (a1 : Int) (a2 : Int) (a3 : Int) (a4 : Rw) (a5 : Rw) (a6 : Rw) (a7 : ByteArray) : L_spec_l4Drop__plain none [.i a0, .i a1, .i a2, .i a3, .l a4, .l a5, .l a6, .s a7] =
 (L_spec_l4Find none [.i a0, .i a1, .i a2, .i a3, .l a4, .l a5, .l a6, .s a7]).bind fun y1 =>
 cond (decide ((g y1 0).int < 0)) (
 some [.i 2, .i 0, .i 0, .i 0, .i 0, .l ([]), .l ([]), .s (⟨#[]⟩ : ByteArray), .i 0, .s (⟨#[]⟩ : ByteArray), .s (⟨#[]⟩ : ByteArray), .l []]) (
 (L_spec_l4Held none [.i a0, .i a1, .i a2, .i a3, .l a4, .l a5, .l a6, .s a7]).bind fun y2 =>
 cond ((g y2 0).bool) (
 some [.i 6, .i 0, .i 0, .i 0, .i 0, .l ([]), .l ([]), .s (⟨#[]⟩ : ByteArray), .i 0, .s (⟨#[]⟩ : ByteArray), .s (⟨#[]⟩ : ByteArray), .l []]) (
 L_spec_l4Drop__plain (some 7) [.s a7, .i 0, .i a0, .i a1, .i a2, .i a3, .l a4, .l a5, .l a6, .i 0, .i 0, .i 0, .i 0, .i 0, .s (⟨#[]⟩ : ByteArray), .i 0, .s (⟨#[]⟩ : ByteArray), .s (⟨#[]⟩ : ByteArray), .l ([] : Rw), .l [], .l [], .l []])) := (Lim_eq _ _).trans (by kernel_rfl)
theorem e_spec_l4Drop__plain_7 (a0 : ByteArray) (a1 : Int) (a2 : Int) (a3 : Int) (a4 : Int) (a5 : Int) (a6 : Rw) (a7 : Rw) (a8 : Rw) (a9 : Int) (a10 : Int) (a11 : Int) (a12 : Int) (a13 : Int) (a14 : ByteArray) (a15 : Int) (a16 : ByteArray) (a17 : ByteArray) (a18 : Rw) (a19 : Rw) (a20 : Rw) (a21 : Rw) : L_spec_l4Drop__plain (some 7) [.s a0, .i a1, .i a2, .i a3, .i a4, .i a5, .l a6, .l a7, .l a8, .i a9, .i a10, .i a11, .i a12, .i a13, .s a14, .i a15, .s a16, .s a17, .l a18, .l a19, .l a20, .l a21] =
 cond (decide (a1 < (a6.length : Int))) (
 cond (inb a1 a6.length) (
 (L_spec_l4Has none [.l ((rd a6 a1.toNat 3).list), .s a0]).bind fun y1 =>
 cond ((g y1 0).bool) (
 some [.i 6, .i 0, .i 0, .i 0, .i 0, .l ([]), .l ([]), .s (⟨#[]⟩ : ByteArray), .i 0, .s (⟨#[]⟩ : ByteArray), .s (⟨#[]⟩ : ByteArray), .l []]) (
 cond (inb a1 a6.length) (
 cond (!Eng.seq ((rd a6 a1.toNat 0).str) a0) (
 cond (inb a1 a6.length) (
 cond (decide (a18.length + ([[.s ((rd a6 a1.toNat 0).str), .i ((rd a6 a1.toNat 1).int), .s ((rd a6 a1.toNat 2).str), .l ((rd a6 a1.toNat 3).list)]] : Rw).length ≤ most)) (
 L_spec_l4Drop__plain (some 7) [.s a0, .i (IntKind.i64.wrap (a1 + 1)), .i a2, .i a3, .i a4, .i a5, .l a6, .l a7, .l a8, .i a9, .i a10, .i a11, .i a12, .i a13, .s a14, .i a15, .s a16, .s a17, .l (a18 ++ ([[.s ((rd a6 a1.toNat 0).str), .i ((rd a6 a1.toNat 1).int), .s ((rd a6 a1.toNat 2).str), .l ((rd a6 a1.toNat 3).list)]] : Rw)), .l a19, .l a20, .l a21]) (
 none)) (
 none)) (
 L_spec_l4Drop__plain (some 7) [.s a0, .i (IntKind.i64.wrap (a1 + 1)), .i a2, .i a3, .i a4, .i a5, .l a6, .l a7, .l a8, .i a9, .i a10, .i a11, .i a12, .i a13, .s a14, .i a15, .s a16, .s a17, .l a18, .l a19, .l a20, .l a21])) (
 none))) (
 none)) (
 some [.i 0, .i a2, .i a3, .i a4, .i a5, .l a7, .l a8, .s (⟨#[]⟩ : ByteArray), .i 0, .s (⟨#[]⟩ : ByteArray), .s (⟨#[]⟩ : ByteArray), .l a18]) := (Lim_eq _ _).trans (by kernel_rfl)
theorem k_spec_l4Drop__plain : SigOk Tryz.prog (d_spec_l4Drop__plain.sig (L_spec_l4Drop__plain none)) ∧ (d_spec_l4Drop__plain.sig (L_spec_l4Drop__plain none)).ok = true := sound_lim (known_cons k_spec_l4Find (by kernel_rfl) (known_cons k_spec_l4Has (by kernel_rfl) (known_cons k_spec_l4Held (by kernel_rfl) known_nil))) (by kernel_rfl) (by kernel_rfl) (by kernel_rfl)
def d_spec_l6Unit : FD := { fn := 157, nb := 0, pre := ⟨[.ag [.i .i64 0, .i .i64 1, .i .i64 2, .i .i64 3, .fz 90 false 4, .fz 156 false 5, .fz 158 false 6], .ag [.i .i64 7, .fz 9 false 8, .fz 9 false 9, .i .i64 10, .i .i64 11, .i .i64 12]], []⟩, post := ⟨[.ag [.i .i64 0, .i .i64 1, .i .i64 2, .i .i64 3, .i .i64 4, .fz 90 false 5, .fz 156 false 6, .fz 158 false 7, .i .i64 8, .fz 9 false 9, .fz 9 false 10, .i .i64 11, .i .i64 12, .i .i64 13, .ow 0]], [.rw 9 true 14]⟩, sh := true, cuts := [⟨15, [2, 3, 4, 6, 8, 9], ⟨[.sc (.pt 0 0), .sc (.pt 1 0), .sc (.pt 2 0), .sc (.ow 3), .sc (.fz 9 false 0), .sc (.i .i64 1)], [.bx [.i .i64 2, .i .i64 3, .i .i64 4, .i .i64 5, .fz 90 false 6, .fz 156 false 7, .fz 158 false 8], .bx [.i .i64 9, .fz 9 false 10, .ow 4, .i .i64 11, .i .i64 12, .i .i64 13], .bx [.i .i64 14, .i .i64 15, .i .i64 16, .i .i64 17, .i .i64 18, .ow 5, .ow 6, .ow 7, .i .i64 19, .ow 8, .ow 9, .i .i64 20, .i .i64 21, .i .i64 22, .ow 10], .rw 9 true 23, .rw 9 true 24, .rw 90 true 25, .rw 156 true 26, .rw 158 true 27, .rw 9 true 28, .rw 9 true 29, .rw 9 true 30]⟩⟩] }
noncomputable def L_spec_l6Unit : Option Nat → Lv → Option Lv := Lim Tryz.prog [d_spec_l4Find.sig (L_spec_l4Find none), d_spec_l4Has.sig (L_spec_l4Has none), d_spec_l5Roots.sig (L_spec_l5Roots none), d_spec_l6Next.sig (L_spec_l6Next none), d_spec_l4Drop__plain.sig (L_spec_l4Drop__plain none)] d_spec_l6Unit Tryz.f157
theorem e_spec_l6Unit_i (a0 : Int) (a1 : Int) (a2 : Int) (a3 : Int) (a4 : Rw) (a5 : Rw) (a6 : Rw) (a7 : Int) (a8 : Rw) (a9 : Rw) (a10 : Int) (a11 : Int) (a12 : Int) : L_spec_l6Unit none [.i a0, .i a1, .i a2, .i a3, .l a4, .l a5, .l a6, .i a7, .l a8, .l a9, .i a10, .i a11, .i a12] =
 cond (a7 == 0) (
 (L_spec_l5Roots none [.i a0, .i a1, .i a2, .i a3, .l a4, .l a5, .l a6]).bind fun y1 =>
 some [.i 0, .i a0, .i a1, .i a2, .i a3, .l a4, .l a5, .l a6, .i 1, .l ((g y1 0).list), .l a9, .i a3, .i (IntKind.i64.wrap (a3 + 1)), .i a12, .l []]) (
 cond (decide (0 < (a8.length : Int))) (
 cond (inb 0 a8.length) (
 cond (decide (1 ≤ (a8.length : Int))) (
 cond (decide (([] : Rw).length + (Eng.sub a8 1 a8.length).length ≤ most)) (
 (L_spec_l4Find none [.i a0, .i a1, .i a2, .i a3, .l a4, .l a5, .l a6, .s ((rd a8 0 0).str)]).bind fun y2 =>
 cond (decide (0 ≤ (g y2 0).int)) (
 (L_spec_l4Has none [.l a9, .s ((rd a8 0 0).str)]).bind fun y3 =>
 cond (!(g y3 0).bool) (
 cond (decide (([] : Rw).length + a9.length ≤ most)) (
 cond (decide ((([] : Rw) ++ a9).length + ([[.s ((rd a8 0 0).str)]] : Rw).length ≤ most)) (
 cond (inb ((g y2 0).int) a4.length) (
 L_spec_l6Unit (some 15) [.l ((rd a4 (((g y2 0).int).toNat) 3).list), .i 0, .i a0, .i a1, .i a2, .i a3, .l a4, .l a5, .l a6, .i a7, .l a8, .i a10, .i a11, .i a12, .i 0, .i 0, .i 0, .i 0, .i 0, .i 0, .i 0, .i 0, .i 0, .l (([] : Rw) ++ (Eng.sub a8 1 a8.length)), .l ((([] : Rw) ++ a9) ++ ([[.s ((rd a8 0 0).str)]] : Rw)), .l [], .l [], .l [], .l [], .l [], .l []]) (
 none)) (
 none)) (
 none)) (
 some [.i 0, .i a0, .i a1, .i a2, .i a3, .l a4, .l a5, .l a6, .i a7, .l (([] : Rw) ++ (Eng.sub a8 1 a8.length)), .l a9, .i a10, .i a11, .i a12, .l []])) (
 some [.i 0, .i a0, .i a1, .i a2, .i a3, .l a4, .l a5, .l a6, .i a7, .l (([] : Rw) ++ (Eng.sub a8 1 a8.length)), .l a9, .i a10, .i a11, .i a12, .l []])) (
 none)) (
 none)) (
 none)) (
 (L_spec_l6Next none [.i a0, .i a1, .i a2, .i a3, .l a4, .l a5, .l a6, .i a11]).bind fun y4 =>
 cond (decide ((g y4 0).int < 0)) (
 some [.i 0, .i a0, .i a1, .i a2, .i a3, .l a4, .l a5, .l a6, .i 0, .l ([]), .l ([]), .i 0, .i 0, .i (IntKind.i64.wrap (a12 + 1)), .l []]) (
 cond (inb ((g y4 0).int) a4.length) (
 cond (inb ((g y4 0).int) a4.length) (
 (L_spec_l4Has none [.l a9, .s ((rd a4 (((g y4 0).int).toNat) 0).str)]).bind fun y5 =>
 cond ((g y5 0).bool) (
 some [.i 0, .i a0, .i a1, .i a2, .i a3, .l a4, .l a5, .l a6, .i 2, .l a8, .l a9, .i a10, .i ((rd a4 (((g y4 0).int).toNat) 1).int), .i a12, .l []]) (
 (L_spec_l4Drop__plain none [.i a0, .i a1, .i a2, .i a3, .l a4, .l a5, .l a6, .s ((rd a4 (((g y4 0).int).toNat) 0).str)]).bind fun y6 =>
 cond ((g y6 0).int != 0) (
 some [.i 0, .i a0, .i a1, .i a2, .i a3, .l a4, .l a5, .l a6, .i 2, .l a8, .l a9, .i a10, .i ((rd a4 (((g y4 0).int).toNat) 1).int), .i a12, .l []]) (
 some [.i 0, .i ((g y6 1).int), .i ((g y6 2).int), .i ((g y6 3).int), .i ((g y6 4).int), .l ((g y6 11).list), .l ((g y6 5).list), .l ((g y6 6).list), .i 2, .l a8, .l a9, .i a10, .i ((rd a4 (((g y4 0).int).toNat) 1).int), .i a12, .l ([[.s ((rd a4 (((g y4 0).int).toNat) 0).str)]] : Rw)]))) (
 none)) (
 none)))) := (Lim_eq _ _).trans (by kernel_rfl)
theorem e_spec_l6Unit_15 (a0 : Rw) (a1 : Int) (a2 : Int) (a3 : Int) (a4 : Int) (a5 : Int) (a6 : Rw) (a7 : Rw) (a8 : Rw) (a9 : Int) (a10 : Rw) (a11 : Int) (a12 : Int) (a13 : Int) (a14 : Int) (a15 : Int) (a16 : Int) (a17 : Int) (a18 : Int) (a19 : Int) (a20 : Int) (a21 : Int) (a22 : Int) (a23 : Rw) (a24 : Rw) (a25 : Rw) (a26 : Rw) (a27 : Rw) (a28 : Rw) (a29 : Rw) (a30 : Rw) : L_spec_l6Unit (some 15) [.l a0, .i a1, .i a2, .i a3, .i a4, .i a5, .l a6, .l a7, .l a8, .i a9, .l a10, .i a11, .i a12, .i a13, .i a14, .i a15, .i a16, .i a17, .i a18, .i a19, .i a20, .i a21, .i a22, .l a23, .l a24, .l a25, .l a26, .l a27, .l a28, .l a29, .l a30] =
 cond (decide (a1 < (a0.length : Int))) (
 cond (inb a1 a0.length) (
 (L_spec_l4Has none [.l a24, .s ((rd a0 a1.toNat 0).str)]).bind fun y1 =>
 cond (!(g y1 0).bool) (
 cond (inb a1 a0.length) (
 cond (decide (a23.length + ([[.s ((rd a0 a1.toNat 0).str)]] : Rw).length ≤ most)) (
 L_spec_l6Unit (some 15) [.l a0, .i (IntKind.i64.wrap (a1 + 1)), .i a2, .i a3, .i a4, .i a5, .l a6, .l a7, .l a8, .i a9, .l a10, .i a11, .i a12, .i a13, .i a14, .i a15, .i a16, .i a17, .i a18, .i a19, .i a20, .i a21, .i a22, .l (a23 ++ ([[.s ((rd a0 a1.toNat 0).str)]] : Rw)), .l a24, .l a25, .l a26, .l a27, .l a28, .l a29, .l a30]) (
 none)) (
 none)) (
 L_spec_l6Unit (some 15) [.l a0, .i (IntKind.i64.wrap (a1 + 1)), .i a2, .i a3, .i a4, .i a5, .l a6, .l a7, .l a8, .i a9, .l a10, .i a11, .i a12, .i a13, .i a14, .i a15, .i a16, .i a17, .i a18, .i a19, .i a20, .i a21, .i a22, .l a23, .l a24, .l a25, .l a26, .l a27, .l a28, .l a29, .l a30])) (
 none)) (
 some [.i 0, .i a2, .i a3, .i a4, .i a5, .l a6, .l a7, .l a8, .i a9, .l a23, .l a24, .i a11, .i a12, .i a13, .l []]) := (Lim_eq _ _).trans (by kernel_rfl)
theorem k_spec_l6Unit : SigOk Tryz.prog (d_spec_l6Unit.sig (L_spec_l6Unit none)) ∧ (d_spec_l6Unit.sig (L_spec_l6Unit none)).ok = true := sound_lim (known_cons k_spec_l4Find (by kernel_rfl) (known_cons k_spec_l4Has (by kernel_rfl) (known_cons k_spec_l5Roots (by kernel_rfl) (known_cons k_spec_l6Next (by kernel_rfl) (known_cons k_spec_l4Drop__plain (by kernel_rfl) known_nil))))) (by kernel_rfl) (by kernel_rfl) (by kernel_rfl)
def d_spec_Clear : FD := { fn := 93, nb := 0, pre := ⟨[.ag [.i .i64 0, .i .i64 1, .fz 9 false 2, .fz 9 false 3, .i .i64 4, .i .i64 5, .i .i64 6, .i .i64 7, .fz 90 false 8, .fz 156 false 9, .fz 158 false 10, .i .i64 11, .fz 9 false 12, .fz 9 false 13, .i .i64 14, .i .i64 15, .i .i64 16], .sc (.i .i64 17)], []⟩, post := ⟨[.ag [.i .i64 0, .i .i64 1, .i .i64 2, .ow 0, .ow 1, .i .i64 3, .i .i64 4, .i .i64 5, .i .i64 6, .ow 2, .ow 3, .ow 4, .i .i64 7, .ow 5, .ow 6, .i .i64 8, .i .i64 9, .i .i64 10, .i .i64 11, .ow 7]], [.rw 9 true 12, .rw 9 true 13, .rw 90 true 14, .rw 156 true 15, .rw 158 true 16, .rw 9 true 17, .rw 9 true 18, .rw 9 true 19]⟩, sh := false, cuts := [⟨4, [1, 2, 4, 5], ⟨[.sc (.i .i64 0), .sc (.pt 0 0), .sc (.pt 1 0), .sc (.pt 2 0)], [.bx [.i .i64 1, .i .i64 2, .fz 9 false 3, .fz 9 false 4, .i .i64 5, .i .i64 6, .i .i64 7, .i .i64 8, .fz 90 false 9, .fz 156 false 10, .fz 158 false 11, .i .i64 12, .fz 9 false 13, .fz 9 false 14, .i .i64 15, .i .i64 16, .i .i64 17], .bx [.i .i64 18, .i .i64 19, .i .i64 20, .ow 3, .ow 4, .i .i64 21, .i .i64 22, .i .i64 23, .i .i64 24, .ow 5, .ow 6, .ow 7, .i .i64 25, .ow 8, .ow 9, .i .i64 26, .i .i64 27, .i .i64 28, .i .i64 29, .ow 10], .bx [.i .i64 30, .i .i64 31, .i .i64 32, .ow 11, .ow 12, .i .i64 33, .i .i64 34, .i .i64 35, .i .i64 36, .fz 90 true 37, .fz 156 true 38, .fz 158 true 39, .i .i64 40, .fz 9 true 41, .fz 9 true 42, .i .i64 43, .i .i64 44, .i .i64 45, .i .i64 46, .ow 13], .rw 9 true 47, .rw 9 true 48, .rw 90 true 49, .rw 156 true 50, .rw 158 true 51, .rw 9 true 52, .rw 9 true 53, .rw 9 true 54, .rw 9 true 55, .rw 9 true 56, .rw 9 true 57]⟩⟩] }
noncomputable def L_spec_Clear : Option Nat → Lv → Option Lv := Lim Tryz.prog [d_spec_FormEntry.sig (L_spec_FormEntry none), d_spec_l4Range.sig (L_spec_l4Range none), d_spec_ValidVault.sig (L_spec_ValidVault none), d_spec_l7Copy.sig (L_spec_l7Copy none), d_spec_l6Unit.sig (L_spec_l6Unit none)] d_spec_Clear Tryz.f93
theorem e_spec_Clear_i (a0 : Int) (a1 : Int) (a2 : Rw) (a3 : Rw) (a4 : Int) (a5 : Int) (a6 : Int) (a7 : Int) (a8 : Rw) (a9 : Rw) (a10 : Rw) (a11 : Int) (a12 : Rw) (a13 : Rw) (a14 : Int) (a15 : Int) (a16 : Int) (a17 : Int) : L_spec_Clear none [.i a0, .i a1, .l a2, .l a3, .i a4, .i a5, .i a6, .i a7, .l a8, .l a9, .l a10, .i a11, .l a12, .l a13, .i a14, .i a15, .i a16, .i a17] =
 (L_spec_ValidVault none [.i a0, .i a1, .l a2, .l a3, .i a4, .i a5, .i a6, .i a7, .l a8, .l a9, .l a10, .i a11, .l a12, .l a13, .i a14, .i a15, .i a16]).bind fun y1 =>
 cond (!(g y1 0).bool) (
 some [.i 1, .i 0, .i 0, .i 0, .i 0, .i 0, .i 0, .i 0, .i 0, .i 0, .i 0, .i 0, .l [], .l [], .l [], .l [], .l [], .l [], .l [], .l []]) (
 (L_spec_l4Range none [.i a17, .i 0, .i 10000]).bind fun y2 =>
 cond (!(g y2 0).bool) (
 some [.i 1, .i 0, .i 0, .i 0, .i 0, .i 0, .i 0, .i 0, .i 0, .i 0, .i 0, .i 0, .l [], .l [], .l [], .l [], .l [], .l [], .l [], .l []]) (
 (L_spec_l7Copy none [.i a0, .i a1, .l a2, .l a3, .i a4, .i a5, .i a6, .i a7, .l a8, .l a9, .l a10, .i a11, .l a12, .l a13, .i a14, .i a15, .i a16]).bind fun y3 =>
 L_spec_Clear (some 4) [.i a17, .i a0, .i a1, .l a2, .l a3, .i a4, .i a5, .i a6, .i a7, .l a8, .l a9, .l a10, .i a11, .l a12, .l a13, .i a14, .i a15, .i a16, .i 0, .i 0, .i 0, .i 0, .i 0, .i 0, .i 0, .i 0, .i 0, .i 0, .i 0, .i 0, .i 0, .i ((g y3 0).int), .i ((g y3 1).int), .i ((g y3 2).int), .i ((g y3 3).int), .i ((g y3 4).int), .i ((g y3 5).int), .l ((g y3 12).list), .l ((g y3 13).list), .l ((g y3 14).list), .i ((g y3 6).int), .l ((g y3 15).list), .l ((g y3 16).list), .i ((g y3 7).int), .i ((g y3 8).int), .i ((g y3 9).int), .i 0, .l [], .l [], .l [], .l [], .l [], .l [], .l [], .l [], .l ((g y3 10).list), .l ((g y3 11).list), .l []])) := (Lim_eq _ _).trans (by kernel_rfl)
theorem e_spec_Clear_4 (a0 : Int) (a1 : Int) (a2 : Int) (a3 : Rw) (a4 : Rw) (a5 : Int) (a6 : Int) (a7 : Int) (a8 : Int) (a9 : Rw) (a10 : Rw) (a11 : Rw) (a12 : Int) (a13 : Rw) (a14 : Rw) (a15 : Int) (a16 : Int) (a17 : Int) (a18 : Int) (a19 : Int) (a20 : Int) (a21 : Int) (a22 : Int) (a23 : Int) (a24 : Int) (a25 : Int) (a26 : Int) (a27 : Int) (a28 : Int) (a29 : Int) (a30 : Int) (a31 : Int) (a32 : Int) (a33 : Int) (a34 : Int) (a35 : Int) (a36 : Int) (a37 : Rw) (a38 : Rw) (a39 : Rw) (a40 : Int) (a41 : Rw) (a42 : Rw) (a43 : Int) (a44 : Int) (a45 : Int) (a46 : Int) (a47 : Rw) (a48 : Rw) (a49 : Rw) (a50 : Rw) (a51 : Rw) (a52 : Rw) (a53 : Rw) (a54 : Rw) (a55 : Rw) (a56 : Rw) (a57 : Rw) : L_spec_Clear (some 4) [.i a0, .i a1, .i a2, .l a3, .l a4, .i a5, .i a6, .i a7, .i a8, .l a9, .l a10, .l a11, .i a12, .l a13, .l a14, .i a15, .i a16, .i a17, .i a18, .i a19, .i a20, .i a21, .i a22, .i a23, .i a24, .i a25, .i a26, .i a27, .i a28, .i a29, .i a30, .i a31, .i a32, .i a33, .i a34, .i a35, .i a36, .l a37, .l a38, .l a39, .i a40, .l a41, .l a42, .i a43, .i a44, .i a45, .i a46, .l a47, .l a48, .l a49, .l a50, .l a51, .l a52, .l a53, .l a54, .l a55, .l a56, .l a57] =
 cond (decide (a46 < a0)) (
 cond (decide (1000000000 ≤ a45)) (
 some [.i 1, .i 0, .i 0, .i 0, .i 0, .i 0, .i 0, .i 0, .i 0, .i 0, .i 0, .i 0, .l [], .l [], .l [], .l [], .l [], .l [], .l [], .l []]) (
 (L_spec_l6Unit none [.i a33, .i a34, .i a35, .i a36, .l a37, .l a38, .l a39, .i a40, .l a41, .l a42, .i a43, .i a44, .i a45]).bind fun y1 =>
 cond (decide (23200 < (((g y1 9).list).length : Int))) (
 some [.i 1, .i 0, .i 0, .i 0, .i 0, .i 0, .i 0, .i 0, .i 0, .i 0, .i 0, .i 0, .l [], .l [], .l [], .l [], .l [], .l [], .l [], .l []]) (
 cond (decide (600 < (((g y1 10).list).length : Int))) (
 some [.i 1, .i 0, .i 0, .i 0, .i 0, .i 0, .i 0, .i 0, .i 0, .i 0, .i 0, .i 0, .l [], .l [], .l [], .l [], .l [], .l [], .l [], .l []]) (
 cond (decide (0 < (((g y1 14).list).length : Int))) (
 cond (decide (4000 ≤ (IntKind.i64.wrap ((a55.length : Int) + (a56.length : Int))))) (
 (L_spec_l7Copy none [.i a31, .i a32, .l a55, .l a56, .i a33, .i a34, .i a35, .i a36, .l a37, .l a38, .l a39, .i a40, .l a41, .l a42, .i a43, .i a44, .i a45]).bind fun y2 =>
 some [.i a30, .i ((g y2 0).int), .i ((g y2 1).int), .i ((g y2 2).int), .i ((g y2 3).int), .i ((g y2 4).int), .i ((g y2 5).int), .i ((g y2 6).int), .i ((g y2 7).int), .i ((g y2 8).int), .i ((g y2 9).int), .i a46, .l ((g y2 10).list), .l ((g y2 11).list), .l ((g y2 12).list), .l ((g y2 13).list), .l ((g y2 14).list), .l ((g y2 15).list), .l ((g y2 16).list), .l a57]) (
 cond (inb 0 (((g y1 14).list).length)) (
 (L_spec_FormEntry none [.i 7, .s ((rd ((g y1 14).list) 0 0).str), .s (⟨#[]⟩ : ByteArray), .i 0, .s (⟨#[]⟩ : ByteArray), .l ([]), .i a1]).bind fun y3 =>
 cond (decide (a56.length + ([[.s ((g y3 0).str)]] : Rw).length ≤ most)) (
 cond (inb 0 (((g y1 14).list).length)) (
 cond (decide (a57.length + ([[.s ((rd ((g y1 14).list) 0 0).str)]] : Rw).length ≤ most)) (
 L_spec_Clear (some 4) [.i a0, .i a1, .i a2, .l a3, .l a4, .i a5, .i a6, .i a7, .i a8, .l a9, .l a10, .l a11, .i a12, .l a13, .l a14, .i a15, .i a16, .i a17, .i a18, .i a19, .i a20, .i a21, .i a22, .i a23, .i a24, .i a25, .i a26, .i a27, .i a28, .i a29, .i a30, .i a31, .i a32, .i ((g y1 1).int), .i ((g y1 2).int), .i ((g y1 3).int), .i ((g y1 4).int), .l ((g y1 5).list), .l ((g y1 6).list), .l ((g y1 7).list), .i ((g y1 8).int), .l ((g y1 9).list), .l ((g y1 10).list), .i ((g y1 11).int), .i ((g y1 12).int), .i ((g y1 13).int), .i (IntKind.i64.wrap (a46 + 1)), .l a47, .l a48, .l a49, .l a50, .l a51, .l a52, .l a53, .l a54, .l a55, .l (a56 ++ ([[.s ((g y3 0).str)]] : Rw)), .l (a57 ++ ([[.s ((rd ((g y1 14).list) 0 0).str)]] : Rw))]) (
 none)) (
 none)) (
 none)) (
 none))) (
 L_spec_Clear (some 4) [.i a0, .i a1, .i a2, .l a3, .l a4, .i a5, .i a6, .i a7, .i a8, .l a9, .l a10, .l a11, .i a12, .l a13, .l a14, .i a15, .i a16, .i a17, .i a18, .i a19, .i a20, .i a21, .i a22, .i a23, .i a24, .i a25, .i a26, .i a27, .i a28, .i a29, .i a30, .i a31, .i a32, .i ((g y1 1).int), .i ((g y1 2).int), .i ((g y1 3).int), .i ((g y1 4).int), .l ((g y1 5).list), .l ((g y1 6).list), .l ((g y1 7).list), .i ((g y1 8).int), .l ((g y1 9).list), .l ((g y1 10).list), .i ((g y1 11).int), .i ((g y1 12).int), .i ((g y1 13).int), .i (IntKind.i64.wrap (a46 + 1)), .l a47, .l a48, .l a49, .l a50, .l a51, .l a52, .l a53, .l a54, .l a55, .l a56, .l a57]))))) (
 (L_spec_l7Copy none [.i a31, .i a32, .l a55, .l a56, .i a33, .i a34, .i a35, .i a36, .l a37, .l a38, .l a39, .i a40, .l a41, .l a42, .i a43, .i a44, .i a45]).bind fun y4 =>
 some [.i a30, .i ((g y4 0).int), .i ((g y4 1).int), .i ((g y4 2).int), .i ((g y4 3).int), .i ((g y4 4).int), .i ((g y4 5).int), .i ((g y4 6).int), .i ((g y4 7).int), .i ((g y4 8).int), .i ((g y4 9).int), .i a46, .l ((g y4 10).list), .l ((g y4 11).list), .l ((g y4 12).list), .l ((g y4 13).list), .l ((g y4 14).list), .l ((g y4 15).list), .l ((g y4 16).list), .l a57]) := (Lim_eq _ _).trans (by kernel_rfl)
theorem k_spec_Clear : SigOk Tryz.prog (d_spec_Clear.sig (L_spec_Clear none)) ∧ (d_spec_Clear.sig (L_spec_Clear none)).ok = true := sound_lim (known_cons k_spec_FormEntry (by kernel_rfl) (known_cons k_spec_l4Range (by kernel_rfl) (known_cons k_spec_ValidVault (by kernel_rfl) (known_cons k_spec_l7Copy (by kernel_rfl) (known_cons k_spec_l6Unit (by kernel_rfl) known_nil))))) (by kernel_rfl) (by kernel_rfl) (by kernel_rfl)
def d_laws_wMoments : FD := { fn := 24, nb := 0, pre := ⟨[.ag [.i .i64 0, .i .i64 1, .fz 9 false 2, .fz 9 false 3, .i .i64 4, .i .i64 5, .i .i64 6, .i .i64 7, .fz 90 false 8, .fz 156 false 9, .fz 158 false 10, .i .i64 11, .fz 9 false 12, .fz 9 false 13, .i .i64 14, .i .i64 15, .i .i64 16], .sc (.i .i64 17)], []⟩, post := ⟨[.sc (.ow 0)], [.rw 30 true 0]⟩, sh := false, cuts := [⟨3, [1, 2, 5, 6], ⟨[.sc (.i .i64 0), .sc (.pt 0 0), .sc (.ow 1), .sc (.i .i64 1)], [.bx [.i .i64 2, .i .i64 3, .fz 9 false 4, .fz 9 false 5, .i .i64 6, .i .i64 7, .i .i64 8, .i .i64 9, .fz 90 false 10, .fz 156 false 11, .fz 158 false 12, .i .i64 13, .fz 9 false 14, .fz 9 false 15, .i .i64 16, .i .i64 17, .i .i64 18], .rw 30 true 19]⟩⟩] }
noncomputable def L_laws_wMoments : Option Nat → Lv → Option Lv := Lim Tryz.prog [d_spec_Clear.sig (L_spec_Clear none)] d_laws_wMoments Tryz.f24
theorem e_laws_wMoments_i (a0 : Int) (a1 : Int) (a2 : Rw) (a3 : Rw) (a4 : Int) (a5 : Int) (a6 : Int) (a7 : Int) (a8 : Rw) (a9 : Rw) (a10 : Rw) (a11 : Int) (a12 : Rw) (a13 : Rw) (a14 : Int) (a15 : Int) (a16 : Int) (a17 : Int) : L_laws_wMoments none [.i a0, .i a1, .l a2, .l a3, .i a4, .i a5, .i a6, .i a7, .l a8, .l a9, .l a10, .i a11, .l a12, .l a13, .i a14, .i a15, .i a16, .i a17] =
 L_laws_wMoments (some 3) [.i a17, .i 1, .i a0, .i a1, .l a2, .l a3, .i a4, .i a5, .i a6, .i a7, .l a8, .l a9, .l a10, .i a11, .l a12, .l a13, .i a14, .i a15, .i a16, .l ([] : Rw)] := (Lim_eq _ _).trans (by kernel_rfl)
theorem e_laws_wMoments_3 (a0 : Int) (a1 : Int) (a2 : Int) (a3 : Int) (a4 : Rw) (a5 : Rw) (a6 : Int) (a7 : Int) (a8 : Int) (a9 : Int) (a10 : Rw) (a11 : Rw) (a12 : Rw) (a13 : Int) (a14 : Rw) (a15 : Rw) (a16 : Int) (a17 : Int) (a18 : Int) (a19 : Rw) : L_laws_wMoments (some 3) [.i a0, .i a1, .i a2, .i a3, .l a4, .l a5, .i a6, .i a7, .i a8, .i a9, .l a10, .l a11, .l a12, .i a13, .l a14, .l a15, .i a16, .i a17, .i a18, .l a19] =
 cond (decide (a1 < a0)) (
 (L_spec_Clear none [.i a2, .i a3, .l a4, .l a5, .i a6, .i a7, .i a8, .i a9, .l a10, .l a11, .l a12, .i a13, .l a14, .l a15, .i a16, .i a17, .i a18, .i a1]).bind fun y1 =>
 cond (decide (a19.length + ([[.i ((g y1 3).int), .i ((g y1 4).int), .i ((g y1 5).int), .i ((g y1 6).int), .l ((g y1 14).list), .l ((g y1 15).list), .l ((g y1 16).list)]] : Rw).length ≤ most)) (
 L_laws_wMoments (some 3) [.i a0, .i (IntKind.i64.wrap (a1 + 1)), .i a2, .i a3, .l a4, .l a5, .i a6, .i a7, .i a8, .i a9, .l a10, .l a11, .l a12, .i a13, .l a14, .l a15, .i a16, .i a17, .i a18, .l (a19 ++ ([[.i ((g y1 3).int), .i ((g y1 4).int), .i ((g y1 5).int), .i ((g y1 6).int), .l ((g y1 14).list), .l ((g y1 15).list), .l ((g y1 16).list)]] : Rw))]) (
 none)) (
 some [.l a19]) := (Lim_eq _ _).trans (by kernel_rfl)
theorem k_laws_wMoments : SigOk Tryz.prog (d_laws_wMoments.sig (L_laws_wMoments none)) ∧ (d_laws_wMoments.sig (L_laws_wMoments none)).ok = true := sound_lim (known_cons k_spec_Clear (by kernel_rfl) known_nil) (by kernel_rfl) (by kernel_rfl) (by kernel_rfl)
def d_spec_l4ThingsOk : FD := { fn := 126, nb := 0, pre := ⟨[.ag [.i .i64 0, .i .i64 1, .i .i64 2, .i .i64 3, .fz 90 false 4, .fz 156 false 5, .fz 158 false 6]], []⟩, post := ⟨[.sc (.b 0)], []⟩, sh := false, cuts := [⟨4, [1, 3, 4, 5], ⟨[.sc (.pt 0 0), .sc (.ow 1), .sc (.ow 2), .sc (.i .i64 0)], [.bx [.i .i64 1, .i .i64 2, .i .i64 3, .i .i64 4, .fz 90 false 5, .fz 156 false 6, .fz 158 false 7], .rw 4 true 8, .rw 3 true 9]⟩⟩, ⟨14, [1, 3, 4, 5, 6, 7], ⟨[.sc (.pt 0 0), .sc (.ow 1), .sc (.ow 2), .sc (.i .i64 0), .sc (.pt 3 0), .sc (.i .i64 1)], [.bx [.i .i64 2, .i .i64 3, .i .i64 4, .i .i64 5, .fz 90 false 6, .fz 156 false 7, .fz 158 false 8], .rw 4 true 9, .rw 3 true 10, .bx [.s 11, .i .i64 12, .s 13, .fz 9 false 14]]⟩⟩, ⟨20, [1, 8], ⟨[.sc (.pt 0 0), .sc (.i .i64 0)], [.bx [.i .i64 1, .i .i64 2, .i .i64 3, .i .i64 4, .fz 90 false 5, .fz 156 false 6, .fz 158 false 7]]⟩⟩, ⟨23, [1, 8, 9], ⟨[.sc (.pt 0 0), .sc (.i .i64 0), .sc (.i .i64 1)], [.bx [.i .i64 2, .i .i64 3, .i .i64 4, .i .i64 5, .fz 90 false 6, .fz 156 false 7, .fz 158 false 8]]⟩⟩] }
noncomputable def L_spec_l4ThingsOk : Option Nat → Lv → Option Lv := Lim Tryz.prog [d_spec_l1ThingOk.sig (L_spec_l1ThingOk none), d_spec_FormThing.sig (L_spec_FormThing none), d_spec_Sum.sig (L_spec_Sum none), d_spec_l4Find.sig (L_spec_l4Find none), d_spec_l4Range.sig (L_spec_l4Range none)] d_spec_l4ThingsOk Tryz.f126
theorem e_spec_l4ThingsOk_i (a0 : Int) (a1 : Int) (a2 : Int) (a3 : Int) (a4 : Rw) (a5 : Rw) (a6 : Rw) : L_spec_l4ThingsOk none [.i a0, .i a1, .i a2, .i a3, .l a4, .l a5, .l a6] =
 L_spec_l4ThingsOk (some 4) [.i 0, .i a0, .i a1, .i a2, .i a3, .l a4, .l a5, .l a6, .l (List.replicate 601 ([.b false] : List C)), .l ([] : Rw)] := (Lim_eq _ _).trans (by kernel_rfl)
theorem e_spec_l4ThingsOk_4 (a0 : Int) (a1 : Int) (a2 : Int) (a3 : Int) (a4 : Int) (a5 : Rw) (a6 : Rw) (a7 : Rw) (a8 : Rw) (a9 : Rw) : L_spec_l4ThingsOk (some 4) [.i a0, .i a1, .i a2, .i a3, .i a4, .l a5, .l a6, .l a7, .l a8, .l a9] =
 cond (decide (a0 < (a5.length : Int))) (
 cond (inb a0 a5.length) (
 (L_spec_l1ThingOk none [.s ((rd a5 a0.toNat 2).str), .l ((rd a5 a0.toNat 3).list), .i a1]).bind fun y1 =>
 cond (!(g y1 0).bool) (
 some [.b false]) (
 (L_spec_FormThing none [.s ((rd a5 a0.toNat 2).str), .l ((rd a5 a0.toNat 3).list), .i a1]).bind fun y2 =>
 (L_spec_Sum none [.s ((g y2 0).str), .i a1]).bind fun y3 =>
 cond (!Eng.seq ((rd a5 a0.toNat 0).str) ((g y3 0).str)) (
 some [.b false]) (
 cond (decide (0 < a0)) (
 cond (inb (IntKind.i64.wrap (a0 - 1)) a5.length) (
 cond (!slt ((rd a5 ((IntKind.i64.wrap (a0 - 1)).toNat) 0).str) ((rd a5 a0.toNat 0).str)) (
 some [.b false]) (
 (L_spec_l4Range none [.i ((rd a5 a0.toNat 1).int), .i 1, .i a4]).bind fun y4 =>
 cond (!(g y4 0).bool) (
 some [.b false]) (
 cond (decide ((rd a5 a0.toNat 1).int ≤ 600)) (
 cond (inb ((rd a5 a0.toNat 1).int) a8.length) (
 cond ((rd a8 (((rd a5 a0.toNat 1).int).toNat) 0).bool) (
 some [.b false]) (
 cond (inb ((rd a5 a0.toNat 1).int) a8.length) (
 L_spec_l4ThingsOk (some 4) [.i (IntKind.i64.wrap (a0 + 1)), .i a1, .i a2, .i a3, .i a4, .l a5, .l a6, .l a7, .l (wrs a8 (((rd a5 a0.toNat 1).int).toNat) 0 ([.b true] : List C)), .l a9]) (
 none))) (
 none)) (
 L_spec_l4ThingsOk (some 14) [.i a0, .i 0, .i a1, .i a2, .i a3, .i a4, .l a5, .l a6, .l a7, .l a8, .l a9, .s ((rd a5 a0.toNat 0).str), .i ((rd a5 a0.toNat 1).int), .s ((rd a5 a0.toNat 2).str), .l ((rd a5 a0.toNat 3).list)])))) (
 none)) (
 (L_spec_l4Range none [.i ((rd a5 a0.toNat 1).int), .i 1, .i a4]).bind fun y5 =>
 cond (!(g y5 0).bool) (
 some [.b false]) (
 cond (decide ((rd a5 a0.toNat 1).int ≤ 600)) (
 cond (inb ((rd a5 a0.toNat 1).int) a8.length) (
 cond ((rd a8 (((rd a5 a0.toNat 1).int).toNat) 0).bool) (
 some [.b false]) (
 cond (inb ((rd a5 a0.toNat 1).int) a8.length) (
 L_spec_l4ThingsOk (some 4) [.i (IntKind.i64.wrap (a0 + 1)), .i a1, .i a2, .i a3, .i a4, .l a5, .l a6, .l a7, .l (wrs a8 (((rd a5 a0.toNat 1).int).toNat) 0 ([.b true] : List C)), .l a9]) (
 none))) (
 none)) (
 L_spec_l4ThingsOk (some 14) [.i a0, .i 0, .i a1, .i a2, .i a3, .i a4, .l a5, .l a6, .l a7, .l a8, .l a9, .s ((rd a5 a0.toNat 0).str), .i ((rd a5 a0.toNat 1).int), .s ((rd a5 a0.toNat 2).str), .l ((rd a5 a0.toNat 3).list)])))))) (
 none)) (
 L_spec_l4ThingsOk (some 20) [.i 0, .i a1, .i a2, .i a3, .i a4, .l a5, .l a6, .l a7]) := (Lim_eq _ _).trans (by kernel_rfl)
theorem e_spec_l4ThingsOk_14 (a0 : Int) (a1 : Int) (a2 : Int) (a3 : Int) (a4 : Int) (a5 : Int) (a6 : Rw) (a7 : Rw) (a8 : Rw) (a9 : Rw) (a10 : Rw) (a11 : ByteArray) (a12 : Int) (a13 : ByteArray) (a14 : Rw) : L_spec_l4ThingsOk (some 14) [.i a0, .i a1, .i a2, .i a3, .i a4, .i a5, .l a6, .l a7, .l a8, .l a9, .l a10, .s a11, .i a12, .s a13, .l a14] =
 cond (decide (a1 < (a10.length : Int))) (
 cond (inb a1 a10.length) (
 cond ((rd a10 a1.toNat 0).int == a12) (
 some [.b false]) (
 L_spec_l4ThingsOk (some 14) [.i a0, .i (IntKind.i64.wrap (a1 + 1)), .i a2, .i a3, .i a4, .i a5, .l a6, .l a7, .l a8, .l a9, .l a10, .s a11, .i a12, .s a13, .l a14])) (
 none)) (
 cond (decide (a10.length + ([[.i a12]] : Rw).length ≤ most)) (
 L_spec_l4ThingsOk (some 4) [.i (IntKind.i64.wrap (a0 + 1)), .i a2, .i a3, .i a4, .i a5, .l a6, .l a7, .l a8, .l a9, .l (a10 ++ ([[.i a12]] : Rw))]) (
 none)) := (Lim_eq _ _).trans (by kernel_rfl)
theorem e_spec_l4ThingsOk_20 (a0 : Int) (a1 : Int) (a2 : Int) (a3 : Int) (a4 : Int) (a5 : Rw) (a6 : Rw) (a7 : Rw) : L_spec_l4ThingsOk (some 20) [.i a0, .i a1, .i a2, .i a3, .i a4, .l a5, .l a6, .l a7] =
 cond (decide (a0 < (a5.length : Int))) (
 L_spec_l4ThingsOk (some 23) [.i a0, .i 0, .i a1, .i a2, .i a3, .i a4, .l a5, .l a6, .l a7]) (
 some [.b true]) := (Lim_eq _ _).trans (by kernel_rfl)
theorem e_spec_l4ThingsOk_23 (a0 : Int) (a1 : Int) (a2 : Int) (a3 : Int) (a4 : Int) (a5 : Int) (a6 : Rw) (a7 : Rw) (a8 : Rw) : L_spec_l4ThingsOk (some 23) [.i a0, .i a1, .i a2, .i a3, .i a4, .i a5, .l a6, .l a7, .l a8] =
 cond (inb a0 a6.length) (
 cond (decide (a1 < (((rd a6 a0.toNat 3).list).length : Int))) (
 cond (inb a0 a6.length) (
 cond (inb a1 (((rd a6 a0.toNat 3).list).length)) (
 (L_spec_l4Find none [.i a2, .i a3, .i a4, .i a5, .l a6, .l a7, .l a8, .s ((rd ((rd a6 a0.toNat 3).list) a1.toNat 0).str)]).bind fun y1 =>
 cond (decide ((g y1 0).int < 0)) (
 some [.b false]) (
 cond (inb ((g y1 0).int) a6.length) (
 cond (inb a0 a6.length) (
 cond (decide ((rd a6 a0.toNat 1).int ≤ (rd a6 (((g y1 0).int).toNat) 1).int)) (
 some [.b false]) (
 L_spec_l4ThingsOk (some 23) [.i a0, .i (IntKind.i64.wrap (a1 + 1)), .i a2, .i a3, .i a4, .i a5, .l a6, .l a7, .l a8])) (
 none)) (
 none))) (
 none)) (
 none)) (
 L_spec_l4ThingsOk (some 20) [.i (IntKind.i64.wrap (a0 + 1)), .i a2, .i a3, .i a4, .i a5, .l a6, .l a7, .l a8])) (
 none) := (Lim_eq _ _).trans (by kernel_rfl)
theorem k_spec_l4ThingsOk : SigOk Tryz.prog (d_spec_l4ThingsOk.sig (L_spec_l4ThingsOk none)) ∧ (d_spec_l4ThingsOk.sig (L_spec_l4ThingsOk none)).ok = true := sound_lim (known_cons k_spec_l1ThingOk (by kernel_rfl) (known_cons k_spec_FormThing (by kernel_rfl) (known_cons k_spec_Sum (by kernel_rfl) (known_cons k_spec_l4Find (by kernel_rfl) (known_cons k_spec_l4Range (by kernel_rfl) known_nil))))) (by kernel_rfl) (by kernel_rfl) (by kernel_rfl)
def d_spec_ValidState : FD := { fn := 42, nb := 0, pre := ⟨[.ag [.i .i64 0, .i .i64 1, .i .i64 2, .i .i64 3, .fz 90 false 4, .fz 156 false 5, .fz 158 false 6]], []⟩, post := ⟨[.sc (.b 0)], []⟩, sh := false, cuts := [⟨6, [1, 3], ⟨[.sc (.pt 0 0), .sc (.i .i64 0)], [.bx [.i .i64 1, .i .i64 2, .i .i64 3, .i .i64 4, .fz 90 false 5, .fz 156 false 6, .fz 158 false 7]]⟩⟩, ⟨11, [1, 4], ⟨[.sc (.pt 0 0), .sc (.i .i64 0)], [.bx [.i .i64 1, .i .i64 2, .i .i64 3, .i .i64 4, .fz 90 false 5, .fz 156 false 6, .fz 158 false 7]]⟩⟩] }
noncomputable def L_spec_ValidState : Option Nat → Lv → Option Lv := Lim Tryz.prog [d_spec_l1Width.sig (L_spec_l1Width none), d_spec_l3NameOk.sig (L_spec_l3NameOk none), d_spec_l4Find.sig (L_spec_l4Find none), d_spec_l4Range.sig (L_spec_l4Range none), d_spec_l4ThingsOk.sig (L_spec_l4ThingsOk none)] d_spec_ValidState Tryz.f42
theorem e_spec_ValidState_i (a0 : Int) (a1 : Int) (a2 : Int) (a3 : Int) (a4 : Rw) (a5 : Rw) (a6 : Rw) : L_spec_ValidState none [.i a0, .i a1, .i a2, .i a3, .l a4, .l a5, .l a6] =
 (L_spec_l1Width none [.i a0]).bind fun y1 =>
 cond (!(g y1 0).bool) (
 some [.b false]) (
 (L_spec_l4Range none [.i a1, .i 0, .i 1000000000]).bind fun y2 =>
 cond (!(g y2 0).bool) (
 some [.b false]) (
 (L_spec_l4Range none [.i a2, .i 0, .i 1000000000]).bind fun y3 =>
 cond (!(g y3 0).bool) (
 some [.b false]) (
 (L_spec_l4Range none [.i a3, .i 0, .i 1000000000]).bind fun y4 =>
 cond (!(g y4 0).bool) (
 some [.b false]) (
 cond (decide (600 < (a4.length : Int))) (
 some [.b false]) (
 cond (decide (100 < (a5.length : Int))) (
 some [.b false]) (
 cond (decide (200 < (a6.length : Int))) (
 some [.b false]) (
 (L_spec_l4ThingsOk none [.i a0, .i a1, .i a2, .i a3, .l a4, .l a5, .l a6]).bind fun y5 =>
 cond (!(g y5 0).bool) (
 some [.b false]) (
 L_spec_ValidState (some 6) [.i 0, .i a0, .i a1, .i a2, .i a3, .l a4, .l a5, .l a6])))))))) := (Lim_eq _ _).trans (by kernel_rfl)
theorem e_spec_ValidState_6 (a0 : Int) (a1 : Int) (a2 : Int) (a3 : Int) (a4 : Int) (a5 : Rw) (a6 : Rw) (a7 : Rw) : L_spec_ValidState (some 6) [.i a0, .i a1, .i a2, .i a3, .i a4, .l a5, .l a6, .l a7] =
 cond (decide (a0 < (a6.length : Int))) (
 cond (inb a0 a6.length) (
 (L_spec_l3NameOk none [.s ((rd a6 a0.toNat 0).str)]).bind fun y1 =>
 cond (!(g y1 0).bool) (
 some [.b false]) (
 cond (decide (0 < a0)) (
 cond (inb (IntKind.i64.wrap (a0 - 1)) a6.length) (
 cond (inb a0 a6.length) (
 cond (!slt ((rd a6 ((IntKind.i64.wrap (a0 - 1)).toNat) 0).str) ((rd a6 a0.toNat 0).str)) (
 some [.b false]) (
 cond (inb a0 a6.length) (
 (L_spec_l4Find none [.i a1, .i a2, .i a3, .i a4, .l a5, .l a6, .l a7, .s ((rd a6 a0.toNat 1).str)]).bind fun y2 =>
 cond (decide ((g y2 0).int < 0)) (
 some [.b false]) (
 L_spec_ValidState (some 6) [.i (IntKind.i64.wrap (a0 + 1)), .i a1, .i a2, .i a3, .i a4, .l a5, .l a6, .l a7])) (
 none))) (
 none)) (
 none)) (
 cond (inb a0 a6.length) (
 (L_spec_l4Find none [.i a1, .i a2, .i a3, .i a4, .l a5, .l a6, .l a7, .s ((rd a6 a0.toNat 1).str)]).bind fun y3 =>
 cond (decide ((g y3 0).int < 0)) (
 some [.b false]) (
 L_spec_ValidState (some 6) [.i (IntKind.i64.wrap (a0 + 1)), .i a1, .i a2, .i a3, .i a4, .l a5, .l a6, .l a7])) (
 none)))) (
 none)) (
 L_spec_ValidState (some 11) [.i 0, .i a1, .i a2, .i a3, .i a4, .l a5, .l a6, .l a7]) := (Lim_eq _ _).trans (by kernel_rfl)
theorem e_spec_ValidState_11 (a0 : Int) (a1 : Int) (a2 : Int) (a3 : Int) (a4 : Int) (a5 : Rw) (a6 : Rw) (a7 : Rw) : L_spec_ValidState (some 11) [.i a0, .i a1, .i a2, .i a3, .i a4, .l a5, .l a6, .l a7] =
 cond (decide (a0 < (a7.length : Int))) (
 cond (inb a0 a7.length) (
 (L_spec_l4Range none [.i ((rd a7 a0.toNat 0).int), .i 1, .i a3]).bind fun y1 =>
 cond (!(g y1 0).bool) (
 some [.b false]) (
 cond (decide (0 < a0)) (
 cond (inb (IntKind.i64.wrap (a0 - 1)) a7.length) (
 cond (decide ((rd a7 a0.toNat 0).int ≤ (rd a7 ((IntKind.i64.wrap (a0 - 1)).toNat) 0).int)) (
 some [.b false]) (
 (L_spec_l4Find none [.i a1, .i a2, .i a3, .i a4, .l a5, .l a6, .l a7, .s ((rd a7 a0.toNat 1).str)]).bind fun y2 =>
 cond (decide ((g y2 0).int < 0)) (
 some [.b false]) (
 cond (decide ((rd a7 a0.toNat 2).int ≤ a2)) (
 some [.b false]) (
 cond (decide ((IntKind.i64.wrap (a2 + 100000)) < (rd a7 a0.toNat 2).int)) (
 some [.b false]) (
 L_spec_ValidState (some 11) [.i (IntKind.i64.wrap (a0 + 1)), .i a1, .i a2, .i a3, .i a4, .l a5, .l a6, .l a7]))))) (
 none)) (
 (L_spec_l4Find none [.i a1, .i a2, .i a3, .i a4, .l a5, .l a6, .l a7, .s ((rd a7 a0.toNat 1).str)]).bind fun y3 =>
 cond (decide ((g y3 0).int < 0)) (
 some [.b false]) (
 cond (decide ((rd a7 a0.toNat 2).int ≤ a2)) (
 some [.b false]) (
 cond (decide ((IntKind.i64.wrap (a2 + 100000)) < (rd a7 a0.toNat 2).int)) (
 some [.b false]) (
 L_spec_ValidState (some 11) [.i (IntKind.i64.wrap (a0 + 1)), .i a1, .i a2, .i a3, .i a4, .l a5, .l a6, .l a7])))))) (
 none)) (
 some [.b true]) := (Lim_eq _ _).trans (by kernel_rfl)
theorem k_spec_ValidState : SigOk Tryz.prog (d_spec_ValidState.sig (L_spec_ValidState none)) ∧ (d_spec_ValidState.sig (L_spec_ValidState none)).ok = true := sound_lim (known_cons k_spec_l1Width (by kernel_rfl) (known_cons k_spec_l3NameOk (by kernel_rfl) (known_cons k_spec_l4Find (by kernel_rfl) (known_cons k_spec_l4Range (by kernel_rfl) (known_cons k_spec_l4ThingsOk (by kernel_rfl) known_nil))))) (by kernel_rfl) (by kernel_rfl) (by kernel_rfl)
def d_spec_l5Below : FD := { fn := 94, nb := 0, pre := ⟨[.ag [.i .i64 0, .i .i64 1, .i .i64 2, .i .i64 3, .fz 90 false 4, .fz 156 false 5, .fz 158 false 6], .sc (.fz 9 false 7)], []⟩, post := ⟨[.sc (.ow 0)], [.rw 9 true 0]⟩, sh := false, cuts := [⟨3, [1, 2, 5, 6], ⟨[.sc (.fz 9 false 0), .sc (.pt 0 0), .sc (.ow 1), .sc (.i .i64 1)], [.bx [.i .i64 2, .i .i64 3, .i .i64 4, .i .i64 5, .fz 90 false 6, .fz 156 false 7, .fz 158 false 8], .rw 9 true 9]⟩⟩, ⟨8, [2, 5, 7], ⟨[.sc (.pt 0 0), .sc (.ow 1), .sc (.i .i64 0)], [.bx [.i .i64 1, .i .i64 2, .i .i64 3, .i .i64 4, .fz 90 false 5, .fz 156 false 6, .fz 158 false 7], .rw 9 true 8]⟩⟩, ⟨14, [2, 5, 7, 9, 10], ⟨[.sc (.pt 0 0), .sc (.ow 1), .sc (.i .i64 0), .sc (.fz 9 false 1), .sc (.i .i64 2)], [.bx [.i .i64 3, .i .i64 4, .i .i64 5, .i .i64 6, .fz 90 false 7, .fz 156 false 8, .fz 158 false 9], .rw 9 true 10]⟩⟩] }
noncomputable def L_spec_l5Below : Option Nat → Lv → Option Lv := Lim Tryz.prog [d_spec_l4Find.sig (L_spec_l4Find none), d_spec_l4Has.sig (L_spec_l4Has none)] d_spec_l5Below Tryz.f94
theorem e_spec_l5Below_i (a0 : Int) (a1 : Int) (a2 : Int) (a3 : Int) (a4 : Rw) (a5 : Rw) (a6 : Rw) (a7 : Rw) : L_spec_l5Below none [.i a0, .i a1, .i a2, .i a3, .l a4, .l a5, .l a6, .l a7] =
 L_spec_l5Below (some 3) [.l a7, .i 0, .i a0, .i a1, .i a2, .i a3, .l a4, .l a5, .l a6, .l ([] : Rw)] := (Lim_eq _ _).trans (by kernel_rfl)
theorem e_spec_l5Below_3 (a0 : Rw) (a1 : Int) (a2 : Int) (a3 : Int) (a4 : Int) (a5 : Int) (a6 : Rw) (a7 : Rw) (a8 : Rw) (a9 : Rw) : L_spec_l5Below (some 3) [.l a0, .i a1, .i a2, .i a3, .i a4, .i a5, .l a6, .l a7, .l a8, .l a9] =
 cond (decide (a1 < (a0.length : Int))) (
 cond (inb a1 a0.length) (
 (L_spec_l4Has none [.l a9, .s ((rd a0 a1.toNat 0).str)]).bind fun y1 =>
 cond (!(g y1 0).bool) (
 cond (inb a1 a0.length) (
 cond (decide (a9.length + ([[.s ((rd a0 a1.toNat 0).str)]] : Rw).length ≤ most)) (
 L_spec_l5Below (some 3) [.l a0, .i (IntKind.i64.wrap (a1 + 1)), .i a2, .i a3, .i a4, .i a5, .l a6, .l a7, .l a8, .l (a9 ++ ([[.s ((rd a0 a1.toNat 0).str)]] : Rw))]) (
 none)) (
 none)) (
 L_spec_l5Below (some 3) [.l a0, .i (IntKind.i64.wrap (a1 + 1)), .i a2, .i a3, .i a4, .i a5, .l a6, .l a7, .l a8, .l a9])) (
 none)) (
 L_spec_l5Below (some 8) [.i 0, .i a2, .i a3, .i a4, .i a5, .l a6, .l a7, .l a8, .l a9]) := (Lim_eq _ _).trans (by kernel_rfl)
theorem e_spec_l5Below_8 (a0 : Int) (a1 : Int) (a2 : Int) (a3 : Int) (a4 : Int) (a5 : Rw) (a6 : Rw) (a7 : Rw) (a8 : Rw) : L_spec_l5Below (some 8) [.i a0, .i a1, .i a2, .i a3, .i a4, .l a5, .l a6, .l a7, .l a8] =
 cond (decide (a0 < (a8.length : Int))) (
 cond (inb a0 a8.length) (
 (L_spec_l4Find none [.i a1, .i a2, .i a3, .i a4, .l a5, .l a6, .l a7, .s ((rd a8 a0.toNat 0).str)]).bind fun y1 =>
 cond (decide ((g y1 0).int < 0)) (
 L_spec_l5Below (some 8) [.i (IntKind.i64.wrap (a0 + 1)), .i a1, .i a2, .i a3, .i a4, .l a5, .l a6, .l a7, .l a8]) (
 cond (inb ((g y1 0).int) a5.length) (
 L_spec_l5Below (some 14) [.i a0, .l ((rd a5 (((g y1 0).int).toNat) 3).list), .i 0, .i a1, .i a2, .i a3, .i a4, .l a5, .l a6, .l a7, .l a8]) (
 none))) (
 none)) (
 some [.l a8]) := (Lim_eq _ _).trans (by kernel_rfl)
theorem e_spec_l5Below_14 (a0 : Int) (a1 : Rw) (a2 : Int) (a3 : Int) (a4 : Int) (a5 : Int) (a6 : Int) (a7 : Rw) (a8 : Rw) (a9 : Rw) (a10 : Rw) : L_spec_l5Below (some 14) [.i a0, .l a1, .i a2, .i a3, .i a4, .i a5, .i a6, .l a7, .l a8, .l a9, .l a10] =
 cond (decide (a2 < (a1.length : Int))) (
 cond (inb a2 a1.length) (
 (L_spec_l4Has none [.l a10, .s ((rd a1 a2.toNat 0).str)]).bind fun y1 =>
 cond (!(g y1 0).bool) (
 cond (inb a2 a1.length) (
 cond (decide (a10.length + ([[.s ((rd a1 a2.toNat 0).str)]] : Rw).length ≤ most)) (
 L_spec_l5Below (some 14) [.i a0, .l a1, .i (IntKind.i64.wrap (a2 + 1)), .i a3, .i a4, .i a5, .i a6, .l a7, .l a8, .l a9, .l (a10 ++ ([[.s ((rd a1 a2.toNat 0).str)]] : Rw))]) (
 none)) (
 none)) (
 L_spec_l5Below (some 14) [.i a0, .l a1, .i (IntKind.i64.wrap (a2 + 1)), .i a3, .i a4, .i a5, .i a6, .l a7, .l a8, .l a9, .l a10])) (
 none)) (
 L_spec_l5Below (some 8) [.i (IntKind.i64.wrap (a0 + 1)), .i a3, .i a4, .i a5, .i a6, .l a7, .l a8, .l a9, .l a10]) := (Lim_eq _ _).trans (by kernel_rfl)
theorem k_spec_l5Below : SigOk Tryz.prog (d_spec_l5Below.sig (L_spec_l5Below none)) ∧ (d_spec_l5Below.sig (L_spec_l5Below none)).ok = true := sound_lim (known_cons k_spec_l4Find (by kernel_rfl) (known_cons k_spec_l4Has (by kernel_rfl) known_nil)) (by kernel_rfl) (by kernel_rfl) (by kernel_rfl)
def d_spec_Live : FD := { fn := 25, nb := 0, pre := ⟨[.ag [.i .i64 0, .i .i64 1, .i .i64 2, .i .i64 3, .fz 90 false 4, .fz 156 false 5, .fz 158 false 6]], []⟩, post := ⟨[.sc (.ow 0)], [.rw 9 true 0]⟩, sh := false, cuts := [] }
noncomputable def L_spec_Live : Option Nat → Lv → Option Lv := Lim Tryz.prog [d_spec_l1Sorted.sig (L_spec_l1Sorted none), d_spec_l5Roots.sig (L_spec_l5Roots none), d_spec_ValidState.sig (L_spec_ValidState none), d_spec_l5Below.sig (L_spec_l5Below none)] d_spec_Live Tryz.f25
theorem e_spec_Live_i (a0 : Int) (a1 : Int) (a2 : Int) (a3 : Int) (a4 : Rw) (a5 : Rw) (a6 : Rw) : L_spec_Live none [.i a0, .i a1, .i a2, .i a3, .l a4, .l a5, .l a6] =
 (L_spec_ValidState none [.i a0, .i a1, .i a2, .i a3, .l a4, .l a5, .l a6]).bind fun y1 =>
 cond (!(g y1 0).bool) (
 some [.l ([] : Rw)]) (
 (L_spec_l5Roots none [.i a0, .i a1, .i a2, .i a3, .l a4, .l a5, .l a6]).bind fun y2 =>
 (L_spec_l5Below none [.i a0, .i a1, .i a2, .i a3, .l a4, .l a5, .l a6, .l ((g y2 0).list)]).bind fun y3 =>
 (L_spec_l1Sorted none [.l ((g y3 0).list)]).bind fun y4 =>
 some [.l ((g y4 0).list)]) := (Lim_eq _ _).trans (by kernel_rfl)
theorem k_spec_Live : SigOk Tryz.prog (d_spec_Live.sig (L_spec_Live none)) ∧ (d_spec_Live.sig (L_spec_Live none)).ok = true := sound_lim (known_cons k_spec_l1Sorted (by kernel_rfl) (known_cons k_spec_l5Roots (by kernel_rfl) (known_cons k_spec_ValidState (by kernel_rfl) (known_cons k_spec_l5Below (by kernel_rfl) known_nil)))) (by kernel_rfl) (by kernel_rfl) (by kernel_rfl)
def d_impl_Fetch : FD := { fn := 26, nb := 0, pre := ⟨[.ag [.i .i64 0, .i .i64 1, .fz 9 false 2, .fz 9 false 3, .i .i64 4, .i .i64 5, .i .i64 6, .i .i64 7, .fz 90 false 8, .fz 156 false 9, .fz 158 false 10, .i .i64 11, .fz 9 false 12, .fz 9 false 13, .i .i64 14, .i .i64 15, .i .i64 16], .sc (.s 17)], []⟩, post := ⟨[.tu [(true, [.s 0, .ow 0]), (false, [.b 1])]], [.rw 9 true 2]⟩, sh := false, cuts := [] }
noncomputable def L_impl_Fetch : Option Nat → Lv → Option Lv := Lim Tryz.prog [d_impl_State_thing.sig (L_impl_State_thing none), d_impl_copied.sig (L_impl_copied none), d_impl_ValidVault.sig (L_impl_ValidVault none)] d_impl_Fetch Tryz.f26
theorem e_impl_Fetch_i (a0 : Int) (a1 : Int) (a2 : Rw) (a3 : Rw) (a4 : Int) (a5 : Int) (a6 : Int) (a7 : Int) (a8 : Rw) (a9 : Rw) (a10 : Rw) (a11 : Int) (a12 : Rw) (a13 : Rw) (a14 : Int) (a15 : Int) (a16 : Int) (a17 : ByteArray) : L_impl_Fetch none [.i a0, .i a1, .l a2, .l a3, .i a4, .i a5, .i a6, .i a7, .l a8, .l a9, .l a10, .i a11, .l a12, .l a13, .i a14, .i a15, .i a16, .s a17] =
 (L_impl_ValidVault none [.i a0, .i a1, .l a2, .l a3, .i a4, .i a5, .i a6, .i a7, .l a8, .l a9, .l a10, .i a11, .l a12, .l a13, .i a14, .i a15, .i a16]).bind fun y1 =>
 cond (!(g y1 0).bool) (
 some [.s (⟨#[]⟩ : ByteArray), .b false, .l []]) (
 (L_impl_State_thing none [.s a17, .i a4, .i a5, .i a6, .i a7, .l a8, .l a9, .l a10]).bind fun y2 =>
 cond (!(g y2 1).bool) (
 some [.s (⟨#[]⟩ : ByteArray), .b false, .l []]) (
 cond (inb ((g y2 0).int) a8.length) (
 (L_impl_copied none [.l ((rd a8 (((g y2 0).int).toNat) 3).list)]).bind fun y3 =>
 some [.s ((rd a8 (((g y2 0).int).toNat) 2).str), .b true, .l ((g y3 0).list)]) (
 none))) := (Lim_eq _ _).trans (by kernel_rfl)
theorem k_impl_Fetch : SigOk Tryz.prog (d_impl_Fetch.sig (L_impl_Fetch none)) ∧ (d_impl_Fetch.sig (L_impl_Fetch none)).ok = true := sound_lim (known_cons k_impl_State_thing (by kernel_rfl) (known_cons k_impl_copied (by kernel_rfl) (known_cons k_impl_ValidVault (by kernel_rfl) known_nil))) (by kernel_rfl) (by kernel_rfl) (by kernel_rfl)
def d_laws_wPut : FD := { fn := 27, nb := 0, pre := ⟨[.sc (.fz 54 false 0), .sc (.s 1), .ag [.s 2, .fz 9 false 3]], []⟩, post := ⟨[.sc (.b 0)], []⟩, sh := false, cuts := [⟨2, [0, 1, 5, 7], ⟨[.sc (.fz 54 false 0), .sc (.s 1), .sc (.pt 0 0), .sc (.i .i64 2)], [.bx [.s 3, .fz 9 false 4]]⟩⟩] }
noncomputable def L_laws_wPut : Option Nat → Lv → Option Lv := Lim Tryz.prog [d_laws_wThing.sig (L_laws_wThing none)] d_laws_wPut Tryz.f27
theorem e_laws_wPut_i (a0 : Rw) (a1 : ByteArray) (a2 : ByteArray) (a3 : Rw) : L_laws_wPut none [.l a0, .s a1, .s a2, .l a3] =
 L_laws_wPut (some 2) [.l a0, .s a1, .i 0, .s a2, .l a3] := (Lim_eq _ _).trans (by kernel_rfl)
theorem e_laws_wPut_2 (a0 : Rw) (a1 : ByteArray) (a2 : Int) (a3 : ByteArray) (a4 : Rw) : L_laws_wPut (some 2) [.l a0, .s a1, .i a2, .s a3, .l a4] =
 cond (decide (a2 < (a0.length : Int))) (
 cond (inb a2 a0.length) (
 cond (Eng.seq ((rd a0 a2.toNat 0).str) a1) (
 cond (inb a2 a0.length) (
 (L_laws_wThing none [.s ((rd a0 a2.toNat 1).str), .l ((rd a0 a2.toNat 2).list), .s a3, .l a4]).bind fun y1 =>
 cond ((g y1 0).bool) (
 some [.b true]) (
 L_laws_wPut (some 2) [.l a0, .s a1, .i (IntKind.i64.wrap (a2 + 1)), .s a3, .l a4])) (
 none)) (
 L_laws_wPut (some 2) [.l a0, .s a1, .i (IntKind.i64.wrap (a2 + 1)), .s a3, .l a4])) (
 none)) (
 some [.b false]) := (Lim_eq _ _).trans (by kernel_rfl)
theorem k_laws_wPut : SigOk Tryz.prog (d_laws_wPut.sig (L_laws_wPut none)) ∧ (d_laws_wPut.sig (L_laws_wPut none)).ok = true := sound_lim (known_cons k_laws_wThing (by kernel_rfl) known_nil) (by kernel_rfl) (by kernel_rfl) (by kernel_rfl)
end KV
end
section
set_option maxRecDepth 100000
namespace KV
open Go Go.Eng Go.Proofs
def d_laws_FnTop : FD := { fn := 3, nb := 0, pre := ⟨[.sc (.fz 5 false 0)], []⟩, post := ⟨[.sc (.b 0)], []⟩, sh := false, cuts := [⟨10, [3, 5, 6, 7, 8], ⟨[.sc (.pt 0 0), .sc (.ow 1), .sc (.ow 2), .sc (.ow 3), .sc (.i .i64 0)], [.bx [.i .i64 1, .i .i64 2, .ow 4, .fz 9 true 3, .i .i64 4, .i .i64 5, .i .i64 6, .i .i64 7, .fz 90 true 8, .fz 156 true 9, .fz 158 true 10, .i .i64 11, .fz 9 true 12, .fz 9 true 13, .i .i64 14, .i .i64 15, .i .i64 16], .rw 42 true 17, .rw 54 true 18, .rw 30 true 19, .rw 9 true 20]⟩⟩, ⟨19, [3, 5, 6, 7, 8, 9, 11], ⟨[.sc (.pt 0 0), .sc (.ow 1), .sc (.ow 2), .sc (.ow 3), .sc (.i .i64 0), .sc (.pt 4 0), .sc (.pt 5 0)], [.bx [.i .i64 1, .i .i64 2, .fz 9 true 3, .fz 9 true 4, .i .i64 5, .i .i64 6, .i .i64 7, .i .i64 8, .fz 90 true 9, .fz 156 true 10, .fz 158 true 11, .i .i64 12, .fz 9 true 13, .fz 9 true 14, .i .i64 15, .i .i64 16, .i .i64 17], .rw 42 true 18, .rw 54 true 19, .rw 30 true 20, .bx [.i .i64 21, .s 22, .i .i64 23, .s 24, .i .i64 25, .i .i64 26], .bx [.i .i64 27, .i .i64 28, .ow 6, .fz 9 true 29, .i .i64 30, .i .i64 31, .i .i64 32, .i .i64 33, .ow 7, .ow 8, .ow 9, .i .i64 34, .fz 9 true 35, .fz 9 true 36, .i .i64 37, .i .i64 38, .i .i64 39], .rw 9 true 40, .rw 90 true 41, .rw 156 true 42, .rw 158 true 43]⟩⟩, ⟨21, [3, 5, 6, 7, 8, 9, 11], ⟨[.sc (.pt 0 0), .sc (.ow 1), .sc (.ow 2), .sc (.ow 3), .sc (.i .i64 0), .sc (.pt 4 0), .sc (.pt 5 0)], [.bx [.i .i64 1, .i .i64 2, .fz 9 true 3, .fz 9 true 4, .i .i64 5, .i .i64 6, .i .i64 7, .i .i64 8, .fz 90 true 9, .fz 156 true 10, .fz 158 true 11, .i .i64 12, .fz 9 true 13, .fz 9 true 14, .i .i64 15, .i .i64 16, .i .i64 17], .rw 42 true 18, .rw 54 true 19, .rw 30 true 20, .bx [.i .i64 21, .s 22, .i .i64 23, .s 24, .i .i64 25, .i .i64 26], .bx [.i .i64 27, .i .i64 28, .ow 6, .fz 9 true 29, .i .i64 30, .i .i64 31, .i .i64 32, .i .i64 33, .ow 7, .ow 8, .ow 9, .i .i64 34, .fz 9 true 35, .fz 9 true 36, .i .i64 37, .i .i64 38, .i .i64 39], .rw 9 true 40, .rw 90 true 41, .rw 156 true 42, .rw 158 true 43]⟩⟩, ⟨25, [3, 5, 6, 7, 8, 9, 11], ⟨[.sc (.pt 0 0), .sc (.ow 1), .sc (.ow 2), .sc (.ow 3), .sc (.i .i64 0), .sc (.pt 4 0), .sc (.pt 5 0)], [.bx [.i .i64 1, .i .i64 2, .fz 9 true 3, .fz 9 true 4, .i .i64 5, .i .i64 6, .i .i64 7, .i .i64 8, .fz 90 true 9, .fz 156 true 10, .fz 158 true 11, .i .i64 12, .fz 9 true 13, .fz 9 true 14, .i .i64 15, .i .i64 16, .i .i64 17], .rw 42 true 18, .rw 54 true 19, .rw 30 true 20, .bx [.i .i64 21, .s 22, .i .i64 23, .s 24, .i .i64 25, .i .i64 26], .bx [.i .i64 27, .i .i64 28, .ow 6, .fz 9 true 29, .i .i64 30, .i .i64 31, .i .i64 32, .i .i64 33, .ow 7, .ow 8, .ow 9, .i .i64 34, .fz 9 true 35, .fz 9 true 36, .i .i64 37, .i .i64 38, .i .i64 39], .rw 9 true 40, .rw 90 true 41, .rw 156 true 42, .rw 158 true 43]⟩⟩, ⟨27, [3, 5, 6, 7, 8, 11], ⟨[.sc (.pt 0 0), .sc (.ow 1), .sc (.ow 2), .sc (.ow 3), .sc (.i .i64 0), .sc (.pt 4 0)], [.bx [.i .i64 1, .i .i64 2, .fz 9 true 3, .fz 9 true 4, .i .i64 5, .i .i64 6, .i .i64 7, .i .i64 8, .fz 90 true 9, .fz 156 true 10, .fz 158 true 11, .i .i64 12, .fz 9 true 13, .fz 9 true 14, .i .i64 15, .i .i64 16, .i .i64 17], .rw 42 true 18, .rw 54 true 19, .rw 30 true 20, .bx [.i .i64 21, .i .i64 22, .ow 5, .fz 9 true 23, .i .i64 24, .i .i64 25, .i .i64 26, .i .i64 27, .ow 6, .ow 7, .ow 8, .i .i64 28, .fz 9 true 29, .fz 9 true 30, .i .i64 31, .i .i64 32, .i .i64 33], .rw 9 true 34, .rw 90 true 35, .rw 156 true 36, .rw 158 true 37]⟩⟩, ⟨31, [3, 5, 6, 7, 8, 13, 14], ⟨[.sc (.pt 0 0), .sc (.ow 1), .sc (.ow 2), .sc (.ow 3), .sc (.i .i64 0), .sc (.ow 4), .sc (.i .i64 1)], [.bx [.i .i64 2, .i .i64 3, .ow 5, .fz 9 true 4, .i .i64 5, .i .i64 6, .i .i64 7, .i .i64 8, .fz 90 true 9, .fz 156 true 10, .fz 158 true 11, .i .i64 12, .fz 9 true 13, .fz 9 true 14, .i .i64 15, .i .i64 16, .i .i64 17], .rw 42 true 18, .rw 54 true 19, .rw 30 true 20, .rw 9 true 21, .rw 9 true 22]⟩⟩] }
noncomputable def L_laws_FnTop : Option Nat → Lv → Option Lv := Lim Tryz.prog [d_spec_FormThing.sig (L_spec_FormThing none), d_spec_Sum.sig (L_spec_Sum none), d_laws_wStart.sig (L_laws_wStart none), d_spec_DrawActs.sig (L_spec_DrawActs none), d_spec_Act_Thing.sig (L_spec_Act_Thing none), d_laws_wDo.sig (L_laws_wDo none), d_spec_ValidVault.sig (L_spec_ValidVault none), d_laws_wCode.sig (L_laws_wCode none), d_laws_wVault.sig (L_laws_wVault none), d_laws_wAmong.sig (L_laws_wAmong none), d_laws_wMoments.sig (L_laws_wMoments none), d_spec_Live.sig (L_spec_Live none), d_impl_Fetch.sig (L_impl_Fetch none), d_laws_wPut.sig (L_laws_wPut none)] d_laws_FnTop Tryz.f3
theorem e_laws_FnTop_i (a0 : Rw) : L_laws_FnTop none [.l a0] =
 cond (decide (1048576 < (a0.length : Int))) (
 some [.b true]) (
 (L_laws_wStart none [.l a0]).bind fun y1 =>
 cond (!(g y1 12).bool) (
 some [.b false]) (
 (L_spec_DrawActs none [.l a0]).bind fun y2 =>
 L_laws_FnTop (some 10) [.i 0, .i ((g y1 0).int), .i ((g y1 1).int), .l ((g y1 14).list), .i ((g y1 2).int), .i ((g y1 3).int), .i ((g y1 4).int), .i ((g y1 5).int), .l ((g y1 15).list), .l ((g y1 16).list), .l ((g y1 17).list), .i ((g y1 6).int), .l ((g y1 7).list), .l ((g y1 8).list), .i ((g y1 9).int), .i ((g y1 10).int), .i ((g y1 11).int), .l ((g y2 0).list), .l ([] : Rw), .l ([[.i ((g y1 2).int), .i ((g y1 3).int), .i ((g y1 4).int), .i ((g y1 5).int), .l ((g y1 15).list), .l ((g y1 16).list), .l ((g y1 17).list)]] : Rw), .l ((g y1 13).list)])) := (Lim_eq _ _).trans (by kernel_rfl)
theorem e_laws_FnTop_10 (a0 : Int) (a1 : Int) (a2 : Int) (a3 : Rw) (a4 : Int) (a5 : Int) (a6 : Int) (a7 : Int) (a8 : Rw) (a9 : Rw) (a10 : Rw) (a11 : Int) (a12 : Rw) (a13 : Rw) (a14 : Int) (a15 : Int) (a16 : Int) (a17 : Rw) (a18 : Rw) (a19 : Rw) (a20 : Rw) : L_laws_FnTop (some 10) [.i a0, .i a1, .i a2, .l a3, .i a4, .i a5, .i a6, .i a7, .l a8, .l a9, .l a10, .i a11, .l a12, .l a13, .i a14, .i a15, .i a16, .l a17, .l a18, .l a19, .l a20] =
 cond (decide (a0 < (a17.length : Int))) (
 cond (inb a0 a17.length) (
 (L_spec_Act_Thing none [.i ((rd a17 a0.toNat 0).int), .s ((rd a17 a0.toNat 1).str), .i ((rd a17 a0.toNat 2).int), .s ((rd a17 a0.toNat 3).str), .i ((rd a17 a0.toNat 4).int), .i ((rd a17 a0.toNat 5).int), .i a4, .i a5, .i a6, .i a7, .l a8, .l a9, .l a10]).bind fun y1 =>
 (L_laws_wDo none [.i a1, .i a2, .l a20, .l a3, .i a4, .i a5, .i a6, .i a7, .l a8, .l a9, .l a10, .i a11, .l a12, .l a13, .i a14, .i a15, .i a16, .i ((rd a17 a0.toNat 0).int), .s ((rd a17 a0.toNat 1).str), .i ((rd a17 a0.toNat 2).int), .s ((rd a17 a0.toNat 3).str), .i ((rd a17 a0.toNat 4).int), .i ((rd a17 a0.toNat 5).int)]).bind fun y2 =>
 (L_laws_wCode none [.i a1, .i a2, .l a20, .l a3, .i a4, .i a5, .i a6, .i a7, .l a8, .l a9, .l a10, .i a11, .l a12, .l a13, .i a14, .i a15, .i a16, .i ((rd a17 a0.toNat 0).int), .s ((rd a17 a0.toNat 1).str), .i ((rd a17 a0.toNat 2).int), .s ((rd a17 a0.toNat 3).str), .i ((rd a17 a0.toNat 4).int), .i ((rd a17 a0.toNat 5).int)]).bind fun y3 =>
 cond ((g y2 13).int != (g y3 0).int) (
 some [.b false]) (
 (L_spec_ValidVault none [.i ((g y2 0).int), .i ((g y2 1).int), .l ((g y2 14).list), .l ((g y2 2).list), .i ((g y2 3).int), .i ((g y2 4).int), .i ((g y2 5).int), .i ((g y2 6).int), .l ((g y2 15).list), .l ((g y2 16).list), .l ((g y2 17).list), .i ((g y2 7).int), .l ((g y2 8).list), .l ((g y2 9).list), .i ((g y2 10).int), .i ((g y2 11).int), .i ((g y2 12).int)]).bind fun y4 =>
 cond (!(g y4 0).bool) (
 some [.b false]) (
 cond ((g y2 13).int != 0) (
 (L_laws_wVault none [.i ((g y2 0).int), .i ((g y2 1).int), .l ((g y2 14).list), .l ((g y2 2).list), .i ((g y2 3).int), .i ((g y2 4).int), .i ((g y2 5).int), .i ((g y2 6).int), .l ((g y2 15).list), .l ((g y2 16).list), .l ((g y2 17).list), .i ((g y2 7).int), .l ((g y2 8).list), .l ((g y2 9).list), .i ((g y2 10).int), .i ((g y2 11).int), .i ((g y2 12).int), .i a1, .i a2, .l a20, .l a3, .i a4, .i a5, .i a6, .i a7, .l a8, .l a9, .l a10, .i a11, .l a12, .l a13, .i a14, .i a15, .i a16]).bind fun y5 =>
 cond (!(g y5 0).bool) (
 some [.b false]) (
 cond ((rd a17 a0.toNat 0).int == 1) (
 cond ((g y2 13).int == 0) (
 (L_spec_FormThing none [.s ((g y1 0).str), .l ((g y1 1).list), .i a1]).bind fun y6 =>
 (L_spec_Sum none [.s ((g y6 0).str), .i a1]).bind fun y7 =>
 cond (decide (a18.length + ([[.s ((g y7 0).str), .s ((g y1 0).str), .l ((g y1 1).list)]] : Rw).length ≤ most)) (
 L_laws_FnTop (some 19) [.i a0, .i a1, .i a2, .l a20, .l a3, .i a4, .i a5, .i a6, .i a7, .l a8, .l a9, .l a10, .i a11, .l a12, .l a13, .i a14, .i a15, .i a16, .l a17, .l (a18 ++ ([[.s ((g y7 0).str), .s ((g y1 0).str), .l ((g y1 1).list)]] : Rw)), .l a19, .i ((rd a17 a0.toNat 0).int), .s ((rd a17 a0.toNat 1).str), .i ((rd a17 a0.toNat 2).int), .s ((rd a17 a0.toNat 3).str), .i ((rd a17 a0.toNat 4).int), .i ((rd a17 a0.toNat 5).int), .i ((g y2 0).int), .i ((g y2 1).int), .l ((g y2 2).list), .i ((g y2 3).int), .i ((g y2 4).int), .i ((g y2 5).int), .i ((g y2 6).int), .i ((g y2 7).int), .l ((g y2 8).list), .l ((g y2 9).list), .i ((g y2 10).int), .i ((g y2 11).int), .i ((g y2 12).int), .l ((g y2 14).list), .l ((g y2 15).list), .l ((g y2 16).list), .l ((g y2 17).list)]) (
 none)) (
 L_laws_FnTop (some 19) [.i a0, .i a1, .i a2, .l a20, .l a3, .i a4, .i a5, .i a6, .i a7, .l a8, .l a9, .l a10, .i a11, .l a12, .l a13, .i a14, .i a15, .i a16, .l a17, .l a18, .l a19, .i ((rd a17 a0.toNat 0).int), .s ((rd a17 a0.toNat 1).str), .i ((rd a17 a0.toNat 2).int), .s ((rd a17 a0.toNat 3).str), .i ((rd a17 a0.toNat 4).int), .i ((rd a17 a0.toNat 5).int), .i ((g y2 0).int), .i ((g y2 1).int), .l ((g y2 2).list), .i ((g y2 3).int), .i ((g y2 4).int), .i ((g y2 5).int), .i ((g y2 6).int), .i ((g y2 7).int), .l ((g y2 8).list), .l ((g y2 9).list), .i ((g y2 10).int), .i ((g y2 11).int), .i ((g y2 12).int), .l ((g y2 14).list), .l ((g y2 15).list), .l ((g y2 16).list), .l ((g y2 17).list)])) (
 L_laws_FnTop (some 19) [.i a0, .i a1, .i a2, .l a20, .l a3, .i a4, .i a5, .i a6, .i a7, .l a8, .l a9, .l a10, .i a11, .l a12, .l a13, .i a14, .i a15, .i a16, .l a17, .l a18, .l a19, .i ((rd a17 a0.toNat 0).int), .s ((rd a17 a0.toNat 1).str), .i ((rd a17 a0.toNat 2).int), .s ((rd a17 a0.toNat 3).str), .i ((rd a17 a0.toNat 4).int), .i ((rd a17 a0.toNat 5).int), .i ((g y2 0).int), .i ((g y2 1).int), .l ((g y2 2).list), .i ((g y2 3).int), .i ((g y2 4).int), .i ((g y2 5).int), .i ((g y2 6).int), .i ((g y2 7).int), .l ((g y2 8).list), .l ((g y2 9).list), .i ((g y2 10).int), .i ((g y2 11).int), .i ((g y2 12).int), .l ((g y2 14).list), .l ((g y2 15).list), .l ((g y2 16).list), .l ((g y2 17).list)]))) (
 cond ((rd a17 a0.toNat 0).int == 1) (
 cond ((g y2 13).int == 0) (
 (L_spec_FormThing none [.s ((g y1 0).str), .l ((g y1 1).list), .i a1]).bind fun y8 =>
 (L_spec_Sum none [.s ((g y8 0).str), .i a1]).bind fun y9 =>
 cond (decide (a18.length + ([[.s ((g y9 0).str), .s ((g y1 0).str), .l ((g y1 1).list)]] : Rw).length ≤ most)) (
 L_laws_FnTop (some 19) [.i a0, .i a1, .i a2, .l a20, .l a3, .i a4, .i a5, .i a6, .i a7, .l a8, .l a9, .l a10, .i a11, .l a12, .l a13, .i a14, .i a15, .i a16, .l a17, .l (a18 ++ ([[.s ((g y9 0).str), .s ((g y1 0).str), .l ((g y1 1).list)]] : Rw)), .l a19, .i ((rd a17 a0.toNat 0).int), .s ((rd a17 a0.toNat 1).str), .i ((rd a17 a0.toNat 2).int), .s ((rd a17 a0.toNat 3).str), .i ((rd a17 a0.toNat 4).int), .i ((rd a17 a0.toNat 5).int), .i ((g y2 0).int), .i ((g y2 1).int), .l ((g y2 2).list), .i ((g y2 3).int), .i ((g y2 4).int), .i ((g y2 5).int), .i ((g y2 6).int), .i ((g y2 7).int), .l ((g y2 8).list), .l ((g y2 9).list), .i ((g y2 10).int), .i ((g y2 11).int), .i ((g y2 12).int), .l ((g y2 14).list), .l ((g y2 15).list), .l ((g y2 16).list), .l ((g y2 17).list)]) (
 none)) (
 L_laws_FnTop (some 19) [.i a0, .i a1, .i a2, .l a20, .l a3, .i a4, .i a5, .i a6, .i a7, .l a8, .l a9, .l a10, .i a11, .l a12, .l a13, .i a14, .i a15, .i a16, .l a17, .l a18, .l a19, .i ((rd a17 a0.toNat 0).int), .s ((rd a17 a0.toNat 1).str), .i ((rd a17 a0.toNat 2).int), .s ((rd a17 a0.toNat 3).str), .i ((rd a17 a0.toNat 4).int), .i ((rd a17 a0.toNat 5).int), .i ((g y2 0).int), .i ((g y2 1).int), .l ((g y2 2).list), .i ((g y2 3).int), .i ((g y2 4).int), .i ((g y2 5).int), .i ((g y2 6).int), .i ((g y2 7).int), .l ((g y2 8).list), .l ((g y2 9).list), .i ((g y2 10).int), .i ((g y2 11).int), .i ((g y2 12).int), .l ((g y2 14).list), .l ((g y2 15).list), .l ((g y2 16).list), .l ((g y2 17).list)])) (
 L_laws_FnTop (some 19) [.i a0, .i a1, .i a2, .l a20, .l a3, .i a4, .i a5, .i a6, .i a7, .l a8, .l a9, .l a10, .i a11, .l a12, .l a13, .i a14, .i a15, .i a16, .l a17, .l a18, .l a19, .i ((rd a17 a0.toNat 0).int), .s ((rd a17 a0.toNat 1).str), .i ((rd a17 a0.toNat 2).int), .s ((rd a17 a0.toNat 3).str), .i ((rd a17 a0.toNat 4).int), .i ((rd a17 a0.toNat 5).int), .i ((g y2 0).int), .i ((g y2 1).int), .l ((g y2 2).list), .i ((g y2 3).int), .i ((g y2 4).int), .i ((g y2 5).int), .i ((g y2 6).int), .i ((g y2 7).int), .l ((g y2 8).list), .l ((g y2 9).list), .i ((g y2 10).int), .i ((g y2 11).int), .i ((g y2 12).int), .l ((g y2 14).list), .l ((g y2 15).list), .l ((g y2 16).list), .l ((g y2 17).list)]))))) (
 none)) (
 some [.b true]) := (Lim_eq _ _).trans (by kernel_rfl)
theorem e_laws_FnTop_19 (a0 : Int) (a1 : Int) (a2 : Int) (a3 : Rw) (a4 : Rw) (a5 : Int) (a6 : Int) (a7 : Int) (a8 : Int) (a9 : Rw) (a10 : Rw) (a11 : Rw) (a12 : Int) (a13 : Rw) (a14 : Rw) (a15 : Int) (a16 : Int) (a17 : Int) (a18 : Rw) (a19 : Rw) (a20 : Rw) (a21 : Int) (a22 : ByteArray) (a23 : Int) (a24 : ByteArray) (a25 : Int) (a26 : Int) (a27 : Int) (a28 : Int) (a29 : Rw) (a30 : Int) (a31 : Int) (a32 : Int) (a33 : Int) (a34 : Int) (a35 : Rw) (a36 : Rw) (a37 : Int) (a38 : Int) (a39 : Int) (a40 : Rw) (a41 : Rw) (a42 : Rw) (a43 : Rw) : L_laws_FnTop (some 19) [.i a0, .i a1, .i a2, .l a3, .l a4, .i a5, .i a6, .i a7, .i a8, .l a9, .l a10, .l a11, .i a12, .l a13, .l a14, .i a15, .i a16, .i a17, .l a18, .l a19, .l a20, .i a21, .s a22, .i a23, .s a24, .i a25, .i a26, .i a27, .i a28, .l a29, .i a30, .i a31, .i a32, .i a33, .i a34, .l a35, .l a36, .i a37, .i a38, .i a39, .l a40, .l a41, .l a42, .l a43] =
 cond (a21 == 8) (
 L_laws_FnTop (some 21) [.i a0, .i a1, .i a2, .l a3, .l a4, .i a5, .i a6, .i a7, .i a8, .l a9, .l a10, .l a11, .i a12, .l a13, .l a14, .i a15, .i a16, .i a17, .l a18, .l a19, .l ([] : Rw), .i a21, .s a22, .i a23, .s a24, .i a25, .i a26, .i a27, .i a28, .l a29, .i a30, .i a31, .i a32, .i a33, .i a34, .l a35, .l a36, .i a37, .i a38, .i a39, .l a40, .l a41, .l a42, .l a43]) (
 L_laws_FnTop (some 21) [.i a0, .i a1, .i a2, .l a3, .l a4, .i a5, .i a6, .i a7, .i a8, .l a9, .l a10, .l a11, .i a12, .l a13, .l a14, .i a15, .i a16, .i a17, .l a18, .l a19, .l a20, .i a21, .s a22, .i a23, .s a24, .i a25, .i a26, .i a27, .i a28, .l a29, .i a30, .i a31, .i a32, .i a33, .i a34, .l a35, .l a36, .i a37, .i a38, .i a39, .l a40, .l a41, .l a42, .l a43]) := (Lim_eq _ _).trans (by kernel_rfl)
theorem e_laws_FnTop_21 (a0 : Int) (a1 : Int) (a2 : Int) (a3 : Rw) (a4 : Rw) (a5 : Int) (a6 : Int) (a7 : Int) (a8 : Int) (a9 : Rw) (a10 : Rw) (a11 : Rw) (a12 : Int) (a13 : Rw) (a14 : Rw) (a15 : Int) (a16 : Int) (a17 : Int) (a18 : Rw) (a19 : Rw) (a20 : Rw) (a21 : Int) (a22 : ByteArray) (a23 : Int) (a24 : ByteArray) (a25 : Int) (a26 : Int) (a27 : Int) (a28 : Int) (a29 : Rw) (a30 : Int) (a31 : Int) (a32 : Int) (a33 : Int) (a34 : Int) (a35 : Rw) (a36 : Rw) (a37 : Int) (a38 : Int) (a39 : Int) (a40 : Rw) (a41 : Rw) (a42 : Rw) (a43 : Rw) : L_laws_FnTop (some 21) [.i a0, .i a1, .i a2, .l a3, .l a4, .i a5, .i a6, .i a7, .i a8, .l a9, .l a10, .l a11, .i a12, .l a13, .l a14, .i a15, .i a16, .i a17, .l a18, .l a19, .l a20, .i a21, .s a22, .i a23, .s a24, .i a25, .i a26, .i a27, .i a28, .l a29, .i a30, .i a31, .i a32, .i a33, .i a34, .l a35, .l a36, .i a37, .i a38, .i a39, .l a40, .l a41, .l a42, .l a43] =
 cond (a21 == 9) (
 (L_laws_wAmong none [.l a20, .i a30, .i a31, .i a32, .i a33, .l a41, .l a42, .l a43]).bind fun y1 =>
 cond (!(g y1 0).bool) (
 some [.b false]) (
 L_laws_FnTop (some 25) [.i a0, .i a1, .i a2, .l a3, .l a4, .i a5, .i a6, .i a7, .i a8, .l a9, .l a10, .l a11, .i a12, .l a13, .l a14, .i a15, .i a16, .i a17, .l a18, .l a19, .l ([] : Rw), .i a21, .s a22, .i a23, .s a24, .i a25, .i a26, .i a27, .i a28, .l a29, .i a30, .i a31, .i a32, .i a33, .i a34, .l a35, .l a36, .i a37, .i a38, .i a39, .l a40, .l a41, .l a42, .l a43])) (
 L_laws_FnTop (some 25) [.i a0, .i a1, .i a2, .l a3, .l a4, .i a5, .i a6, .i a7, .i a8, .l a9, .l a10, .l a11, .i a12, .l a13, .l a14, .i a15, .i a16, .i a17, .l a18, .l a19, .l a20, .i a21, .s a22, .i a23, .s a24, .i a25, .i a26, .i a27, .i a28, .l a29, .i a30, .i a31, .i a32, .i a33, .i a34, .l a35, .l a36, .i a37, .i a38, .i a39, .l a40, .l a41, .l a42, .l a43]) := (Lim_eq _ _).trans (by kernel_rfl)
theorem e_laws_FnTop_25 (a0 : Int) (a1 : Int) (a2 : Int) (a3 : Rw) (a4 : Rw) (a5 : Int) (a6 : Int) (a7 : Int) (a8 : Int) (a9 : Rw) (a10 : Rw) (a11 : Rw) (a12 : Int) (a13 : Rw) (a14 : Rw) (a15 : Int) (a16 : Int) (a17 : Int) (a18 : Rw) (a19 : Rw) (a20 : Rw) (a21 : Int) (a22 : ByteArray) (a23 : Int) (a24 : ByteArray) (a25 : Int) (a26 : Int) (a27 : Int) (a28 : Int) (a29 : Rw) (a30 : Int) (a31 : Int) (a32 : Int) (a33 : Int) (a34 : Int) (a35 : Rw) (a36 : Rw) (a37 : Int) (a38 : Int) (a39 : Int) (a40 : Rw) (a41 : Rw) (a42 : Rw) (a43 : Rw) : L_laws_FnTop (some 25) [.i a0, .i a1, .i a2, .l a3, .l a4, .i a5, .i a6, .i a7, .i a8, .l a9, .l a10, .l a11, .i a12, .l a13, .l a14, .i a15, .i a16, .i a17, .l a18, .l a19, .l a20, .i a21, .s a22, .i a23, .s a24, .i a25, .i a26, .i a27, .i a28, .l a29, .i a30, .i a31, .i a32, .i a33, .i a34, .l a35, .l a36, .i a37, .i a38, .i a39, .l a40, .l a41, .l a42, .l a43] =
 cond (a21 == 10) (
 (L_laws_wMoments none [.i a1, .i a2, .l a3, .l a4, .i a5, .i a6, .i a7, .i a8, .l a9, .l a10, .l a11, .i a12, .l a13, .l a14, .i a15, .i a16, .i a17, .i a25]).bind fun y1 =>
 cond (decide (a20.length + ((g y1 0).list).length ≤ most)) (
 L_laws_FnTop (some 27) [.i a0, .i a1, .i a2, .l a3, .l a4, .i a5, .i a6, .i a7, .i a8, .l a9, .l a10, .l a11, .i a12, .l a13, .l a14, .i a15, .i a16, .i a17, .l a18, .l a19, .l (a20 ++ (g y1 0).list), .i a27, .i a28, .l a29, .i a30, .i a31, .i a32, .i a33, .i a34, .l a35, .l a36, .i a37, .i a38, .i a39, .l a40, .l a41, .l a42, .l a43]) (
 none)) (
 L_laws_FnTop (some 27) [.i a0, .i a1, .i a2, .l a3, .l a4, .i a5, .i a6, .i a7, .i a8, .l a9, .l a10, .l a11, .i a12, .l a13, .l a14, .i a15, .i a16, .i a17, .l a18, .l a19, .l a20, .i a27, .i a28, .l a29, .i a30, .i a31, .i a32, .i a33, .i a34, .l a35, .l a36, .i a37, .i a38, .i a39, .l a40, .l a41, .l a42, .l a43]) := (Lim_eq _ _).trans (by kernel_rfl)
theorem e_laws_FnTop_27 (a0 : Int) (a1 : Int) (a2 : Int) (a3 : Rw) (a4 : Rw) (a5 : Int) (a6 : Int) (a7 : Int) (a8 : Int) (a9 : Rw) (a10 : Rw) (a11 : Rw) (a12 : Int) (a13 : Rw) (a14 : Rw) (a15 : Int) (a16 : Int) (a17 : Int) (a18 : Rw) (a19 : Rw) (a20 : Rw) (a21 : Int) (a22 : Int) (a23 : Rw) (a24 : Int) (a25 : Int) (a26 : Int) (a27 : Int) (a28 : Int) (a29 : Rw) (a30 : Rw) (a31 : Int) (a32 : Int) (a33 : Int) (a34 : Rw) (a35 : Rw) (a36 : Rw) (a37 : Rw) : L_laws_FnTop (some 27) [.i a0, .i a1, .i a2, .l a3, .l a4, .i a5, .i a6, .i a7, .i a8, .l a9, .l a10, .l a11, .i a12, .l a13, .l a14, .i a15, .i a16, .i a17, .l a18, .l a19, .l a20, .i a21, .i a22, .l a23, .i a24, .i a25, .i a26, .i a27, .i a28, .l a29, .l a30, .i a31, .i a32, .i a33, .l a34, .l a35, .l a36, .l a37] =
 cond (decide (a20.length + ([[.i a24, .i a25, .i a26, .i a27, .l a35, .l a36, .l a37]] : Rw).length ≤ most)) (
 (L_spec_Live none [.i a24, .i a25, .i a26, .i a27, .l a35, .l a36, .l a37]).bind fun y1 =>
 L_laws_FnTop (some 31) [.i a0, .i 0, .i a21, .i a22, .l a23, .i a24, .i a25, .i a26, .i a27, .l a35, .l a36, .l a37, .i a28, .l a29, .l a30, .i a31, .i a32, .i a33, .l a18, .l a19, .l (a20 ++ ([[.i a24, .i a25, .i a26, .i a27, .l a35, .l a36, .l a37]] : Rw)), .l ((g y1 0).list), .l a34]) (
 none) := (Lim_eq _ _).trans (by kernel_rfl)
theorem e_laws_FnTop_31 (a0 : Int) (a1 : Int) (a2 : Int) (a3 : Int) (a4 : Rw) (a5 : Int) (a6 : Int) (a7 : Int) (a8 : Int) (a9 : Rw) (a10 : Rw) (a11 : Rw) (a12 : Int) (a13 : Rw) (a14 : Rw) (a15 : Int) (a16 : Int) (a17 : Int) (a18 : Rw) (a19 : Rw) (a20 : Rw) (a21 : Rw) (a22 : Rw) : L_laws_FnTop (some 31) [.i a0, .i a1, .i a2, .i a3, .l a4, .i a5, .i a6, .i a7, .i a8, .l a9, .l a10, .l a11, .i a12, .l a13, .l a14, .i a15, .i a16, .i a17, .l a18, .l a19, .l a20, .l a21, .l a22] =
 cond (decide (a1 < (a21.length : Int))) (
 cond (inb a1 a21.length) (
 (L_impl_Fetch none [.i a2, .i a3, .l a22, .l a4, .i a5, .i a6, .i a7, .i a8, .l a9, .l a10, .l a11, .i a12, .l a13, .l a14, .i a15, .i a16, .i a17, .s ((rd a21 a1.toNat 0).str)]).bind fun y1 =>
 cond (!(g y1 1).bool) (
 some [.b false]) (
 cond (inb a1 a21.length) (
 (L_laws_wPut none [.l a19, .s ((rd a21 a1.toNat 0).str), .s ((g y1 0).str), .l ((g y1 2).list)]).bind fun y2 =>
 cond (!(g y2 0).bool) (
 some [.b false]) (
 L_laws_FnTop (some 31) [.i a0, .i (IntKind.i64.wrap (a1 + 1)), .i a2, .i a3, .l a4, .i a5, .i a6, .i a7, .i a8, .l a9, .l a10, .l a11, .i a12, .l a13, .l a14, .i a15, .i a16, .i a17, .l a18, .l a19, .l a20, .l a21, .l a22])) (
 none))) (
 none)) (
 L_laws_FnTop (some 10) [.i (IntKind.i64.wrap (a0 + 1)), .i a2, .i a3, .l a4, .i a5, .i a6, .i a7, .i a8, .l a9, .l a10, .l a11, .i a12, .l a13, .l a14, .i a15, .i a16, .i a17, .l a18, .l a19, .l a20, .l a22]) := (Lim_eq _ _).trans (by kernel_rfl)
theorem k_laws_FnTop : SigOk Tryz.prog (d_laws_FnTop.sig (L_laws_FnTop none)) ∧ (d_laws_FnTop.sig (L_laws_FnTop none)).ok = true := sound_lim (known_cons k_spec_FormThing (by kernel_rfl) (known_cons k_spec_Sum (by kernel_rfl) (known_cons k_laws_wStart (by kernel_rfl) (known_cons k_spec_DrawActs (by kernel_rfl) (known_cons k_spec_Act_Thing (by kernel_rfl) (known_cons k_laws_wDo (by kernel_rfl) (known_cons k_spec_ValidVault (by kernel_rfl) (known_cons k_laws_wCode (by kernel_rfl) (known_cons k_laws_wVault (by kernel_rfl) (known_cons k_laws_wAmong (by kernel_rfl) (known_cons k_laws_wMoments (by kernel_rfl) (known_cons k_spec_Live (by kernel_rfl) (known_cons k_impl_Fetch (by kernel_rfl) (known_cons k_laws_wPut (by kernel_rfl) known_nil)))))))))))))) (by kernel_rfl) (by kernel_rfl) (by kernel_rfl)
end KV
end
