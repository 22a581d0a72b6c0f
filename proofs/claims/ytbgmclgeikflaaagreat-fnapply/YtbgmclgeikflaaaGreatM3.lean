/- Walks of Go functions, printed by a program of ours. -/
import Derived.Test.YtbgmclgeikflaaaGreatProg
import Derived.Shelf.Sort.AssemblysIn
import Derived.Shelf.Slices.In.SortNone2
import Derived.Sort.EveryDepth
import Derived.Test.YtbgmclgeikflaaaGreatM1
import Derived.Test.YtbgmclgeikflaaaGreatM2
set_option linter.unusedSimpArgs false
set_option linter.unusedVariables false
set_option linter.unusedSectionVars false
section
set_option maxRecDepth 100000
namespace KV
open Go Go.Eng Go.Proofs
def dqbl : FD := { fn := 111, nb := 0, pre := ⟨[.sc (.i .i64 0)], []⟩, post := ⟨[.sc (.b 0)], []⟩, sh := false, cuts := [] }
noncomputable def Lqbl : Option Nat → Lv → Option Lv := Lim Tryz.prog [] dqbl Tryz.f111
theorem eqbl_i (a0 : Int) : Lqbl none [.i a0] =
 cond (decide (1 ≤ a0)) (
 some [.b (decide (a0 ≤ 8))]) (
 some [.b false]) := (zd _ _).trans (by kernel_rfl)
theorem kqbl : SigOk Tryz.prog (dqbl.sig (Lqbl none)) ∧ (dqbl.sig (Lqbl none)).ok = true := zf ze (by kernel_rfl) (by kernel_rfl) (by kernel_rfl)
def dqx : FD := { fn := 71, nb := 0, pre := ⟨[.sc (.s 0), .sc (.i .i64 1)], []⟩, post := ⟨[.sc (.s 0)], []⟩, sh := false, cuts := [⟨5, [0, 1, 5, 13, 14], ⟨[.sc (.s 0), .sc (.i .i64 1), .sc (.i .u64 2), .sc (.i .i64 3), .sc (.i .i64 4)], []⟩⟩, ⟨12, [5, 7, 8], ⟨[.sc (.i .u64 0), .sc (.ow 0), .sc (.i .i64 1)], [.rw 5 true 2]⟩⟩] }
noncomputable def Lqx : Option Nat → Lv → Option Lv := Lim Tryz.prog [dqbl.sig (Lqbl none)] dqx Tryz.f71
theorem eqx_i (a0 : ByteArray) (a1 : Int) : Lqx none [.s a0, .i a1] =
 (Lqbl none [.i a1]).bind fun y1 =>
 cond (!(g y1 0).bool) (
 some [.s (⟨#[]⟩ : ByteArray)]) (
 Lqx (some 5) [.s a0, .i a1, .i 14695981039346656037, .i (a0.size : Int), .i 0]) := (zd _ _).trans (by kernel_rfl)
theorem eqx_5 (a0 : ByteArray) (a1 a2 a3 a4 : Int) : Lqx (some 5) [.s a0, .i a1, .i a2, .i a3, .i a4] =
 cond (decide (a4 < a3)) (
 cond (inb a4 a0.size) (
 Lqx (some 5) [.s a0, .i a1, .i (IntKind.u64.wrap ((IntKind.u64.wrap (BitVec.ofInt (IntKind.u64).bits a2 ^^^ BitVec.ofInt (IntKind.u64).bits (IntKind.u64.wrap (byteAt a0 a4.toNat))).toNat) * 1099511628211)), .i a3, .i (IntKind.i64.wrap (a4 + 1))]) (
 none)) (
 cond (decide (0 ≤ a1)) (
 cond (a1 == a1) (
 cond (decide (a1 ≤ (most : Int))) (
 Lqx (some 12) [.i a2, .i (IntKind.i64.wrap (a1 - 1)), .l (List.replicate a1.toNat ([.i 0] : List C))]) (
 none)) (
 none)) (
 none)) := (zd _ _).trans (by kernel_rfl)
theorem eqx_12 (a0 a1 : Int) (a2 : Rw) : Lqx (some 12) [.i a0, .i a1, .l a2] =
 cond (decide (0 ≤ a1)) (
 cond (inb a1 a2.length) (
 Lqx (some 12) [.i (a0.fdiv (2 ^ 8)), .i (IntKind.i64.wrap (a1 - 1)), .l (wrs a2 a1.toNat 0 ([.i (IntKind.u8.wrap a0)] : List C))]) (
 none)) (
 some [.s (bytesOf a2)]) := (zd _ _).trans (by kernel_rfl)
theorem kqx : SigOk Tryz.prog (dqx.sig (Lqx none)) ∧ (dqx.sig (Lqx none)).ok = true := zf (zb kqbl (by kernel_rfl) ze) (by kernel_rfl) (by kernel_rfl) (by kernel_rfl)
def dqbw : FD := { fn := 56, nb := 0, pre := ⟨[.sc (.fz 9 false 0), .sc (.fz 9 false 1)], []⟩, post := ⟨[.sc (.b 0)], []⟩, sh := false, cuts := [⟨4, [0, 1, 5], ⟨[.sc (.fz 9 false 0), .sc (.fz 9 false 1), .sc (.i .i64 2)], []⟩⟩] }
noncomputable def Lqbw : Option Nat → Lv → Option Lv := Lim Tryz.prog [] dqbw Tryz.f56
theorem eqbw_i (a0 a1 : Rw) : Lqbw none [.l a0, .l a1] =
 cond ((a0.length : Int) != (a1.length : Int)) (
 some [.b false]) (
 Lqbw (some 4) [.l a0, .l a1, .i 0]) := (zd _ _).trans (by kernel_rfl)
theorem eqbw_4 (a0 a1 : Rw) (a2 : Int) : Lqbw (some 4) [.l a0, .l a1, .i a2] =
 cond (decide (a2 < (a0.length : Int))) (
 cond (inb a2 a0.length) (
 cond (inb a2 a1.length) (
 cond (!Eng.seq ((rd a0 a2.toNat 0).str) ((rd a1 a2.toNat 0).str)) (
 some [.b false]) (
 Lqbw (some 4) [.l a0, .l a1, .i (IntKind.i64.wrap (a2 + 1))])) (
 none)) (
 none)) (
 some [.b true]) := (zd _ _).trans (by kernel_rfl)
theorem kqbw : SigOk Tryz.prog (dqbw.sig (Lqbw none)) ∧ (dqbw.sig (Lqbw none)).ok = true := zf ze (by kernel_rfl) (by kernel_rfl) (by kernel_rfl)
def dqc1 : FD := { fn := 65, nb := 0, pre := ⟨[.ag [.s 0, .fz 9 false 1], .ag [.s 2, .fz 9 false 3]], []⟩, post := ⟨[.sc (.b 0)], []⟩, sh := false, cuts := [] }
noncomputable def Lqc1 : Option Nat → Lv → Option Lv := Lim Tryz.prog [dqbw.sig (Lqbw none)] dqc1 Tryz.f65
theorem eqc1_i (a0 : ByteArray) (a1 : Rw) (a2 : ByteArray) (a3 : Rw) : Lqc1 none [.s a0, .l a1, .s a2, .l a3] =
 cond (Eng.seq a0 a2) (
 (Lqbw none [.l a1, .l a3]).bind fun y1 =>
 some [.b ((g y1 0).bool)]) (
 some [.b false]) := (zd _ _).trans (by kernel_rfl)
theorem kqc1 : SigOk Tryz.prog (dqc1.sig (Lqc1 none)) ∧ (dqc1.sig (Lqc1 none)).ok = true := zf (zb kqbw (by kernel_rfl) ze) (by kernel_rfl) (by kernel_rfl) (by kernel_rfl)
def dqg : FD := { fn := 35, nb := 0, pre := ⟨[.ag [.i .i64 0, .i .i64 1, .i .i64 2, .i .i64 3, .fz 90 false 4, .fz 156 false 5, .fz 158 false 6], .ag [.i .i64 7, .i .i64 8, .i .i64 9, .i .i64 10, .fz 90 false 11, .fz 156 false 12, .fz 158 false 13]], []⟩, post := ⟨[.sc (.b 0)], []⟩, sh := false, cuts := [⟨4, [2, 3, 5], ⟨[.sc (.pt 0 0), .sc (.pt 1 0), .sc (.i .i64 0)], [.bx [.i .i64 1, .i .i64 2, .i .i64 3, .i .i64 4, .fz 90 false 5, .fz 156 false 6, .fz 158 false 7], .bx [.i .i64 8, .i .i64 9, .i .i64 10, .i .i64 11, .fz 90 false 12, .fz 156 false 13, .fz 158 false 14]]⟩⟩, ⟨9, [2, 3, 6], ⟨[.sc (.pt 0 0), .sc (.pt 1 0), .sc (.i .i64 0)], [.bx [.i .i64 1, .i .i64 2, .i .i64 3, .i .i64 4, .fz 90 false 5, .fz 156 false 6, .fz 158 false 7], .bx [.i .i64 8, .i .i64 9, .i .i64 10, .i .i64 11, .fz 90 false 12, .fz 156 false 13, .fz 158 false 14]]⟩⟩, ⟨14, [2, 3, 7], ⟨[.sc (.pt 0 0), .sc (.pt 1 0), .sc (.i .i64 0)], [.bx [.i .i64 1, .i .i64 2, .i .i64 3, .i .i64 4, .fz 90 false 5, .fz 156 false 6, .fz 158 false 7], .bx [.i .i64 8, .i .i64 9, .i .i64 10, .i .i64 11, .fz 90 false 12, .fz 156 false 13, .fz 158 false 14]]⟩⟩] }
noncomputable def Lqg : Option Nat → Lv → Option Lv := Lim Tryz.prog [dqc1.sig (Lqc1 none)] dqg Tryz.f35
theorem eqg_i (a0 a1 a2 a3 : Int) (a4 a5 a6 : Rw) (a7 a8 a9 a10 : Int) (a11 a12 a13 : Rw) : Lqg none [.i a0, .i a1, .i a2, .i a3, .l a4, .l a5, .l a6, .i a7, .i a8, .i a9, .i a10, .l a11, .l a12, .l a13] =
 cond (a0 != a7) (
 some [.b false]) (
 cond (a1 != a8) (
 some [.b false]) (
 cond (a2 != a9) (
 some [.b false]) (
 cond (a3 != a10) (
 some [.b false]) (
 cond ((a4.length : Int) != (a11.length : Int)) (
 some [.b false]) (
 cond ((a5.length : Int) != (a12.length : Int)) (
 some [.b false]) (
 cond ((a6.length : Int) != (a13.length : Int)) (
 some [.b false]) (
 Lqg (some 4) [.i 0, .i a0, .i a1, .i a2, .i a3, .l a4, .l a5, .l a6, .i a7, .i a8, .i a9, .i a10, .l a11, .l a12, .l a13]))))))) := (zd _ _).trans (by kernel_rfl)
theorem eqg_4 (a0 a1 a2 a3 a4 : Int) (a5 a6 a7 : Rw) (a8 a9 a10 a11 : Int) (a12 a13 a14 : Rw) : Lqg (some 4) [.i a0, .i a1, .i a2, .i a3, .i a4, .l a5, .l a6, .l a7, .i a8, .i a9, .i a10, .i a11, .l a12, .l a13, .l a14] =
 cond (decide (a0 < (a5.length : Int))) (
 cond (inb a0 a5.length) (
 cond (inb a0 a12.length) (
 cond (!Eng.seq ((rd a5 a0.toNat 0).str) ((rd a12 a0.toNat 0).str)) (
 some [.b false]) (
 cond (inb a0 a5.length) (
 cond (inb a0 a12.length) (
 cond ((rd a5 a0.toNat 1).int != (rd a12 a0.toNat 1).int) (
 some [.b false]) (
 cond (inb a0 a5.length) (
 cond (inb a0 a12.length) (
 (Lqc1 none [.s ((rd a5 a0.toNat 2).str), .l ((rd a5 a0.toNat 3).list), .s ((rd a12 a0.toNat 2).str), .l ((rd a12 a0.toNat 3).list)]).bind fun y1 =>
 cond (!(g y1 0).bool) (
 some [.b false]) (
 Lqg (some 4) [.i (IntKind.i64.wrap (a0 + 1)), .i a1, .i a2, .i a3, .i a4, .l a5, .l a6, .l a7, .i a8, .i a9, .i a10, .i a11, .l a12, .l a13, .l a14])) (
 none)) (
 none))) (
 none)) (
 none))) (
 none)) (
 none)) (
 Lqg (some 9) [.i 0, .i a1, .i a2, .i a3, .i a4, .l a5, .l a6, .l a7, .i a8, .i a9, .i a10, .i a11, .l a12, .l a13, .l a14]) := (zd _ _).trans (by kernel_rfl)
theorem eqg_9 (a0 a1 a2 a3 a4 : Int) (a5 a6 a7 : Rw) (a8 a9 a10 a11 : Int) (a12 a13 a14 : Rw) : Lqg (some 9) [.i a0, .i a1, .i a2, .i a3, .i a4, .l a5, .l a6, .l a7, .i a8, .i a9, .i a10, .i a11, .l a12, .l a13, .l a14] =
 cond (decide (a0 < (a6.length : Int))) (
 cond (inb a0 a6.length) (
 cond (inb a0 a13.length) (
 cond (!((Eng.seq ((rd a6 a0.toNat 0).str) ((rd a13 a0.toNat 0).str)) && ((Eng.seq ((rd a6 a0.toNat 1).str) ((rd a13 a0.toNat 1).str)) && true))) (
 some [.b false]) (
 Lqg (some 9) [.i (IntKind.i64.wrap (a0 + 1)), .i a1, .i a2, .i a3, .i a4, .l a5, .l a6, .l a7, .i a8, .i a9, .i a10, .i a11, .l a12, .l a13, .l a14])) (
 none)) (
 none)) (
 Lqg (some 14) [.i 0, .i a1, .i a2, .i a3, .i a4, .l a5, .l a6, .l a7, .i a8, .i a9, .i a10, .i a11, .l a12, .l a13, .l a14]) := (zd _ _).trans (by kernel_rfl)
theorem eqg_14 (a0 a1 a2 a3 a4 : Int) (a5 a6 a7 : Rw) (a8 a9 a10 a11 : Int) (a12 a13 a14 : Rw) : Lqg (some 14) [.i a0, .i a1, .i a2, .i a3, .i a4, .l a5, .l a6, .l a7, .i a8, .i a9, .i a10, .i a11, .l a12, .l a13, .l a14] =
 cond (decide (a0 < (a7.length : Int))) (
 cond (inb a0 a7.length) (
 cond (inb a0 a14.length) (
 cond (!(((rd a7 a0.toNat 0).int == (rd a14 a0.toNat 0).int) && ((Eng.seq ((rd a7 a0.toNat 1).str) ((rd a14 a0.toNat 1).str)) && (((rd a7 a0.toNat 2).int == (rd a14 a0.toNat 2).int) && true)))) (
 some [.b false]) (
 Lqg (some 14) [.i (IntKind.i64.wrap (a0 + 1)), .i a1, .i a2, .i a3, .i a4, .l a5, .l a6, .l a7, .i a8, .i a9, .i a10, .i a11, .l a12, .l a13, .l a14])) (
 none)) (
 none)) (
 some [.b true]) := (zd _ _).trans (by kernel_rfl)
theorem kqg : SigOk Tryz.prog (dqg.sig (Lqg none)) ∧ (dqg.sig (Lqg none)).ok = true := zf (zb kqc1 (by kernel_rfl) ze) (by kernel_rfl) (by kernel_rfl) (by kernel_rfl)
def dq8 : FD := { fn := 141, nb := 0, pre := ⟨[.ag [.s 0, .fz 9 false 1], .sc (.i .i64 2)], []⟩, post := ⟨[.sc (.b 0)], []⟩, sh := false, cuts := [⟨4, [1, 2, 18, 19, 20], ⟨[.sc (.i .i64 0), .sc (.pt 0 0), .sc (.fz 9 false 1), .sc (.i .i64 2), .sc (.i .i64 3)], [.bx [.s 4, .fz 9 false 5]]⟩⟩] }
noncomputable def Lq8 : Option Nat → Lv → Option Lv := Lim Tryz.prog [dqbl.sig (Lqbl none)] dq8 Tryz.f141
theorem eq8_i (a0 : ByteArray) (a1 : Rw) (a2 : Int) : Lq8 none [.s a0, .l a1, .i a2] =
 cond (decide (2000 < (a0.size : Int))) (
 some [.b false]) (
 cond (decide (30 < (a1.length : Int))) (
 some [.b false]) (
 Lq8 (some 4) [.i a2, .l a1, .i (a1.length : Int), .i 0, .s a0, .l a1])) := (zd _ _).trans (by kernel_rfl)
theorem eq8_4 (a0 : Int) (a1 : Rw) (a2 a3 : Int) (a4 : ByteArray) (a5 : Rw) : Lq8 (some 4) [.i a0, .l a1, .i a2, .i a3, .s a4, .l a5] =
 cond (decide (a3 < a2)) (
 cond (inb a3 a1.length) (
 cond ((((rd a1 a3.toNat 0).str).size : Int) != a0) (
 some [.b false]) (
 cond (decide (0 < a3)) (
 cond (inb (IntKind.i64.wrap (a3 - 1)) a5.length) (
 cond (!slt ((rd a5 ((IntKind.i64.wrap (a3 - 1)).toNat) 0).str) ((rd a1 a3.toNat 0).str)) (
 some [.b false]) (
 Lq8 (some 4) [.i a0, .l a1, .i a2, .i (IntKind.i64.wrap (a3 + 1)), .s a4, .l a5])) (
 none)) (
 Lq8 (some 4) [.i a0, .l a1, .i a2, .i (IntKind.i64.wrap (a3 + 1)), .s a4, .l a5]))) (
 none)) (
 (Lqbl none [.i a0]).bind fun y1 =>
 some [.b ((g y1 0).bool)]) := (zd _ _).trans (by kernel_rfl)
theorem kq8 : SigOk Tryz.prog (dq8.sig (Lq8 none)) ∧ (dq8.sig (Lq8 none)).ok = true := zf (zb kqbl (by kernel_rfl) ze) (by kernel_rfl) (by kernel_rfl) (by kernel_rfl)
def dqbc : FD := { fn := 142, nb := 0, pre := ⟨[.sc (.s 0)], []⟩, post := ⟨[.sc (.b 0)], []⟩, sh := false, cuts := [⟨2, [0, 5, 6], ⟨[.sc (.s 0), .sc (.i .i64 1), .sc (.i .i64 2)], []⟩⟩] }
noncomputable def Lqbc : Option Nat → Lv → Option Lv := Lim Tryz.prog [] dqbc Tryz.f142
theorem eqbc_i (a0 : ByteArray) : Lqbc none [.s a0] =
 Lqbc (some 2) [.s a0, .i (a0.size : Int), .i 0] := (zd _ _).trans (by kernel_rfl)
theorem eqbc_2 (a0 : ByteArray) (a1 a2 : Int) : Lqbc (some 2) [.s a0, .i a1, .i a2] =
 cond (decide (a2 < a1)) (
 cond (inb a2 a0.size) (
 cond (decide ((byteAt a0 a2.toNat) < 33)) (
 some [.b false]) (
 cond (inb a2 a0.size) (
 cond (decide (126 < (byteAt a0 a2.toNat))) (
 some [.b false]) (
 Lqbc (some 2) [.s a0, .i a1, .i (IntKind.i64.wrap (a2 + 1))])) (
 none))) (
 none)) (
 cond (decide (1 ≤ (a0.size : Int))) (
 some [.b (decide ((a0.size : Int) ≤ 40))]) (
 some [.b false])) := (zd _ _).trans (by kernel_rfl)
theorem kqbc : SigOk Tryz.prog (dqbc.sig (Lqbc none)) ∧ (dqbc.sig (Lqbc none)).ok = true := zf ze (by kernel_rfl) (by kernel_rfl) (by kernel_rfl)
def dqda : FD := { fn := 160, nb := 0, pre := ⟨[.sc (.i .i64 0), .sc (.pt 0 0), .sc (.pt 2 0)], [.rb [.pt 1 0], .rb [.i .i64 1, .i .i64 2, .i .i64 3, .i .i64 4, .fz 90 false 5, .fz 156 false 6, .fz 158 false 7], .rb [.s 8]]⟩, post := ⟨[.sc (.b 0)], []⟩, sh := false, cuts := [] }
noncomputable def Lqda : Option Nat → Lv → Option Lv := Lim Tryz.prog [] dqda Tryz.f160
theorem eqda_i (a0 a1 a2 a3 a4 : Int) (a5 a6 a7 : Rw) (a8 : ByteArray) : Lqda none [.i a0, .i a1, .i a2, .i a3, .i a4, .l a5, .l a6, .l a7, .s a8] =
 cond (inb a0 a5.length) (
 some [.b (!slt ((rd a5 a0.toNat 0).str) a8)]) (
 none) := (zd _ _).trans (by kernel_rfl)
theorem kqda : SigOk Tryz.prog (dqda.sig (Lqda none)) ∧ (dqda.sig (Lqda none)).ok = true := zf ze (by kernel_rfl) (by kernel_rfl) (by kernel_rfl)
def dqbx : FD := { fn := 159, nb := 0, pre := ⟨[.sc (.i .i64 0), .sc (.fn 160 [(0, 0), (2, 0)])], [.rb [.pt 1 0], .rb [.i .i64 1, .i .i64 2, .i .i64 3, .i .i64 4, .fz 90 false 5, .fz 156 false 6, .fz 158 false 7], .rb [.s 8]]⟩, post := ⟨[.sc (.i .i64 0)], []⟩, sh := false, cuts := [⟨2, [1, 5, 6], ⟨[.sc (.fn 160 [(0, 0), (1, 0)]), .sc (.i .i64 0), .sc (.i .i64 1)], [.rb [.pt 2 0], .rb [.s 2], .rb [.i .i64 3, .i .i64 4, .i .i64 5, .i .i64 6, .fz 90 false 7, .fz 156 false 8, .fz 158 false 9]]⟩⟩] }
noncomputable def Lqbx : Option Nat → Lv → Option Lv := Lim Tryz.prog [dqda.sig (Lqda none)] dqbx Tryz.f159
theorem eqbx_i (a0 a1 a2 a3 a4 : Int) (a5 a6 a7 : Rw) (a8 : ByteArray) : Lqbx none [.i a0, .i a1, .i a2, .i a3, .i a4, .l a5, .l a6, .l a7, .s a8] =
 Lqbx (some 2) [.i 0, .i a0, .s a8, .i a1, .i a2, .i a3, .i a4, .l a5, .l a6, .l a7] := (zd _ _).trans (by kernel_rfl)
theorem eqbx_2 (a0 a1 : Int) (a2 : ByteArray) (a3 a4 a5 a6 : Int) (a7 a8 a9 : Rw) : Lqbx (some 2) [.i a0, .i a1, .s a2, .i a3, .i a4, .i a5, .i a6, .l a7, .l a8, .l a9] =
 cond (decide (a0 < a1)) (
 (Lqda none [.i (IntKind.i64.wrap ((IntKind.u64.wrap (IntKind.i64.wrap (a0 + a1))).fdiv (2 ^ 1))), .i a3, .i a4, .i a5, .i a6, .l a7, .l a8, .l a9, .s a2]).bind fun y1 =>
 cond (!(g y1 0).bool) (
 Lqbx (some 2) [.i (IntKind.i64.wrap ((IntKind.i64.wrap ((IntKind.u64.wrap (IntKind.i64.wrap (a0 + a1))).fdiv (2 ^ 1))) + 1)), .i a1, .s a2, .i a3, .i a4, .i a5, .i a6, .l a7, .l a8, .l a9]) (
 Lqbx (some 2) [.i a0, .i (IntKind.i64.wrap ((IntKind.u64.wrap (IntKind.i64.wrap (a0 + a1))).fdiv (2 ^ 1))), .s a2, .i a3, .i a4, .i a5, .i a6, .l a7, .l a8, .l a9])) (
 some [.i a0]) := (zd _ _).trans (by kernel_rfl)
theorem kqbx : SigOk Tryz.prog (dqbx.sig (Lqbx none)) ∧ (dqbx.sig (Lqbx none)).ok = true := zf (zb kqda (by kernel_rfl) ze) (by kernel_rfl) (by kernel_rfl) (by kernel_rfl)
def dq7 : FD := { fn := 96, nb := 0, pre := ⟨[.sc (.pt 0 0), .sc (.s 0)], [.rb [.i .i64 1, .i .i64 2, .i .i64 3, .i .i64 4, .fz 90 false 5, .fz 156 false 6, .fz 158 false 7]]⟩, post := ⟨[.tu [(false, [.i .i64 0]), (false, [.b 1])]], []⟩, sh := false, cuts := [] }
noncomputable def Lq7 : Option Nat → Lv → Option Lv := Lim Tryz.prog [dqbx.sig (Lqbx none)] dq7 Tryz.f96
theorem eq7_i (a0 : ByteArray) (a1 a2 a3 a4 : Int) (a5 a6 a7 : Rw) : Lq7 none [.s a0, .i a1, .i a2, .i a3, .i a4, .l a5, .l a6, .l a7] =
 (Lqbx none [.i (a5.length : Int), .i a1, .i a2, .i a3, .i a4, .l a5, .l a6, .l a7, .s a0]).bind fun y1 =>
 cond (decide ((g y1 0).int < (a5.length : Int))) (
 cond (inb ((g y1 0).int) a5.length) (
 some [.i ((g y1 0).int), .b (Eng.seq ((rd a5 (((g y1 0).int).toNat) 0).str) a0)]) (
 none)) (
 some [.i ((g y1 0).int), .b false]) := (zd _ _).trans (by kernel_rfl)
theorem kq7 : SigOk Tryz.prog (dq7.sig (Lq7 none)) ∧ (dq7.sig (Lq7 none)).ok = true := zf (zb kqbx (by kernel_rfl) ze) (by kernel_rfl) (by kernel_rfl) (by kernel_rfl)
def dq9 : FD := { fn := 122, nb := 0, pre := ⟨[.ag [.s 0, .fz 9 false 1]], []⟩, post := ⟨[.sc (.s 0)], []⟩, sh := false, cuts := [⟨3, [1, 3, 13, 14, 15], ⟨[.sc (.pt 0 0), .sc (.s 0), .sc (.fz 9 false 1), .sc (.i .i64 2), .sc (.i .i64 3)], [.bx [.s 4, .fz 9 false 5]]⟩⟩] }
noncomputable def Lq9 : Option Nat → Lv → Option Lv := Lim Tryz.prog [] dq9 Tryz.f122
theorem eq9_i (a0 : ByteArray) (a1 : Rw) : Lq9 none [.s a0, .l a1] =
 Lq9 (some 3) [.s (bytesOf ([[.i (IntKind.u8.wrap (a1.length : Int))]] : Rw)), .l a1, .i (a1.length : Int), .i 0, .s a0, .l a1] := (zd _ _).trans (by kernel_rfl)
theorem eq9_3 (a0 : ByteArray) (a1 : Rw) (a2 a3 : Int) (a4 : ByteArray) (a5 : Rw) : Lq9 (some 3) [.s a0, .l a1, .i a2, .i a3, .s a4, .l a5] =
 cond (decide (a3 < a2)) (
 cond (inb a3 a1.length) (
 cond (decide (a0.size + ((rd a1 a3.toNat 0).str).size ≤ most)) (
 Lq9 (some 3) [.s (a0 ++ ((rd a1 a3.toNat 0).str)), .l a1, .i a2, .i (IntKind.i64.wrap (a3 + 1)), .s a4, .l a5]) (
 none)) (
 none)) (
 cond (decide (a0.size + a4.size ≤ most)) (
 some [.s (a0 ++ a4)]) (
 none)) := (zd _ _).trans (by kernel_rfl)
theorem kq9 : SigOk Tryz.prog (dq9.sig (Lq9 none)) ∧ (dq9.sig (Lq9 none)).ok = true := zf ze (by kernel_rfl) (by kernel_rfl) (by kernel_rfl)
def dqcm : FD := { fn := 140, nb := 0, pre := ⟨[.sc (.i .i64 0)], []⟩, post := ⟨[.sc (.b 0)], []⟩, sh := false, cuts := [] }
noncomputable def Lqcm : Option Nat → Lv → Option Lv := Lim Tryz.prog [] dqcm Tryz.f140
theorem eqcm_i (a0 : Int) : Lqcm none [.i a0] =
 cond (decide (0 ≤ a0)) (
 some [.b (decide (a0 ≤ 1000000000))]) (
 some [.b false]) := (zd _ _).trans (by kernel_rfl)
theorem kqcm : SigOk Tryz.prog (dqcm.sig (Lqcm none)) ∧ (dqcm.sig (Lqcm none)).ok = true := zf ze (by kernel_rfl) (by kernel_rfl) (by kernel_rfl)
def dqb : FD := { fn := 55, nb := 0, pre := ⟨[.ag [.i .i64 0, .i .i64 1, .i .i64 2, .i .i64 3, .fz 90 false 4, .fz 156 false 5, .fz 158 false 6]], []⟩, post := ⟨[.sc (.b 0)], []⟩, sh := false, cuts := [⟨5, [1, 3, 62, 63, 64], ⟨[.sc (.pt 0 0), .sc (.mp 1), .sc (.fz 90 false 0), .sc (.i .i64 1), .sc (.i .i64 2)], [.bx [.i .i64 3, .i .i64 4, .i .i64 5, .i .i64 6, .fz 90 false 7, .fz 156 false 8, .fz 158 false 9], .mp 3 4 10]⟩⟩, ⟨12, [1, 125, 126, 127], ⟨[.sc (.pt 0 0), .sc (.fz 90 false 0), .sc (.i .i64 1), .sc (.i .i64 2)], [.bx [.i .i64 3, .i .i64 4, .i .i64 5, .i .i64 6, .fz 90 false 7, .fz 156 false 8, .fz 158 false 9]]⟩⟩, ⟨15, [1, 7, 125, 126, 127, 133, 134, 135], ⟨[.sc (.pt 0 0), .sc (.pt 1 0), .sc (.fz 90 false 0), .sc (.i .i64 1), .sc (.i .i64 2), .sc (.fz 9 false 3), .sc (.i .i64 4), .sc (.i .i64 5)], [.bx [.i .i64 6, .i .i64 7, .i .i64 8, .i .i64 9, .fz 90 false 10, .fz 156 false 11, .fz 158 false 12], .bx [.s 13, .i .i64 14, .s 15, .fz 9 false 16]]⟩⟩, ⟨23, [1, 160, 161, 162], ⟨[.sc (.pt 0 0), .sc (.fz 156 false 0), .sc (.i .i64 1), .sc (.i .i64 2)], [.bx [.i .i64 3, .i .i64 4, .i .i64 5, .i .i64 6, .fz 90 false 7, .fz 156 false 8, .fz 158 false 9]]⟩⟩, ⟨30, [1, 199, 200, 201], ⟨[.sc (.pt 0 0), .sc (.fz 158 false 0), .sc (.i .i64 1), .sc (.i .i64 2)], [.bx [.i .i64 3, .i .i64 4, .i .i64 5, .i .i64 6, .fz 90 false 7, .fz 156 false 8, .fz 158 false 9]]⟩⟩] }
noncomputable def Lqb : Option Nat → Lv → Option Lv := Lim Tryz.prog [dqbl.sig (Lqbl none), dq8.sig (Lq8 none), dqbc.sig (Lqbc none), dqx.sig (Lqx none), dq7.sig (Lq7 none), dq9.sig (Lq9 none), dqcm.sig (Lqcm none)] dqb Tryz.f55
theorem eqb_i (a0 a1 a2 a3 : Int) (a4 a5 a6 : Rw) : Lqb none [.i a0, .i a1, .i a2, .i a3, .l a4, .l a5, .l a6] =
 (Lqbl none [.i a0]).bind fun y1 =>
 cond (!(g y1 0).bool) (
 some [.b false]) (
 (Lqcm none [.i a1]).bind fun y2 =>
 cond (!(g y2 0).bool) (
 some [.b false]) (
 (Lqcm none [.i a2]).bind fun y3 =>
 cond (!(g y3 0).bool) (
 some [.b false]) (
 (Lqcm none [.i a3]).bind fun y4 =>
 cond (!(g y4 0).bool) (
 some [.b false]) (
 cond (decide (600 < (a4.length : Int))) (
 some [.b false]) (
 cond (decide (100 < (a5.length : Int))) (
 some [.b false]) (
 cond (decide (200 < (a6.length : Int))) (
 some [.b false]) (
 Lqb (some 5) [.l a4, .i (a4.length : Int), .i 0, .i a0, .i a1, .i a2, .i a3, .l a4, .l a5, .l a6, .m ([])]))))))) := (zd _ _).trans (by kernel_rfl)
theorem eqb_5 (a0 : Rw) (a1 a2 a3 a4 a5 a6 : Int) (a7 a8 a9 : Rw) (a10 : List (C × C)) : Lqb (some 5) [.l a0, .i a1, .i a2, .i a3, .i a4, .i a5, .i a6, .l a7, .l a8, .l a9, .m a10] =
 cond (decide (a2 < a1)) (
 cond (inb a2 a0.length) (
 cond (decide (0 < a2)) (
 cond (inb (IntKind.i64.wrap (a2 - 1)) a7.length) (
 cond (!slt ((rd a7 ((IntKind.i64.wrap (a2 - 1)).toNat) 0).str) ((rd a0 a2.toNat 0).str)) (
 some [.b false]) (
 (Lq8 none [.s ((rd a0 a2.toNat 2).str), .l ((rd a0 a2.toNat 3).list), .i a3]).bind fun y1 =>
 cond (!(g y1 0).bool) (
 some [.b false]) (
 (Lq9 none [.s ((rd a0 a2.toNat 2).str), .l ((rd a0 a2.toNat 3).list)]).bind fun y2 =>
 (Lqx none [.s ((g y2 0).str), .i a3]).bind fun y3 =>
 cond (!Eng.seq ((rd a0 a2.toNat 0).str) ((g y3 0).str)) (
 some [.b false]) (
 cond (decide ((rd a0 a2.toNat 1).int < 1)) (
 some [.b false]) (
 cond (decide (a6 < (rd a0 a2.toNat 1).int)) (
 some [.b false]) (
 cond (((mget (.i .i64) (.i ((rd a0 a2.toNat 1).int)) a10).getD (.b false)).bool) (
 some [.b false]) (
 Lqb (some 5) [.l a0, .i a1, .i (IntKind.i64.wrap (a2 + 1)), .i a3, .i a4, .i a5, .i a6, .l a7, .l a8, .l a9, .m (mput (.i .i64) (.i ((rd a0 a2.toNat 1).int)) (.b true) a10)]))))))) (
 none)) (
 (Lq8 none [.s ((rd a0 a2.toNat 2).str), .l ((rd a0 a2.toNat 3).list), .i a3]).bind fun y4 =>
 cond (!(g y4 0).bool) (
 some [.b false]) (
 (Lq9 none [.s ((rd a0 a2.toNat 2).str), .l ((rd a0 a2.toNat 3).list)]).bind fun y5 =>
 (Lqx none [.s ((g y5 0).str), .i a3]).bind fun y6 =>
 cond (!Eng.seq ((rd a0 a2.toNat 0).str) ((g y6 0).str)) (
 some [.b false]) (
 cond (decide ((rd a0 a2.toNat 1).int < 1)) (
 some [.b false]) (
 cond (decide (a6 < (rd a0 a2.toNat 1).int)) (
 some [.b false]) (
 cond (((mget (.i .i64) (.i ((rd a0 a2.toNat 1).int)) a10).getD (.b false)).bool) (
 some [.b false]) (
 Lqb (some 5) [.l a0, .i a1, .i (IntKind.i64.wrap (a2 + 1)), .i a3, .i a4, .i a5, .i a6, .l a7, .l a8, .l a9, .m (mput (.i .i64) (.i ((rd a0 a2.toNat 1).int)) (.b true) a10)]))))))) (
 none)) (
 Lqb (some 12) [.l a7, .i (a7.length : Int), .i 0, .i a3, .i a4, .i a5, .i a6, .l a7, .l a8, .l a9]) := (zd _ _).trans (by kernel_rfl)
theorem eqb_12 (a0 : Rw) (a1 a2 a3 a4 a5 a6 : Int) (a7 a8 a9 : Rw) : Lqb (some 12) [.l a0, .i a1, .i a2, .i a3, .i a4, .i a5, .i a6, .l a7, .l a8, .l a9] =
 cond (decide (a2 < a1)) (
 cond (inb a2 a0.length) (
 Lqb (some 15) [.l a0, .i a1, .i a2, .l ((rd a0 a2.toNat 3).list), .i (((rd a0 a2.toNat 3).list).length : Int), .i 0, .i a3, .i a4, .i a5, .i a6, .l a7, .l a8, .l a9, .s ((rd a0 a2.toNat 0).str), .i ((rd a0 a2.toNat 1).int), .s ((rd a0 a2.toNat 2).str), .l ((rd a0 a2.toNat 3).list)]) (
 none)) (
 Lqb (some 23) [.l a8, .i (a8.length : Int), .i 0, .i a3, .i a4, .i a5, .i a6, .l a7, .l a8, .l a9]) := (zd _ _).trans (by kernel_rfl)
theorem eqb_15 (a0 : Rw) (a1 a2 : Int) (a3 : Rw) (a4 a5 a6 a7 a8 a9 : Int) (a10 a11 a12 : Rw) (a13 : ByteArray) (a14 : Int) (a15 : ByteArray) (a16 : Rw) : Lqb (some 15) [.l a0, .i a1, .i a2, .l a3, .i a4, .i a5, .i a6, .i a7, .i a8, .i a9, .l a10, .l a11, .l a12, .s a13, .i a14, .s a15, .l a16] =
 cond (decide (a5 < a4)) (
 cond (inb a5 a3.length) (
 (Lq7 none [.s ((rd a3 a5.toNat 0).str), .i a6, .i a7, .i a8, .i a9, .l a10, .l a11, .l a12]).bind fun y1 =>
 cond (!(g y1 1).bool) (
 some [.b false]) (
 cond (inb ((g y1 0).int) a10.length) (
 cond (decide (a14 ≤ (rd a10 (((g y1 0).int).toNat) 1).int)) (
 some [.b false]) (
 Lqb (some 15) [.l a0, .i a1, .i a2, .l a3, .i a4, .i (IntKind.i64.wrap (a5 + 1)), .i a6, .i a7, .i a8, .i a9, .l a10, .l a11, .l a12, .s a13, .i a14, .s a15, .l a16])) (
 none))) (
 none)) (
 Lqb (some 12) [.l a0, .i a1, .i (IntKind.i64.wrap (a2 + 1)), .i a6, .i a7, .i a8, .i a9, .l a10, .l a11, .l a12]) := (zd _ _).trans (by kernel_rfl)
theorem eqb_23 (a0 : Rw) (a1 a2 a3 a4 a5 a6 : Int) (a7 a8 a9 : Rw) : Lqb (some 23) [.l a0, .i a1, .i a2, .i a3, .i a4, .i a5, .i a6, .l a7, .l a8, .l a9] =
 cond (decide (a2 < a1)) (
 cond (inb a2 a0.length) (
 (Lq7 none [.s ((rd a0 a2.toNat 1).str), .i a3, .i a4, .i a5, .i a6, .l a7, .l a8, .l a9]).bind fun y1 =>
 cond (!(g y1 1).bool) (
 some [.b false]) (
 (Lqbc none [.s ((rd a0 a2.toNat 0).str)]).bind fun y2 =>
 cond (!(g y2 0).bool) (
 some [.b false]) (
 cond (decide (0 < a2)) (
 cond (inb (IntKind.i64.wrap (a2 - 1)) a8.length) (
 cond (!slt ((rd a8 ((IntKind.i64.wrap (a2 - 1)).toNat) 0).str) ((rd a0 a2.toNat 0).str)) (
 some [.b false]) (
 Lqb (some 23) [.l a0, .i a1, .i (IntKind.i64.wrap (a2 + 1)), .i a3, .i a4, .i a5, .i a6, .l a7, .l a8, .l a9])) (
 none)) (
 Lqb (some 23) [.l a0, .i a1, .i (IntKind.i64.wrap (a2 + 1)), .i a3, .i a4, .i a5, .i a6, .l a7, .l a8, .l a9])))) (
 none)) (
 Lqb (some 30) [.l a9, .i (a9.length : Int), .i 0, .i a3, .i a4, .i a5, .i a6, .l a7, .l a8, .l a9]) := (zd _ _).trans (by kernel_rfl)
theorem eqb_30 (a0 : Rw) (a1 a2 a3 a4 a5 a6 : Int) (a7 a8 a9 : Rw) : Lqb (some 30) [.l a0, .i a1, .i a2, .i a3, .i a4, .i a5, .i a6, .l a7, .l a8, .l a9] =
 cond (decide (a2 < a1)) (
 cond (inb a2 a0.length) (
 (Lq7 none [.s ((rd a0 a2.toNat 1).str), .i a3, .i a4, .i a5, .i a6, .l a7, .l a8, .l a9]).bind fun y1 =>
 cond (!(g y1 1).bool) (
 some [.b false]) (
 cond (decide ((rd a0 a2.toNat 0).int < 1)) (
 some [.b false]) (
 cond (decide (a5 < (rd a0 a2.toNat 0).int)) (
 some [.b false]) (
 cond (decide (0 < a2)) (
 cond (inb (IntKind.i64.wrap (a2 - 1)) a9.length) (
 cond (decide ((rd a0 a2.toNat 0).int ≤ (rd a9 ((IntKind.i64.wrap (a2 - 1)).toNat) 0).int)) (
 some [.b false]) (
 cond (decide ((rd a0 a2.toNat 2).int ≤ a4)) (
 some [.b false]) (
 cond (decide ((IntKind.i64.wrap (a4 + 100000)) < (rd a0 a2.toNat 2).int)) (
 some [.b false]) (
 Lqb (some 30) [.l a0, .i a1, .i (IntKind.i64.wrap (a2 + 1)), .i a3, .i a4, .i a5, .i a6, .l a7, .l a8, .l a9])))) (
 none)) (
 cond (decide ((rd a0 a2.toNat 2).int ≤ a4)) (
 some [.b false]) (
 cond (decide ((IntKind.i64.wrap (a4 + 100000)) < (rd a0 a2.toNat 2).int)) (
 some [.b false]) (
 Lqb (some 30) [.l a0, .i a1, .i (IntKind.i64.wrap (a2 + 1)), .i a3, .i a4, .i a5, .i a6, .l a7, .l a8, .l a9]))))))) (
 none)) (
 some [.b true]) := (zd _ _).trans (by kernel_rfl)
theorem kqb : SigOk Tryz.prog (dqb.sig (Lqb none)) ∧ (dqb.sig (Lqb none)).ok = true := zf (zb kqbl (by kernel_rfl) (zb kq8 (by kernel_rfl) (zb kqbc (by kernel_rfl) (zb kqx (by kernel_rfl) (zb kq7 (by kernel_rfl) (zb kq9 (by kernel_rfl) (zb kqcm (by kernel_rfl) ze))))))) (by kernel_rfl) (by kernel_rfl) (by kernel_rfl)
def dqcn : FD := { fn := 184, nb := 0, pre := ⟨[.sc (.i .i64 0)], []⟩, post := ⟨[.sc (.b 0)], []⟩, sh := false, cuts := [] }
noncomputable def Lqcn : Option Nat → Lv → Option Lv := Lim Tryz.prog [] dqcn Tryz.f184
theorem eqcn_i (a0 : Int) : Lqcn none [.i a0] =
 cond (a0 == 2) (
 some [.b true]) (
 cond (a0 == 4) (
 some [.b true]) (
 some [.b (a0 == 7)])) := (zd _ _).trans (by kernel_rfl)
theorem kqcn : SigOk Tryz.prog (dqcn.sig (Lqcn none)) ∧ (dqcn.sig (Lqcn none)).ok = true := zf ze (by kernel_rfl) (by kernel_rfl) (by kernel_rfl)
end KV
end
section
set_option maxRecDepth 100000
namespace KV
open Go Go.Eng Go.Proofs
def dqco : FD := { fn := 185, nb := 0, pre := ⟨[.sc (.i .i64 0)], []⟩, post := ⟨[.sc (.b 0)], []⟩, sh := false, cuts := [] }
noncomputable def Lqco : Option Nat → Lv → Option Lv := Lim Tryz.prog [] dqco Tryz.f185
theorem eqco_i (a0 : Int) : Lqco none [.i a0] =
 cond (a0 == 2) (
 some [.b true]) (
 some [.b (a0 == 3)]) := (zd _ _).trans (by kernel_rfl)
theorem kqco : SigOk Tryz.prog (dqco.sig (Lqco none)) ∧ (dqco.sig (Lqco none)).ok = true := zf ze (by kernel_rfl) (by kernel_rfl) (by kernel_rfl)
def dqh : FD := { fn := 118, nb := 0, pre := ⟨[.ag [.i .i64 0, .s 1, .s 2, .i .i64 3, .s 4, .fz 9 false 5], .sc (.i .i64 6)], []⟩, post := ⟨[.sc (.b 0)], []⟩, sh := false, cuts := [⟨5, [1, 2], ⟨[.sc (.i .i64 0), .sc (.pt 0 0)], [.bx [.i .i64 1, .s 2, .s 3, .i .i64 4, .s 5, .fz 9 false 6]]⟩⟩, ⟨7, [1, 2], ⟨[.sc (.i .i64 0), .sc (.pt 0 0)], [.bx [.i .i64 1, .s 2, .s 3, .i .i64 4, .s 5, .fz 9 false 6]]⟩⟩, ⟨13, [1, 2, 5, 6, 62], ⟨[.sc (.i .i64 0), .sc (.pt 0 0), .sc (.i .i64 1), .sc (.i .i64 2), .sc (.i .i64 3)], [.bx [.i .i64 4, .s 5, .s 6, .i .i64 7, .s 8, .fz 9 false 9]]⟩⟩, ⟨15, [1, 2, 5, 6], ⟨[.sc (.i .i64 0), .sc (.pt 0 0), .sc (.i .i64 1), .sc (.i .i64 2)], [.bx [.i .i64 3, .s 4, .s 5, .i .i64 6, .s 7, .fz 9 false 8]]⟩⟩] }
noncomputable def Lqh : Option Nat → Lv → Option Lv := Lim Tryz.prog [dqbl.sig (Lqbl none), dq8.sig (Lq8 none), dqbc.sig (Lqbc none), dqcn.sig (Lqcn none), dqco.sig (Lqco none)] dqh Tryz.f118
theorem eqh_i (a0 : Int) (a1 a2 : ByteArray) (a3 : Int) (a4 : ByteArray) (a5 : Rw) (a6 : Int) : Lqh none [.i a0, .s a1, .s a2, .i a3, .s a4, .l a5, .i a6] =
 cond (decide (a0 < 1)) (
 some [.b false]) (
 cond (decide (7 < a0)) (
 some [.b false]) (
 (Lqbl none [.i a6]).bind fun y1 =>
 cond (!(g y1 0).bool) (
 some [.b false]) (
 (Lqcn none [.i a0]).bind fun y2 =>
 cond ((g y2 0).bool) (
 cond ((a1.size : Int) != a6) (
 some [.b false]) (
 (Lqcn none [.i a0]).bind fun y3 =>
 cond (!(g y3 0).bool) (
 cond (!Eng.seq a1 (⟨#[]⟩ : ByteArray)) (
 some [.b false]) (
 Lqh (some 5) [.i a6, .i a0, .s a1, .s a2, .i a3, .s a4, .l a5])) (
 Lqh (some 5) [.i a6, .i a0, .s a1, .s a2, .i a3, .s a4, .l a5]))) (
 (Lqcn none [.i a0]).bind fun y4 =>
 cond (!(g y4 0).bool) (
 cond (!Eng.seq a1 (⟨#[]⟩ : ByteArray)) (
 some [.b false]) (
 Lqh (some 5) [.i a6, .i a0, .s a1, .s a2, .i a3, .s a4, .l a5])) (
 Lqh (some 5) [.i a6, .i a0, .s a1, .s a2, .i a3, .s a4, .l a5]))))) := (zd _ _).trans (by kernel_rfl)
theorem eqh_5 (a0 a1 : Int) (a2 a3 : ByteArray) (a4 : Int) (a5 : ByteArray) (a6 : Rw) : Lqh (some 5) [.i a0, .i a1, .s a2, .s a3, .i a4, .s a5, .l a6] =
 (Lqco none [.i a1]).bind fun y1 =>
 cond ((g y1 0).bool) (
 (Lqbc none [.s a3]).bind fun y2 =>
 cond (!(g y2 0).bool) (
 some [.b false]) (
 (Lqco none [.i a1]).bind fun y3 =>
 cond (!(g y3 0).bool) (
 cond (!Eng.seq a3 (⟨#[]⟩ : ByteArray)) (
 some [.b false]) (
 Lqh (some 7) [.i a0, .i a1, .s a2, .s a3, .i a4, .s a5, .l a6])) (
 Lqh (some 7) [.i a0, .i a1, .s a2, .s a3, .i a4, .s a5, .l a6]))) (
 (Lqco none [.i a1]).bind fun y4 =>
 cond (!(g y4 0).bool) (
 cond (!Eng.seq a3 (⟨#[]⟩ : ByteArray)) (
 some [.b false]) (
 Lqh (some 7) [.i a0, .i a1, .s a2, .s a3, .i a4, .s a5, .l a6])) (
 Lqh (some 7) [.i a0, .i a1, .s a2, .s a3, .i a4, .s a5, .l a6])) := (zd _ _).trans (by kernel_rfl)
theorem eqh_7 (a0 a1 : Int) (a2 a3 : ByteArray) (a4 : Int) (a5 : ByteArray) (a6 : Rw) : Lqh (some 7) [.i a0, .i a1, .s a2, .s a3, .i a4, .s a5, .l a6] =
 cond (a1 == 1) (
 cond (a1 == 1) (
 Lqh (some 15) [.i a0, .i 1, .i 100000, .i a1, .s a2, .s a3, .i a4, .s a5, .l a6]) (
 Lqh (some 13) [.i a0, .i 0, .i 0, .i a1, .i a1, .s a2, .s a3, .i a4, .s a5, .l a6])) (
 cond (a1 == 4) (
 cond (a1 == 4) (
 Lqh (some 15) [.i a0, .i 1, .i 100000, .i a1, .s a2, .s a3, .i a4, .s a5, .l a6]) (
 Lqh (some 13) [.i a0, .i 0, .i 0, .i a1, .i a1, .s a2, .s a3, .i a4, .s a5, .l a6])) (
 cond (a1 == 6) (
 Lqh (some 15) [.i a0, .i 1, .i 100000, .i a1, .s a2, .s a3, .i a4, .s a5, .l a6]) (
 Lqh (some 13) [.i a0, .i 0, .i 0, .i a1, .i a1, .s a2, .s a3, .i a4, .s a5, .l a6]))) := (zd _ _).trans (by kernel_rfl)
theorem eqh_13 (a0 a1 a2 a3 a4 : Int) (a5 a6 : ByteArray) (a7 : Int) (a8 : ByteArray) (a9 : Rw) : Lqh (some 13) [.i a0, .i a1, .i a2, .i a3, .i a4, .s a5, .s a6, .i a7, .s a8, .l a9] =
 cond (a3 == 5) (
 Lqh (some 15) [.i a0, .i 1, .i 1000000000, .i a4, .s a5, .s a6, .i a7, .s a8, .l a9]) (
 Lqh (some 15) [.i a0, .i a1, .i a2, .i a4, .s a5, .s a6, .i a7, .s a8, .l a9]) := (zd _ _).trans (by kernel_rfl)
theorem eqh_15 (a0 a1 a2 a3 : Int) (a4 a5 : ByteArray) (a6 : Int) (a7 : ByteArray) (a8 : Rw) : Lqh (some 15) [.i a0, .i a1, .i a2, .i a3, .s a4, .s a5, .i a6, .s a7, .l a8] =
 cond (decide (a6 < a1)) (
 some [.b false]) (
 cond (decide (a2 < a6)) (
 some [.b false]) (
 cond (a3 == 1) (
 (Lq8 none [.s a7, .l a8, .i a0]).bind fun y1 =>
 some [.b ((g y1 0).bool)]) (
 cond (Eng.seq a7 (⟨#[]⟩ : ByteArray)) (
 some [.b ((a8.length : Int) == 0)]) (
 some [.b false])))) := (zd _ _).trans (by kernel_rfl)
theorem kqh : SigOk Tryz.prog (dqh.sig (Lqh none)) ∧ (dqh.sig (Lqh none)).ok = true := zf (zb kqbl (by kernel_rfl) (zb kq8 (by kernel_rfl) (zb kqbc (by kernel_rfl) (zb kqcn (by kernel_rfl) (zb kqco (by kernel_rfl) ze))))) (by kernel_rfl) (by kernel_rfl) (by kernel_rfl)
def dqcb : FD := { fn := 97, nb := 0, pre := ⟨[.sc (.fz 9 false 0)], []⟩, post := ⟨[.sc (.ow 0)], [.rw 9 true 0]⟩, sh := false, cuts := [] }
noncomputable def Lqcb : Option Nat → Lv → Option Lv := Lim Tryz.prog [] dqcb Tryz.f97
theorem eqcb_i (a0 : Rw) : Lqcb none [.l a0] =
 cond (decide (a0.length ≤ most)) (
 some [.l a0]) (
 none) := (zd _ _).trans (by kernel_rfl)
theorem kqcb : SigOk Tryz.prog (dqcb.sig (Lqcb none)) ∧ (dqcb.sig (Lqcb none)).ok = true := zf ze (by kernel_rfl) (by kernel_rfl) (by kernel_rfl)
def dqbm : FD := { fn := 186, nb := 0, pre := ⟨[.sc (.i .i64 0)], []⟩, post := ⟨[.ag [.i .i64 0, .i .i64 1, .i .i64 2, .i .i64 3, .i .i64 4, .fz 90 true 5, .fz 156 true 6, .fz 158 true 7, .s 8, .i .i64 9, .s 10, .s 11]], []⟩, sh := false, cuts := [] }
noncomputable def Lqbm : Option Nat → Lv → Option Lv := Lim Tryz.prog [] dqbm Tryz.f186
theorem eqbm_i (a0 : Int) : Lqbm none [.i a0] =
 some [.i a0, .i 0, .i 0, .i 0, .i 0, .l ([]), .l ([]), .l ([]), .s (⟨#[]⟩ : ByteArray), .i 0, .s (⟨#[]⟩ : ByteArray), .s (⟨#[]⟩ : ByteArray)] := (zd _ _).trans (by kernel_rfl)
theorem kqbm : SigOk Tryz.prog (dqbm.sig (Lqbm none)) ∧ (dqbm.sig (Lqbm none)).ok = true := zf ze (by kernel_rfl) (by kernel_rfl) (by kernel_rfl)
def dqcz : FD := { fn := 187, nb := 3, pre := ⟨[.sc (.s 0), .sc (.pt 0 0), .sc (.pt 2 0)], [.bx [.pt 1 0], .bx [.i .i64 1, .i .i64 2, .i .i64 3, .i .i64 4, .ow 3, .ow 4, .ow 5], .bx [.i .i64 5, .s 6, .s 7, .i .i64 8, .s 9, .fz 9 false 10], .rw 90 false 11, .rw 156 false 12, .rw 158 false 13]⟩, post := ⟨[.ag [.i .i64 0, .i .i64 1, .i .i64 2, .i .i64 3, .i .i64 4, .fz 90 true 5, .fz 156 true 6, .fz 158 true 7, .s 8, .i .i64 9, .s 10, .s 11]], [.bx [.pt 1 0], .bx [.i .i64 12, .i .i64 13, .i .i64 14, .i .i64 15, .ow 3, .ow 4, .ow 5], .bx [.i .i64 16, .s 17, .s 18, .i .i64 19, .s 20, .fz 9 false 21], .rw 90 false 22, .rw 156 false 23, .rw 158 false 24]⟩, sh := true, cuts := [] }
noncomputable def Lqcz : Option Nat → Lv → Option Lv := Lim Tryz.prog [] dqcz Tryz.f187
theorem eqcz_i (a0 : ByteArray) (a1 a2 a3 a4 a5 : Int) (a6 a7 : ByteArray) (a8 : Int) (a9 : ByteArray) (a10 a11 a12 a13 : Rw) : Lqcz none [.s a0, .i a1, .i a2, .i a3, .i a4, .i a5, .s a6, .s a7, .i a8, .s a9, .l a10, .l a11, .l a12, .l a13] =
 cond (decide (a13.length + ([[.i (IntKind.i64.wrap (a3 + 1)), .s a0, .i (IntKind.i64.wrap (a2 + a8))]] : Rw).length ≤ most)) (
 some [.i 0, .i 0, .i 0, .i 0, .i 0, .l ([]), .l ([]), .l ([]), .s (⟨#[]⟩ : ByteArray), .i (IntKind.i64.wrap (a3 + 1)), .s (⟨#[]⟩ : ByteArray), .s (⟨#[]⟩ : ByteArray), .i a1, .i a2, .i (IntKind.i64.wrap (a3 + 1)), .i a4, .i a5, .s a6, .s a7, .i a8, .s a9, .l a10, .l a11, .l a12, .l (a13 ++ ([[.i (IntKind.i64.wrap (a3 + 1)), .s a0, .i (IntKind.i64.wrap (a2 + a8))]] : Rw))]) (
 none) := (zd _ _).trans (by kernel_rfl)
theorem kqcz : SigOk Tryz.prog (dqcz.sig (Lqcz none)) ∧ (dqcz.sig (Lqcz none)).ok = true := zf ze (by kernel_rfl) (by kernel_rfl) (by kernel_rfl)
def dqdb : FD := { fn := 221, nb := 0, pre := ⟨[.sc (.i .i64 0), .sc (.pt 0 0), .sc (.pt 2 0)], [.rb [.pt 1 0], .rb [.i .i64 1, .i .i64 2, .i .i64 3, .i .i64 4, .fz 90 false 5, .fz 156 false 6, .fz 158 false 7], .rb [.s 8]]⟩, post := ⟨[.sc (.b 0)], []⟩, sh := false, cuts := [] }
noncomputable def Lqdb : Option Nat → Lv → Option Lv := Lim Tryz.prog [] dqdb Tryz.f221
theorem eqdb_i (a0 a1 a2 a3 a4 : Int) (a5 a6 a7 : Rw) (a8 : ByteArray) : Lqdb none [.i a0, .i a1, .i a2, .i a3, .i a4, .l a5, .l a6, .l a7, .s a8] =
 cond (inb a0 a6.length) (
 some [.b (!slt ((rd a6 a0.toNat 0).str) a8)]) (
 none) := (zd _ _).trans (by kernel_rfl)
theorem kqdb : SigOk Tryz.prog (dqdb.sig (Lqdb none)) ∧ (dqdb.sig (Lqdb none)).ok = true := zf ze (by kernel_rfl) (by kernel_rfl) (by kernel_rfl)
def dqby : FD := { fn := 159, nb := 0, pre := ⟨[.sc (.i .i64 0), .sc (.fn 221 [(0, 0), (2, 0)])], [.rb [.pt 1 0], .rb [.i .i64 1, .i .i64 2, .i .i64 3, .i .i64 4, .fz 90 false 5, .fz 156 false 6, .fz 158 false 7], .rb [.s 8]]⟩, post := ⟨[.sc (.i .i64 0)], []⟩, sh := false, cuts := [⟨2, [1, 5, 6], ⟨[.sc (.fn 221 [(0, 0), (1, 0)]), .sc (.i .i64 0), .sc (.i .i64 1)], [.rb [.pt 2 0], .rb [.s 2], .rb [.i .i64 3, .i .i64 4, .i .i64 5, .i .i64 6, .fz 90 false 7, .fz 156 false 8, .fz 158 false 9]]⟩⟩] }
noncomputable def Lqby : Option Nat → Lv → Option Lv := Lim Tryz.prog [dqdb.sig (Lqdb none)] dqby Tryz.f159
theorem eqby_i (a0 a1 a2 a3 a4 : Int) (a5 a6 a7 : Rw) (a8 : ByteArray) : Lqby none [.i a0, .i a1, .i a2, .i a3, .i a4, .l a5, .l a6, .l a7, .s a8] =
 Lqby (some 2) [.i 0, .i a0, .s a8, .i a1, .i a2, .i a3, .i a4, .l a5, .l a6, .l a7] := (zd _ _).trans (by kernel_rfl)
theorem eqby_2 (a0 a1 : Int) (a2 : ByteArray) (a3 a4 a5 a6 : Int) (a7 a8 a9 : Rw) : Lqby (some 2) [.i a0, .i a1, .s a2, .i a3, .i a4, .i a5, .i a6, .l a7, .l a8, .l a9] =
 cond (decide (a0 < a1)) (
 (Lqdb none [.i (IntKind.i64.wrap ((IntKind.u64.wrap (IntKind.i64.wrap (a0 + a1))).fdiv (2 ^ 1))), .i a3, .i a4, .i a5, .i a6, .l a7, .l a8, .l a9, .s a2]).bind fun y1 =>
 cond (!(g y1 0).bool) (
 Lqby (some 2) [.i (IntKind.i64.wrap ((IntKind.i64.wrap ((IntKind.u64.wrap (IntKind.i64.wrap (a0 + a1))).fdiv (2 ^ 1))) + 1)), .i a1, .s a2, .i a3, .i a4, .i a5, .i a6, .l a7, .l a8, .l a9]) (
 Lqby (some 2) [.i a0, .i (IntKind.i64.wrap ((IntKind.u64.wrap (IntKind.i64.wrap (a0 + a1))).fdiv (2 ^ 1))), .s a2, .i a3, .i a4, .i a5, .i a6, .l a7, .l a8, .l a9])) (
 some [.i a0]) := (zd _ _).trans (by kernel_rfl)
theorem kqby : SigOk Tryz.prog (dqby.sig (Lqby none)) ∧ (dqby.sig (Lqby none)).ok = true := zf (zb kqdb (by kernel_rfl) ze) (by kernel_rfl) (by kernel_rfl) (by kernel_rfl)
def dqc0 : FD := { fn := 188, nb := 0, pre := ⟨[.sc (.pt 0 0), .sc (.s 0)], [.rb [.i .i64 1, .i .i64 2, .i .i64 3, .i .i64 4, .fz 90 false 5, .fz 156 false 6, .fz 158 false 7]]⟩, post := ⟨[.tu [(false, [.i .i64 0]), (false, [.b 1])]], []⟩, sh := false, cuts := [] }
noncomputable def Lqc0 : Option Nat → Lv → Option Lv := Lim Tryz.prog [dqby.sig (Lqby none)] dqc0 Tryz.f188
theorem eqc0_i (a0 : ByteArray) (a1 a2 a3 a4 : Int) (a5 a6 a7 : Rw) : Lqc0 none [.s a0, .i a1, .i a2, .i a3, .i a4, .l a5, .l a6, .l a7] =
 (Lqby none [.i (a6.length : Int), .i a1, .i a2, .i a3, .i a4, .l a5, .l a6, .l a7, .s a0]).bind fun y1 =>
 cond (decide ((g y1 0).int < (a6.length : Int))) (
 cond (inb ((g y1 0).int) a6.length) (
 some [.i ((g y1 0).int), .b (Eng.seq ((rd a6 (((g y1 0).int).toNat) 0).str) a0)]) (
 none)) (
 some [.i ((g y1 0).int), .b false]) := (zd _ _).trans (by kernel_rfl)
theorem kqc0 : SigOk Tryz.prog (dqc0.sig (Lqc0 none)) ∧ (dqc0.sig (Lqc0 none)).ok = true := zf (zb kqby (by kernel_rfl) ze) (by kernel_rfl) (by kernel_rfl) (by kernel_rfl)
def dqdc : FD := { fn := 222, nb := 0, pre := ⟨[.sc (.i .i64 0), .sc (.pt 0 0), .sc (.pt 2 0)], [.rb [.pt 1 0], .rb [.i .i64 1, .i .i64 2, .i .i64 3, .i .i64 4, .fz 90 false 5, .fz 156 false 6, .fz 158 false 7], .rb [.i .i64 8]]⟩, post := ⟨[.sc (.b 0)], []⟩, sh := false, cuts := [] }
noncomputable def Lqdc : Option Nat → Lv → Option Lv := Lim Tryz.prog [] dqdc Tryz.f222
theorem eqdc_i (a0 a1 a2 a3 a4 : Int) (a5 a6 a7 : Rw) (a8 : Int) : Lqdc none [.i a0, .i a1, .i a2, .i a3, .i a4, .l a5, .l a6, .l a7, .i a8] =
 cond (inb a0 a7.length) (
 some [.b (decide (a8 ≤ (rd a7 a0.toNat 0).int))]) (
 none) := (zd _ _).trans (by kernel_rfl)
theorem kqdc : SigOk Tryz.prog (dqdc.sig (Lqdc none)) ∧ (dqdc.sig (Lqdc none)).ok = true := zf ze (by kernel_rfl) (by kernel_rfl) (by kernel_rfl)
def dqbz : FD := { fn := 159, nb := 0, pre := ⟨[.sc (.i .i64 0), .sc (.fn 222 [(0, 0), (2, 0)])], [.rb [.pt 1 0], .rb [.i .i64 1, .i .i64 2, .i .i64 3, .i .i64 4, .fz 90 false 5, .fz 156 false 6, .fz 158 false 7], .rb [.i .i64 8]]⟩, post := ⟨[.sc (.i .i64 0)], []⟩, sh := false, cuts := [⟨2, [1, 5, 6], ⟨[.sc (.fn 222 [(0, 0), (1, 0)]), .sc (.i .i64 0), .sc (.i .i64 1)], [.rb [.pt 2 0], .rb [.i .i64 2], .rb [.i .i64 3, .i .i64 4, .i .i64 5, .i .i64 6, .fz 90 false 7, .fz 156 false 8, .fz 158 false 9]]⟩⟩] }
noncomputable def Lqbz : Option Nat → Lv → Option Lv := Lim Tryz.prog [dqdc.sig (Lqdc none)] dqbz Tryz.f159
theorem eqbz_i (a0 a1 a2 a3 a4 : Int) (a5 a6 a7 : Rw) (a8 : Int) : Lqbz none [.i a0, .i a1, .i a2, .i a3, .i a4, .l a5, .l a6, .l a7, .i a8] =
 Lqbz (some 2) [.i 0, .i a0, .i a8, .i a1, .i a2, .i a3, .i a4, .l a5, .l a6, .l a7] := (zd _ _).trans (by kernel_rfl)
theorem eqbz_2 (a0 a1 a2 a3 a4 a5 a6 : Int) (a7 a8 a9 : Rw) : Lqbz (some 2) [.i a0, .i a1, .i a2, .i a3, .i a4, .i a5, .i a6, .l a7, .l a8, .l a9] =
 cond (decide (a0 < a1)) (
 (Lqdc none [.i (IntKind.i64.wrap ((IntKind.u64.wrap (IntKind.i64.wrap (a0 + a1))).fdiv (2 ^ 1))), .i a3, .i a4, .i a5, .i a6, .l a7, .l a8, .l a9, .i a2]).bind fun y1 =>
 cond (!(g y1 0).bool) (
 Lqbz (some 2) [.i (IntKind.i64.wrap ((IntKind.i64.wrap ((IntKind.u64.wrap (IntKind.i64.wrap (a0 + a1))).fdiv (2 ^ 1))) + 1)), .i a1, .i a2, .i a3, .i a4, .i a5, .i a6, .l a7, .l a8, .l a9]) (
 Lqbz (some 2) [.i a0, .i (IntKind.i64.wrap ((IntKind.u64.wrap (IntKind.i64.wrap (a0 + a1))).fdiv (2 ^ 1))), .i a2, .i a3, .i a4, .i a5, .i a6, .l a7, .l a8, .l a9])) (
 some [.i a0]) := (zd _ _).trans (by kernel_rfl)
theorem kqbz : SigOk Tryz.prog (dqbz.sig (Lqbz none)) ∧ (dqbz.sig (Lqbz none)).ok = true := zf (zb kqdc (by kernel_rfl) ze) (by kernel_rfl) (by kernel_rfl) (by kernel_rfl)
def dqc2 : FD := { fn := 189, nb := 0, pre := ⟨[.sc (.pt 0 0), .sc (.i .i64 0)], [.rb [.i .i64 1, .i .i64 2, .i .i64 3, .i .i64 4, .fz 90 false 5, .fz 156 false 6, .fz 158 false 7]]⟩, post := ⟨[.tu [(false, [.i .i64 0]), (false, [.b 1])]], []⟩, sh := false, cuts := [] }
noncomputable def Lqc2 : Option Nat → Lv → Option Lv := Lim Tryz.prog [dqbz.sig (Lqbz none)] dqc2 Tryz.f189
theorem eqc2_i (a0 a1 a2 a3 a4 : Int) (a5 a6 a7 : Rw) : Lqc2 none [.i a0, .i a1, .i a2, .i a3, .i a4, .l a5, .l a6, .l a7] =
 (Lqbz none [.i (a7.length : Int), .i a1, .i a2, .i a3, .i a4, .l a5, .l a6, .l a7, .i a0]).bind fun y1 =>
 cond (decide ((g y1 0).int < (a7.length : Int))) (
 cond (inb ((g y1 0).int) a7.length) (
 some [.i ((g y1 0).int), .b ((rd a7 (((g y1 0).int).toNat) 0).int == a0)]) (
 none)) (
 some [.i ((g y1 0).int), .b false]) := (zd _ _).trans (by kernel_rfl)
theorem kqc2 : SigOk Tryz.prog (dqc2.sig (Lqc2 none)) ∧ (dqc2.sig (Lqc2 none)).ok = true := zf (zb kqbz (by kernel_rfl) ze) (by kernel_rfl) (by kernel_rfl) (by kernel_rfl)
def dq5 : FD := { fn := 190, nb := 0, pre := ⟨[.sc (.pt 0 0), .sc (.s 0)], [.rb [.i .i64 1, .i .i64 2, .i .i64 3, .i .i64 4, .fz 90 false 5, .fz 156 false 6, .fz 158 false 7]]⟩, post := ⟨[.sc (.b 0)], []⟩, sh := false, cuts := [⟨2, [0, 1, 12, 13, 14], ⟨[.sc (.pt 0 0), .sc (.s 0), .sc (.fz 156 false 1), .sc (.i .i64 2), .sc (.i .i64 3)], [.rb [.i .i64 4, .i .i64 5, .i .i64 6, .i .i64 7, .fz 90 false 8, .fz 156 false 9, .fz 158 false 10]]⟩⟩, ⟨8, [1, 26, 27, 28], ⟨[.sc (.s 0), .sc (.fz 158 false 1), .sc (.i .i64 2), .sc (.i .i64 3)], []⟩⟩] }
noncomputable def Lq5 : Option Nat → Lv → Option Lv := Lim Tryz.prog [] dq5 Tryz.f190
theorem eq5_i (a0 : ByteArray) (a1 a2 a3 a4 : Int) (a5 a6 a7 : Rw) : Lq5 none [.s a0, .i a1, .i a2, .i a3, .i a4, .l a5, .l a6, .l a7] =
 Lq5 (some 2) [.s a0, .l a6, .i (a6.length : Int), .i 0, .i a1, .i a2, .i a3, .i a4, .l a5, .l a6, .l a7] := (zd _ _).trans (by kernel_rfl)
theorem eq5_2 (a0 : ByteArray) (a1 : Rw) (a2 a3 a4 a5 a6 a7 : Int) (a8 a9 a10 : Rw) : Lq5 (some 2) [.s a0, .l a1, .i a2, .i a3, .i a4, .i a5, .i a6, .i a7, .l a8, .l a9, .l a10] =
 cond (decide (a3 < a2)) (
 cond (inb a3 a1.length) (
 cond (Eng.seq ((rd a1 a3.toNat 1).str) a0) (
 some [.b true]) (
 Lq5 (some 2) [.s a0, .l a1, .i a2, .i (IntKind.i64.wrap (a3 + 1)), .i a4, .i a5, .i a6, .i a7, .l a8, .l a9, .l a10])) (
 none)) (
 Lq5 (some 8) [.s a0, .l a10, .i (a10.length : Int), .i 0]) := (zd _ _).trans (by kernel_rfl)
theorem eq5_8 (a0 : ByteArray) (a1 : Rw) (a2 a3 : Int) : Lq5 (some 8) [.s a0, .l a1, .i a2, .i a3] =
 cond (decide (a3 < a2)) (
 cond (inb a3 a1.length) (
 cond (Eng.seq ((rd a1 a3.toNat 1).str) a0) (
 some [.b true]) (
 Lq5 (some 8) [.s a0, .l a1, .i a2, .i (IntKind.i64.wrap (a3 + 1))])) (
 none)) (
 some [.b false]) := (zd _ _).trans (by kernel_rfl)
theorem kq5 : SigOk Tryz.prog (dq5.sig (Lq5 none)) ∧ (dq5.sig (Lq5 none)).ok = true := zf ze (by kernel_rfl) (by kernel_rfl) (by kernel_rfl)
def dq6 : FD := { fn := 191, nb := 0, pre := ⟨[.sc (.pt 0 0), .sc (.s 0)], [.rb [.i .i64 1, .i .i64 2, .i .i64 3, .i .i64 4, .fz 90 false 5, .fz 156 false 6, .fz 158 false 7]]⟩, post := ⟨[.sc (.b 0)], []⟩, sh := false, cuts := [⟨2, [1, 12, 13, 14], ⟨[.sc (.s 0), .sc (.fz 90 false 1), .sc (.i .i64 2), .sc (.i .i64 3)], []⟩⟩, ⟨5, [1, 12, 13, 14, 20, 21, 22], ⟨[.sc (.s 0), .sc (.fz 90 false 1), .sc (.i .i64 2), .sc (.i .i64 3), .sc (.fz 9 false 4), .sc (.i .i64 5), .sc (.i .i64 6)], []⟩⟩] }
noncomputable def Lq6 : Option Nat → Lv → Option Lv := Lim Tryz.prog [] dq6 Tryz.f191
theorem eq6_i (a0 : ByteArray) (a1 a2 a3 a4 : Int) (a5 a6 a7 : Rw) : Lq6 none [.s a0, .i a1, .i a2, .i a3, .i a4, .l a5, .l a6, .l a7] =
 Lq6 (some 2) [.s a0, .l a5, .i (a5.length : Int), .i 0] := (zd _ _).trans (by kernel_rfl)
theorem eq6_2 (a0 : ByteArray) (a1 : Rw) (a2 a3 : Int) : Lq6 (some 2) [.s a0, .l a1, .i a2, .i a3] =
 cond (decide (a3 < a2)) (
 cond (inb a3 a1.length) (
 Lq6 (some 5) [.s a0, .l a1, .i a2, .i a3, .l ((rd a1 a3.toNat 3).list), .i (((rd a1 a3.toNat 3).list).length : Int), .i 0]) (
 none)) (
 some [.b false]) := (zd _ _).trans (by kernel_rfl)
theorem eq6_5 (a0 : ByteArray) (a1 : Rw) (a2 a3 : Int) (a4 : Rw) (a5 a6 : Int) : Lq6 (some 5) [.s a0, .l a1, .i a2, .i a3, .l a4, .i a5, .i a6] =
 cond (decide (a6 < a5)) (
 cond (inb a6 a4.length) (
 cond (Eng.seq ((rd a4 a6.toNat 0).str) a0) (
 some [.b true]) (
 Lq6 (some 5) [.s a0, .l a1, .i a2, .i a3, .l a4, .i a5, .i (IntKind.i64.wrap (a6 + 1))])) (
 none)) (
 Lq6 (some 2) [.s a0, .l a1, .i a2, .i (IntKind.i64.wrap (a3 + 1))]) := (zd _ _).trans (by kernel_rfl)
theorem kq6 : SigOk Tryz.prog (dq6.sig (Lq6 none)) ∧ (dq6.sig (Lq6 none)).ok = true := zf ze (by kernel_rfl) (by kernel_rfl) (by kernel_rfl)
def dqa : FD := { fn := 120, nb := 1, pre := ⟨[.sc (.pt 0 0), .ag [.i .i64 0, .s 1, .s 2, .i .i64 3, .s 4, .fz 9 false 5]], [.bx [.i .i64 6, .i .i64 7, .i .i64 8, .i .i64 9, .ow 1, .ow 2, .ow 3], .rw 90 false 10, .rw 156 false 11, .rw 158 false 12]⟩, post := ⟨[.ag [.i .i64 0, .i .i64 1, .i .i64 2, .i .i64 3, .i .i64 4, .fz 90 true 5, .fz 156 true 6, .fz 158 true 7, .s 8, .i .i64 9, .s 10, .s 11]], [.bx [.i .i64 12, .i .i64 13, .i .i64 14, .i .i64 15, .ow 1, .ow 2, .ow 3], .rw 90 false 16, .rw 156 false 17, .rw 158 false 18]⟩, sh := true, cuts := [⟨4, [2, 3, 4, 5, 6, 7], ⟨[.sc (.pt 1 0), .sc (.pt 2 0), .sc (.pt 3 0), .sc (.fn 186 []), .sc (.fn 187 [(1, 0), (2, 0)]), .sc (.b 0)], [.bx [.i .i64 1, .i .i64 2, .i .i64 3, .i .i64 4, .ow 4, .ow 5, .ow 6], .bx [.pt 0 0], .bx [.i .i64 5, .s 6, .s 7, .i .i64 8, .s 9, .fz 9 false 10], .bx [.i .i64 11, .i .i64 12, .i .i64 13, .i .i64 14, .i .i64 15, .ow 7, .ow 8, .ow 9, .s 16, .i .i64 17, .s 18, .s 19], .rw 90 false 20, .rw 156 false 21, .rw 158 false 22, .rw 90 true 23, .rw 156 true 24, .rw 158 true 25]⟩⟩, ⟨7, [2, 3, 4, 5, 6, 7, 55, 56, 57], ⟨[.sc (.pt 1 0), .sc (.pt 2 0), .sc (.pt 3 0), .sc (.fn 186 []), .sc (.fn 187 [(1, 0), (2, 0)]), .sc (.b 0), .sc (.fz 9 false 1), .sc (.i .i64 2), .sc (.i .i64 3)], [.bx [.i .i64 4, .i .i64 5, .i .i64 6, .i .i64 7, .ow 4, .ow 5, .ow 6], .bx [.pt 0 0], .bx [.i .i64 8, .s 9, .s 10, .i .i64 11, .s 12, .fz 9 false 13], .bx [.i .i64 14, .i .i64 15, .i .i64 16, .i .i64 17, .i .i64 18, .ow 7, .ow 8, .ow 9, .s 19, .i .i64 20, .s 21, .s 22], .rw 90 false 23, .rw 156 false 24, .rw 158 false 25, .rw 90 true 26, .rw 156 true 27, .rw 158 true 28]⟩⟩, ⟨21, [4, 5], ⟨[.sc (.pt 1 0), .sc (.fn 186 [])], [.bx [.i .i64 0, .i .i64 1, .i .i64 2, .i .i64 3, .ow 2, .ow 3, .ow 4], .bx [.i .i64 4, .i .i64 5, .i .i64 6, .i .i64 7, .i .i64 8, .ow 5, .ow 6, .ow 7, .s 9, .i .i64 10, .s 11, .s 12], .rw 90 false 13, .rw 156 false 14, .rw 158 false 15, .rw 90 true 16, .rw 156 true 17, .rw 158 true 18]⟩⟩, ⟨22, [2, 3, 4, 6, 13, 14, 15], ⟨[.sc (.pt 1 0), .sc (.pt 2 0), .sc (.pt 3 0), .sc (.fn 187 [(1, 0), (2, 0)]), .sc (.s 0), .sc (.i .i64 1), .sc (.b 2)], [.bx [.i .i64 3, .i .i64 4, .i .i64 5, .i .i64 6, .ow 4, .ow 5, .ow 6], .bx [.pt 0 0], .bx [.i .i64 7, .s 8, .s 9, .i .i64 10, .s 11, .fz 9 false 12], .bx [.i .i64 13, .i .i64 14, .i .i64 15, .i .i64 16, .i .i64 17, .ow 7, .ow 8, .ow 9, .s 18, .i .i64 19, .s 20, .s 21], .rw 90 false 22, .rw 156 false 23, .rw 158 false 24, .rw 90 true 25, .rw 156 true 26, .rw 158 true 27]⟩⟩, ⟨27, [4, 6, 13], ⟨[.sc (.pt 1 0), .sc (.fn 187 [(2, 0), (3, 0)]), .sc (.s 0)], [.bx [.i .i64 1, .i .i64 2, .i .i64 3, .i .i64 4, .ow 4, .ow 5, .ow 6], .bx [.i .i64 5, .i .i64 6, .i .i64 7, .i .i64 8, .i .i64 9, .ow 7, .ow 8, .ow 9, .s 10, .i .i64 11, .s 12, .s 13], .bx [.pt 0 0], .bx [.i .i64 14, .s 15, .s 16, .i .i64 17, .s 18, .fz 9 false 19], .rw 90 false 20, .rw 156 false 21, .rw 158 false 22, .rw 90 true 23, .rw 156 true 24, .rw 158 true 25]⟩⟩, ⟨65, [2, 4, 5, 30, 346, 347, 348], ⟨[.sc (.pt 1 0), .sc (.pt 2 0), .sc (.fn 186 []), .sc (.ow 3), .sc (.ow 4), .sc (.i .i64 0), .sc (.i .i64 1)], [.bx [.i .i64 2, .i .i64 3, .i .i64 4, .i .i64 5, .ow 5, .ow 6, .ow 4], .bx [.pt 0 0], .bx [.i .i64 6, .i .i64 7, .i .i64 8, .i .i64 9, .i .i64 10, .ow 7, .ow 8, .ow 9, .s 11, .i .i64 12, .s 13, .s 14], .rw 158 true 15, .rw 158 false 16, .rw 90 false 17, .rw 156 false 18, .rw 90 true 19, .rw 156 true 20, .rw 158 true 21]⟩⟩, ⟨76, [4, 5], ⟨[.sc (.pt 1 0), .sc (.fn 186 [])], [.bx [.i .i64 0, .i .i64 1, .i .i64 2, .i .i64 3, .ow 2, .ow 3, .ow 4], .bx [.i .i64 4, .i .i64 5, .i .i64 6, .i .i64 7, .i .i64 8, .ow 5, .ow 6, .ow 7, .s 9, .i .i64 10, .s 11, .s 12], .rw 90 false 13, .rw 156 false 14, .rw 158 false 15, .rw 90 true 16, .rw 156 true 17, .rw 158 true 18]⟩⟩, ⟨78, [4, 5], ⟨[.sc (.pt 1 0), .sc (.fn 186 [])], [.bx [.i .i64 0, .i .i64 1, .i .i64 2, .i .i64 3, .ow 2, .ow 3, .ow 4], .bx [.i .i64 4, .i .i64 5, .i .i64 6, .i .i64 7, .i .i64 8, .ow 5, .ow 6, .ow 7, .s 9, .i .i64 10, .s 11, .s 12], .rw 90 false 13, .rw 156 false 14, .rw 158 false 15, .rw 90 true 16, .rw 156 true 17, .rw 158 true 18]⟩⟩] }
noncomputable def Lqa : Option Nat → Lv → Option Lv := Lim Tryz.prog [dqx.sig (Lqx none), dq7.sig (Lq7 none), dqcb.sig (Lqcb none), dq9.sig (Lq9 none), dqbm.sig (Lqbm none), dqcz.sig (Lqcz none), dqc0.sig (Lqc0 none), dqc2.sig (Lqc2 none), dq5.sig (Lq5 none), dq6.sig (Lq6 none)] dqa Tryz.f120
theorem eqa_i (a0 : Int) (a1 a2 : ByteArray) (a3 : Int) (a4 : ByteArray) (a5 : Rw) (a6 a7 a8 a9 : Int) (a10 a11 a12 : Rw) : Lqa none [.i a0, .s a1, .s a2, .i a3, .s a4, .l a5, .i a6, .i a7, .i a8, .i a9, .l a10, .l a11, .l a12] =
 cond (decide ((a12.length : Int) < 200)) (
 Lqa (some 4) [.b (decide (a8 < 1000000000)), .i a6, .i a7, .i a8, .i a9, .i a0, .s a1, .s a2, .i a3, .s a4, .l a5, .i 0, .i 0, .i 0, .i 0, .i 0, .s (⟨#[]⟩ : ByteArray), .i 0, .s (⟨#[]⟩ : ByteArray), .s (⟨#[]⟩ : ByteArray), .l a10, .l a11, .l a12, .l [], .l [], .l []]) (
 Lqa (some 4) [.b false, .i a6, .i a7, .i a8, .i a9, .i a0, .s a1, .s a2, .i a3, .s a4, .l a5, .i 0, .i 0, .i 0, .i 0, .i 0, .s (⟨#[]⟩ : ByteArray), .i 0, .s (⟨#[]⟩ : ByteArray), .s (⟨#[]⟩ : ByteArray), .l a10, .l a11, .l a12, .l [], .l [], .l []]) := (zd _ _).trans (by kernel_rfl)
theorem eqa_4 (a0 : Bool) (a1 a2 a3 a4 a5 : Int) (a6 a7 : ByteArray) (a8 : Int) (a9 : ByteArray) (a10 : Rw) (a11 a12 a13 a14 a15 : Int) (a16 : ByteArray) (a17 : Int) (a18 a19 : ByteArray) (a20 a21 a22 a23 a24 a25 : Rw) : Lqa (some 4) [.b a0, .i a1, .i a2, .i a3, .i a4, .i a5, .s a6, .s a7, .i a8, .s a9, .l a10, .i a11, .i a12, .i a13, .i a14, .i a15, .s a16, .i a17, .s a18, .s a19, .l a20, .l a21, .l a22, .l a23, .l a24, .l a25] =
 cond (a5 == 1) (
 Lqa (some 7) [.b a0, .l a10, .i (a10.length : Int), .i 0, .i a1, .i a2, .i a3, .i a4, .i a5, .s a6, .s a7, .i a8, .s a9, .l a10, .i a11, .i a12, .i a13, .i a14, .i a15, .s a16, .i a17, .s a18, .s a19, .l a20, .l a21, .l a22, .l a23, .l a24, .l a25]) (
 cond (a5 == 2) (
 (Lq7 none [.s a6, .i a1, .i a2, .i a3, .i a4, .l a20, .l a21, .l a22]).bind fun y1 =>
 cond (!(g y1 1).bool) (
 (Lqbm none [.i 2]).bind fun y2 =>
 some [.i ((g y2 0).int), .i ((g y2 1).int), .i ((g y2 2).int), .i ((g y2 3).int), .i ((g y2 4).int), .l ((g y2 5).list), .l ((g y2 6).list), .l ((g y2 7).list), .s ((g y2 8).str), .i ((g y2 9).int), .s ((g y2 10).str), .s ((g y2 11).str), .i a1, .i a2, .i a3, .i a4, .l a20, .l a21, .l a22]) (
 (Lqc0 none [.s a7, .i a1, .i a2, .i a3, .i a4, .l a20, .l a21, .l a22]).bind fun y3 =>
 cond ((g y3 1).bool) (
 cond (inb ((g y3 0).int) a21.length) (
 (Lqbm none [.i 0]).bind fun y4 =>
 some [.i ((g y4 0).int), .i ((g y4 1).int), .i ((g y4 2).int), .i ((g y4 3).int), .i ((g y4 4).int), .l ((g y4 5).list), .l ((g y4 6).list), .l ((g y4 7).list), .s ((g y4 8).str), .i ((g y4 9).int), .s ((g y4 10).str), .s ((g y4 11).str), .i a1, .i a2, .i a3, .i a4, .l a20, .l (wrs a21 (((g y3 0).int).toNat) 1 ([.s a6] : List C)), .l a22]) (
 none)) (
 cond ((a21.length : Int) == 100) (
 (Lqbm none [.i 4]).bind fun y5 =>
 some [.i ((g y5 0).int), .i ((g y5 1).int), .i ((g y5 2).int), .i ((g y5 3).int), .i ((g y5 4).int), .l ((g y5 5).list), .l ((g y5 6).list), .l ((g y5 7).list), .s ((g y5 8).str), .i ((g y5 9).int), .s ((g y5 10).str), .s ((g y5 11).str), .i a1, .i a2, .i a3, .i a4, .l a20, .l a21, .l a22]) (
 cond (decide (0 ≤ (g y3 0).int)) (
 cond (decide ((g y3 0).int ≤ (a21.length : Int))) (
 cond (decide ((Eng.sub a21 0 ((g y3 0).int).toNat).length ≤ most)) (
 cond (decide ((Eng.sub a21 0 ((g y3 0).int).toNat).length + ([[.s a7, .s a6]] : Rw).length ≤ most)) (
 cond (decide (0 ≤ (g y3 0).int)) (
 cond (decide ((g y3 0).int ≤ (a21.length : Int))) (
 cond (decide (((Eng.sub a21 0 ((g y3 0).int).toNat) ++ ([[.s a7, .s a6]] : Rw)).length + (Eng.sub a21 ((g y3 0).int).toNat a21.length).length ≤ most)) (
 Lqa (some 78) [.i a1, .i a2, .i a3, .i a4, .i a11, .i a12, .i a13, .i a14, .i a15, .s a16, .i a17, .s a18, .s a19, .l a20, .l (((Eng.sub a21 0 ((g y3 0).int).toNat) ++ ([[.s a7, .s a6]] : Rw)) ++ (Eng.sub a21 ((g y3 0).int).toNat a21.length)), .l a22, .l a23, .l a24, .l a25]) (
 none)) (
 none)) (
 none)) (
 none)) (
 none)) (
 none)) (
 none))))) (
 cond (a5 == 3) (
 (Lqc0 none [.s a7, .i a1, .i a2, .i a3, .i a4, .l a20, .l a21, .l a22]).bind fun y6 =>
 cond (!(g y6 1).bool) (
 (Lqbm none [.i 5]).bind fun y7 =>
 some [.i ((g y7 0).int), .i ((g y7 1).int), .i ((g y7 2).int), .i ((g y7 3).int), .i ((g y7 4).int), .l ((g y7 5).list), .l ((g y7 6).list), .l ((g y7 7).list), .s ((g y7 8).str), .i ((g y7 9).int), .s ((g y7 10).str), .s ((g y7 11).str), .i a1, .i a2, .i a3, .i a4, .l a20, .l a21, .l a22]) (
 cond (decide (0 ≤ (g y6 0).int)) (
 cond (decide ((g y6 0).int ≤ (a21.length : Int))) (
 cond (decide (0 ≤ (IntKind.i64.wrap ((g y6 0).int + 1)))) (
 cond (decide ((IntKind.i64.wrap ((g y6 0).int + 1)) ≤ (a21.length : Int))) (
 cond (decide ((Eng.sub a21 0 (((g y6 0).int).toNat)).length + (Eng.sub a21 (IntKind.i64.wrap ((g y6 0).int + 1)).toNat a21.length).length ≤ most)) (
 Lqa (some 78) [.i a1, .i a2, .i a3, .i a4, .i a11, .i a12, .i a13, .i a14, .i a15, .s a16, .i a17, .s a18, .s a19, .l a20, .l ((Eng.sub a21 0 (((g y6 0).int).toNat)) ++ (Eng.sub a21 (IntKind.i64.wrap ((g y6 0).int + 1)).toNat a21.length)), .l a22, .l a23, .l a24, .l a25]) (
 none)) (
 none)) (
 none)) (
 none)) (
 none))) (
 cond (a5 == 4) (
 (Lq7 none [.s a6, .i a1, .i a2, .i a3, .i a4, .l a20, .l a21, .l a22]).bind fun y8 =>
 cond (!(g y8 1).bool) (
 (Lqbm none [.i 2]).bind fun y9 =>
 some [.i ((g y9 0).int), .i ((g y9 1).int), .i ((g y9 2).int), .i ((g y9 3).int), .i ((g y9 4).int), .l ((g y9 5).list), .l ((g y9 6).list), .l ((g y9 7).list), .s ((g y9 8).str), .i ((g y9 9).int), .s ((g y9 10).str), .s ((g y9 11).str), .i a1, .i a2, .i a3, .i a4, .l a20, .l a21, .l a22]) (
 cond (!a0) (
 (Lqbm none [.i 4]).bind fun y10 =>
 some [.i ((g y10 0).int), .i ((g y10 1).int), .i ((g y10 2).int), .i ((g y10 3).int), .i ((g y10 4).int), .l ((g y10 5).list), .l ((g y10 6).list), .l ((g y10 7).list), .s ((g y10 8).str), .i ((g y10 9).int), .s ((g y10 10).str), .s ((g y10 11).str), .i a1, .i a2, .i a3, .i a4, .l a20, .l a21, .l a22]) (
 (Lqcz none [.s a6, .i a1, .i a2, .i a3, .i a4, .i a5, .s a6, .s a7, .i a8, .s a9, .l a10, .l a20, .l a21, .l a22]).bind fun y11 =>
 some [.i ((g y11 0).int), .i ((g y11 1).int), .i ((g y11 2).int), .i ((g y11 3).int), .i ((g y11 4).int), .l ((g y11 5).list), .l ((g y11 6).list), .l ((g y11 7).list), .s ((g y11 8).str), .i ((g y11 9).int), .s ((g y11 10).str), .s ((g y11 11).str), .i ((g y11 12).int), .i ((g y11 13).int), .i ((g y11 14).int), .i ((g y11 15).int), .l ((g y11 22).list), .l ((g y11 23).list), .l ((g y11 24).list)]))) (
 cond (a5 == 5) (
 (Lqc2 none [.i a8, .i a1, .i a2, .i a3, .i a4, .l a20, .l a21, .l a22]).bind fun y12 =>
 cond (!(g y12 1).bool) (
 (Lqbm none [.i 5]).bind fun y13 =>
 some [.i ((g y13 0).int), .i ((g y13 1).int), .i ((g y13 2).int), .i ((g y13 3).int), .i ((g y13 4).int), .l ((g y13 5).list), .l ((g y13 6).list), .l ((g y13 7).list), .s ((g y13 8).str), .i ((g y13 9).int), .s ((g y13 10).str), .s ((g y13 11).str), .i a1, .i a2, .i a3, .i a4, .l a20, .l a21, .l a22]) (
 cond (decide (0 ≤ (g y12 0).int)) (
 cond (decide ((g y12 0).int ≤ (a22.length : Int))) (
 cond (decide (0 ≤ (IntKind.i64.wrap ((g y12 0).int + 1)))) (
 cond (decide ((IntKind.i64.wrap ((g y12 0).int + 1)) ≤ (a22.length : Int))) (
 cond (decide ((Eng.sub a22 0 (((g y12 0).int).toNat)).length + (Eng.sub a22 (IntKind.i64.wrap ((g y12 0).int + 1)).toNat a22.length).length ≤ most)) (
 Lqa (some 78) [.i a1, .i a2, .i a3, .i a4, .i a11, .i a12, .i a13, .i a14, .i a15, .s a16, .i a17, .s a18, .s a19, .l a20, .l a21, .l ((Eng.sub a22 0 (((g y12 0).int).toNat)) ++ (Eng.sub a22 (IntKind.i64.wrap ((g y12 0).int + 1)).toNat a22.length)), .l a23, .l a24, .l a25]) (
 none)) (
 none)) (
 none)) (
 none)) (
 none))) (
 cond (a5 == 6) (
 cond (decide (1000000000 < (IntKind.i64.wrap (a2 + a8)))) (
 (Lqbm none [.i 4]).bind fun y14 =>
 some [.i ((g y14 0).int), .i ((g y14 1).int), .i ((g y14 2).int), .i ((g y14 3).int), .i ((g y14 4).int), .l ((g y14 5).list), .l ((g y14 6).list), .l ((g y14 7).list), .s ((g y14 8).str), .i ((g y14 9).int), .s ((g y14 10).str), .s ((g y14 11).str), .i a1, .i a2, .i a3, .i a4, .l a20, .l a21, .l a22]) (
 Lqa (some 65) [.i (a22.length : Int), .i 0, .i a1, .i (IntKind.i64.wrap (a2 + a8)), .i a3, .i a4, .i a11, .i a12, .i a13, .i a14, .i a15, .s a16, .i a17, .s a18, .s a19, .l [], .l a22, .l a20, .l a21, .l a23, .l a24, .l a25])) (
 cond (a5 == 7) (
 (Lq7 none [.s a6, .i a1, .i a2, .i a3, .i a4, .l a20, .l a21, .l a22]).bind fun y15 =>
 cond (!(g y15 1).bool) (
 (Lqbm none [.i 2]).bind fun y16 =>
 some [.i ((g y16 0).int), .i ((g y16 1).int), .i ((g y16 2).int), .i ((g y16 3).int), .i ((g y16 4).int), .l ((g y16 5).list), .l ((g y16 6).list), .l ((g y16 7).list), .s ((g y16 8).str), .i ((g y16 9).int), .s ((g y16 10).str), .s ((g y16 11).str), .i a1, .i a2, .i a3, .i a4, .l a20, .l a21, .l a22]) (
 (Lq5 none [.s a6, .i a1, .i a2, .i a3, .i a4, .l a20, .l a21, .l a22]).bind fun y17 =>
 cond ((g y17 0).bool) (
 Lqa (some 76) [.i a1, .i a2, .i a3, .i a4, .i a11, .i a12, .i a13, .i a14, .i a15, .s a16, .i a17, .s a18, .s a19, .l a20, .l a21, .l a22, .l a23, .l a24, .l a25]) (
 (Lq6 none [.s a6, .i a1, .i a2, .i a3, .i a4, .l a20, .l a21, .l a22]).bind fun y18 =>
 cond ((g y18 0).bool) (
 Lqa (some 76) [.i a1, .i a2, .i a3, .i a4, .i a11, .i a12, .i a13, .i a14, .i a15, .s a16, .i a17, .s a18, .s a19, .l a20, .l a21, .l a22, .l a23, .l a24, .l a25]) (
 cond (decide (0 ≤ (g y15 0).int)) (
 cond (decide ((g y15 0).int ≤ (a20.length : Int))) (
 cond (decide (0 ≤ (IntKind.i64.wrap ((g y15 0).int + 1)))) (
 cond (decide ((IntKind.i64.wrap ((g y15 0).int + 1)) ≤ (a20.length : Int))) (
 cond (decide ((Eng.sub a20 0 (((g y15 0).int).toNat)).length + (Eng.sub a20 (IntKind.i64.wrap ((g y15 0).int + 1)).toNat a20.length).length ≤ most)) (
 Lqa (some 78) [.i a1, .i a2, .i a3, .i a4, .i a11, .i a12, .i a13, .i a14, .i a15, .s a16, .i a17, .s a18, .s a19, .l ((Eng.sub a20 0 (((g y15 0).int).toNat)) ++ (Eng.sub a20 (IntKind.i64.wrap ((g y15 0).int + 1)).toNat a20.length)), .l a21, .l a22, .l a23, .l a24, .l a25]) (
 none)) (
 none)) (
 none)) (
 none)) (
 none))))) (
 Lqa (some 78) [.i a1, .i a2, .i a3, .i a4, .i a11, .i a12, .i a13, .i a14, .i a15, .s a16, .i a17, .s a18, .s a19, .l a20, .l a21, .l a22, .l a23, .l a24, .l a25]))))))) := (zd _ _).trans (by kernel_rfl)
theorem eqa_7 (a0 : Bool) (a1 : Rw) (a2 a3 a4 a5 a6 a7 a8 : Int) (a9 a10 : ByteArray) (a11 : Int) (a12 : ByteArray) (a13 : Rw) (a14 a15 a16 a17 a18 : Int) (a19 : ByteArray) (a20 : Int) (a21 a22 : ByteArray) (a23 a24 a25 a26 a27 a28 : Rw) : Lqa (some 7) [.b a0, .l a1, .i a2, .i a3, .i a4, .i a5, .i a6, .i a7, .i a8, .s a9, .s a10, .i a11, .s a12, .l a13, .i a14, .i a15, .i a16, .i a17, .i a18, .s a19, .i a20, .s a21, .s a22, .l a23, .l a24, .l a25, .l a26, .l a27, .l a28] =
 cond (decide (a3 < a2)) (
 cond (inb a3 a1.length) (
 (Lq7 none [.s ((rd a1 a3.toNat 0).str), .i a4, .i a5, .i a6, .i a7, .l a23, .l a24, .l a25]).bind fun y1 =>
 cond (!(g y1 1).bool) (
 (Lqbm none [.i 2]).bind fun y2 =>
 some [.i ((g y2 0).int), .i ((g y2 1).int), .i ((g y2 2).int), .i ((g y2 3).int), .i ((g y2 4).int), .l ((g y2 5).list), .l ((g y2 6).list), .l ((g y2 7).list), .s ((g y2 8).str), .i ((g y2 9).int), .s ((g y2 10).str), .s ((g y2 11).str), .i a4, .i a5, .i a6, .i a7, .l a23, .l a24, .l a25]) (
 Lqa (some 7) [.b a0, .l a1, .i a2, .i (IntKind.i64.wrap (a3 + 1)), .i a4, .i a5, .i a6, .i a7, .i a8, .s a9, .s a10, .i a11, .s a12, .l a13, .i a14, .i a15, .i a16, .i a17, .i a18, .s a19, .i a20, .s a21, .s a22, .l a23, .l a24, .l a25, .l a26, .l a27, .l a28])) (
 none)) (
 (Lq9 none [.s a12, .l a13]).bind fun y3 =>
 (Lqx none [.s ((g y3 0).str), .i a4]).bind fun y4 =>
 (Lq7 none [.s ((g y4 0).str), .i a4, .i a5, .i a6, .i a7, .l a23, .l a24, .l a25]).bind fun y5 =>
 cond ((g y5 1).bool) (
 cond (inb ((g y5 0).int) a23.length) (
 (Lq9 none [.s ((rd a23 (((g y5 0).int).toNat) 2).str), .l ((rd a23 (((g y5 0).int).toNat) 3).list)]).bind fun y6 =>
 cond (!Eng.seq ((g y6 0).str) ((g y3 0).str)) (
 some [.i 3, .i 0, .i 0, .i 0, .i 0, .l ([]), .l ([]), .l ([]), .s (⟨#[]⟩ : ByteArray), .i 0, .s ((g y6 0).str), .s ((g y3 0).str), .i a4, .i a5, .i a6, .i a7, .l a23, .l a24, .l a25]) (
 cond (!a0) (
 Lqa (some 21) [.i a4, .i a5, .i a6, .i a7, .i a14, .i a15, .i a16, .i a17, .i a18, .s a19, .i a20, .s a21, .s a22, .l a23, .l a24, .l a25, .l a26, .l a27, .l a28]) (
 cond (!(g y5 1).bool) (
 cond ((a23.length : Int) == 600) (
 Lqa (some 21) [.i a4, .i a5, .i a6, .i a7, .i a14, .i a15, .i a16, .i a17, .i a18, .s a19, .i a20, .s a21, .s a22, .l a23, .l a24, .l a25, .l a26, .l a27, .l a28]) (
 cond (a7 == 1000000000) (
 Lqa (some 21) [.i a4, .i a5, .i a6, .i a7, .i a14, .i a15, .i a16, .i a17, .i a18, .s a19, .i a20, .s a21, .s a22, .l a23, .l a24, .l a25, .l a26, .l a27, .l a28]) (
 Lqa (some 22) [.s ((g y4 0).str), .i ((g y5 0).int), .b ((g y5 1).bool), .i a4, .i a5, .i a6, .i a7, .i a8, .s a9, .s a10, .i a11, .s a12, .l a13, .i a14, .i a15, .i a16, .i a17, .i a18, .s a19, .i a20, .s a21, .s a22, .l a23, .l a24, .l a25, .l a26, .l a27, .l a28]))) (
 Lqa (some 22) [.s ((g y4 0).str), .i ((g y5 0).int), .b ((g y5 1).bool), .i a4, .i a5, .i a6, .i a7, .i a8, .s a9, .s a10, .i a11, .s a12, .l a13, .i a14, .i a15, .i a16, .i a17, .i a18, .s a19, .i a20, .s a21, .s a22, .l a23, .l a24, .l a25, .l a26, .l a27, .l a28])))) (
 none)) (
 cond (!a0) (
 Lqa (some 21) [.i a4, .i a5, .i a6, .i a7, .i a14, .i a15, .i a16, .i a17, .i a18, .s a19, .i a20, .s a21, .s a22, .l a23, .l a24, .l a25, .l a26, .l a27, .l a28]) (
 cond (!(g y5 1).bool) (
 cond ((a23.length : Int) == 600) (
 Lqa (some 21) [.i a4, .i a5, .i a6, .i a7, .i a14, .i a15, .i a16, .i a17, .i a18, .s a19, .i a20, .s a21, .s a22, .l a23, .l a24, .l a25, .l a26, .l a27, .l a28]) (
 cond (a7 == 1000000000) (
 Lqa (some 21) [.i a4, .i a5, .i a6, .i a7, .i a14, .i a15, .i a16, .i a17, .i a18, .s a19, .i a20, .s a21, .s a22, .l a23, .l a24, .l a25, .l a26, .l a27, .l a28]) (
 Lqa (some 22) [.s ((g y4 0).str), .i ((g y5 0).int), .b ((g y5 1).bool), .i a4, .i a5, .i a6, .i a7, .i a8, .s a9, .s a10, .i a11, .s a12, .l a13, .i a14, .i a15, .i a16, .i a17, .i a18, .s a19, .i a20, .s a21, .s a22, .l a23, .l a24, .l a25, .l a26, .l a27, .l a28]))) (
 Lqa (some 22) [.s ((g y4 0).str), .i ((g y5 0).int), .b ((g y5 1).bool), .i a4, .i a5, .i a6, .i a7, .i a8, .s a9, .s a10, .i a11, .s a12, .l a13, .i a14, .i a15, .i a16, .i a17, .i a18, .s a19, .i a20, .s a21, .s a22, .l a23, .l a24, .l a25, .l a26, .l a27, .l a28])))) := (zd _ _).trans (by kernel_rfl)
theorem eqa_21 (a0 a1 a2 a3 a4 a5 a6 a7 a8 : Int) (a9 : ByteArray) (a10 : Int) (a11 a12 : ByteArray) (a13 a14 a15 a16 a17 a18 : Rw) : Lqa (some 21) [.i a0, .i a1, .i a2, .i a3, .i a4, .i a5, .i a6, .i a7, .i a8, .s a9, .i a10, .s a11, .s a12, .l a13, .l a14, .l a15, .l a16, .l a17, .l a18] =
 (Lqbm none [.i 4]).bind fun y1 =>
 some [.i ((g y1 0).int), .i ((g y1 1).int), .i ((g y1 2).int), .i ((g y1 3).int), .i ((g y1 4).int), .l ((g y1 5).list), .l ((g y1 6).list), .l ((g y1 7).list), .s ((g y1 8).str), .i ((g y1 9).int), .s ((g y1 10).str), .s ((g y1 11).str), .i a0, .i a1, .i a2, .i a3, .l a13, .l a14, .l a15] := (zd _ _).trans (by kernel_rfl)
theorem eqa_22 (a0 : ByteArray) (a1 : Int) (a2 : Bool) (a3 a4 a5 a6 a7 : Int) (a8 a9 : ByteArray) (a10 : Int) (a11 : ByteArray) (a12 : Rw) (a13 a14 a15 a16 a17 : Int) (a18 : ByteArray) (a19 : Int) (a20 a21 : ByteArray) (a22 a23 a24 a25 a26 a27 : Rw) : Lqa (some 22) [.s a0, .i a1, .b a2, .i a3, .i a4, .i a5, .i a6, .i a7, .s a8, .s a9, .i a10, .s a11, .l a12, .i a13, .i a14, .i a15, .i a16, .i a17, .s a18, .i a19, .s a20, .s a21, .l a22, .l a23, .l a24, .l a25, .l a26, .l a27] =
 cond (!a2) (
 cond (decide (0 ≤ a1)) (
 cond (decide (a1 ≤ (a22.length : Int))) (
 cond (decide ((Eng.sub a22 0 a1.toNat).length ≤ most)) (
 (Lqcb none [.l a12]).bind fun y1 =>
 cond (decide ((Eng.sub a22 0 a1.toNat).length + ([[.s a0, .i (IntKind.i64.wrap (a6 + 1)), .s a11, .l ((g y1 0).list)]] : Rw).length ≤ most)) (
 cond (decide (0 ≤ a1)) (
 cond (decide (a1 ≤ (a22.length : Int))) (
 cond (decide (((Eng.sub a22 0 a1.toNat) ++ ([[.s a0, .i (IntKind.i64.wrap (a6 + 1)), .s a11, .l ((g y1 0).list)]] : Rw)).length + (Eng.sub a22 a1.toNat a22.length).length ≤ most)) (
 Lqa (some 27) [.s a0, .i a3, .i a4, .i a5, .i (IntKind.i64.wrap (a6 + 1)), .i a13, .i a14, .i a15, .i a16, .i a17, .s a18, .i a19, .s a20, .s a21, .i a7, .s a8, .s a9, .i a10, .s a11, .l a12, .l (((Eng.sub a22 0 a1.toNat) ++ ([[.s a0, .i (IntKind.i64.wrap (a6 + 1)), .s a11, .l ((g y1 0).list)]] : Rw)) ++ (Eng.sub a22 a1.toNat a22.length)), .l a23, .l a24, .l a25, .l a26, .l a27]) (
 none)) (
 none)) (
 none)) (
 none)) (
 none)) (
 none)) (
 none)) (
 Lqa (some 27) [.s a0, .i a3, .i a4, .i a5, .i a6, .i a13, .i a14, .i a15, .i a16, .i a17, .s a18, .i a19, .s a20, .s a21, .i a7, .s a8, .s a9, .i a10, .s a11, .l a12, .l a22, .l a23, .l a24, .l a25, .l a26, .l a27]) := (zd _ _).trans (by kernel_rfl)
theorem eqa_27 (a0 : ByteArray) (a1 a2 a3 a4 a5 a6 a7 a8 a9 : Int) (a10 : ByteArray) (a11 : Int) (a12 a13 : ByteArray) (a14 : Int) (a15 a16 : ByteArray) (a17 : Int) (a18 : ByteArray) (a19 a20 a21 a22 a23 a24 a25 : Rw) : Lqa (some 27) [.s a0, .i a1, .i a2, .i a3, .i a4, .i a5, .i a6, .i a7, .i a8, .i a9, .s a10, .i a11, .s a12, .s a13, .i a14, .s a15, .s a16, .i a17, .s a18, .l a19, .l a20, .l a21, .l a22, .l a23, .l a24, .l a25] =
 (Lqcz none [.s a0, .i a1, .i a2, .i a3, .i a4, .i a14, .s a15, .s a16, .i a17, .s a18, .l a19, .l a20, .l a21, .l a22]).bind fun y1 =>
 some [.i ((g y1 0).int), .i ((g y1 1).int), .i ((g y1 2).int), .i ((g y1 3).int), .i ((g y1 4).int), .l ((g y1 5).list), .l ((g y1 6).list), .l ((g y1 7).list), .s a0, .i ((g y1 9).int), .s ((g y1 10).str), .s ((g y1 11).str), .i ((g y1 12).int), .i ((g y1 13).int), .i ((g y1 14).int), .i ((g y1 15).int), .l ((g y1 22).list), .l ((g y1 23).list), .l ((g y1 24).list)] := (zd _ _).trans (by kernel_rfl)
theorem eqa_65 (a0 a1 a2 a3 a4 a5 a6 a7 a8 a9 a10 : Int) (a11 : ByteArray) (a12 : Int) (a13 a14 : ByteArray) (a15 a16 a17 a18 a19 a20 a21 : Rw) : Lqa (some 65) [.i a0, .i a1, .i a2, .i a3, .i a4, .i a5, .i a6, .i a7, .i a8, .i a9, .i a10, .s a11, .i a12, .s a13, .s a14, .l a15, .l a16, .l a17, .l a18, .l a19, .l a20, .l a21] =
 cond (decide (a1 < a0)) (
 cond (inb a1 a16.length) (
 cond (decide (a3 < (rd a16 a1.toNat 2).int)) (
 cond (decide (a15.length + ([[.i ((rd a16 a1.toNat 0).int), .s ((rd a16 a1.toNat 1).str), .i ((rd a16 a1.toNat 2).int)]] : Rw).length ≤ most)) (
 Lqa (some 65) [.i a0, .i (IntKind.i64.wrap (a1 + 1)), .i a2, .i a3, .i a4, .i a5, .i a6, .i a7, .i a8, .i a9, .i a10, .s a11, .i a12, .s a13, .s a14, .l (a15 ++ ([[.i ((rd a16 a1.toNat 0).int), .s ((rd a16 a1.toNat 1).str), .i ((rd a16 a1.toNat 2).int)]] : Rw)), .l a16, .l a17, .l a18, .l a19, .l a20, .l a21]) (
 none)) (
 Lqa (some 65) [.i a0, .i (IntKind.i64.wrap (a1 + 1)), .i a2, .i a3, .i a4, .i a5, .i a6, .i a7, .i a8, .i a9, .i a10, .s a11, .i a12, .s a13, .s a14, .l a15, .l a16, .l a17, .l a18, .l a19, .l a20, .l a21])) (
 none)) (
 Lqa (some 78) [.i a2, .i a3, .i a4, .i a5, .i a6, .i a7, .i a8, .i a9, .i a10, .s a11, .i a12, .s a13, .s a14, .l a17, .l a18, .l a15, .l a19, .l a20, .l a21]) := (zd _ _).trans (by kernel_rfl)
theorem eqa_76 (a0 a1 a2 a3 a4 a5 a6 a7 a8 : Int) (a9 : ByteArray) (a10 : Int) (a11 a12 : ByteArray) (a13 a14 a15 a16 a17 a18 : Rw) : Lqa (some 76) [.i a0, .i a1, .i a2, .i a3, .i a4, .i a5, .i a6, .i a7, .i a8, .s a9, .i a10, .s a11, .s a12, .l a13, .l a14, .l a15, .l a16, .l a17, .l a18] =
 (Lqbm none [.i 6]).bind fun y1 =>
 some [.i ((g y1 0).int), .i ((g y1 1).int), .i ((g y1 2).int), .i ((g y1 3).int), .i ((g y1 4).int), .l ((g y1 5).list), .l ((g y1 6).list), .l ((g y1 7).list), .s ((g y1 8).str), .i ((g y1 9).int), .s ((g y1 10).str), .s ((g y1 11).str), .i a0, .i a1, .i a2, .i a3, .l a13, .l a14, .l a15] := (zd _ _).trans (by kernel_rfl)
theorem eqa_78 (a0 a1 a2 a3 a4 a5 a6 a7 a8 : Int) (a9 : ByteArray) (a10 : Int) (a11 a12 : ByteArray) (a13 a14 a15 a16 a17 a18 : Rw) : Lqa (some 78) [.i a0, .i a1, .i a2, .i a3, .i a4, .i a5, .i a6, .i a7, .i a8, .s a9, .i a10, .s a11, .s a12, .l a13, .l a14, .l a15, .l a16, .l a17, .l a18] =
 (Lqbm none [.i 0]).bind fun y1 =>
 some [.i ((g y1 0).int), .i ((g y1 1).int), .i ((g y1 2).int), .i ((g y1 3).int), .i ((g y1 4).int), .l ((g y1 5).list), .l ((g y1 6).list), .l ((g y1 7).list), .s ((g y1 8).str), .i ((g y1 9).int), .s ((g y1 10).str), .s ((g y1 11).str), .i a0, .i a1, .i a2, .i a3, .l a13, .l a14, .l a15] := (zd _ _).trans (by kernel_rfl)
theorem kqa : SigOk Tryz.prog (dqa.sig (Lqa none)) ∧ (dqa.sig (Lqa none)).ok = true := zf (zb kqx (by kernel_rfl) (zb kq7 (by kernel_rfl) (zb kqcb (by kernel_rfl) (zb kq9 (by kernel_rfl) (zb kqbm (by kernel_rfl) (zb kqcz (by kernel_rfl) (zb kqc0 (by kernel_rfl) (zb kqc2 (by kernel_rfl) (zb kq5 (by kernel_rfl) (zb kq6 (by kernel_rfl) ze)))))))))) (by kernel_rfl) (by kernel_rfl) (by kernel_rfl)
end KV
end
section
namespace KV
open Go Go.Eng Go.Proofs
def sortRen : Go.Shelf.Ren := ⟨fun | 125 => 226 | 128 => 242 | 129 => 243 | 190 => 200 | 192 => 144 | 258 => 225 | 302 => 233 | 303 => 234 | 304 => 235 | 305 => 236 | 306 => 237 | 307 => 238 | 308 => 239 | 309 => 240 | 310 => 241 | 329 => 245 | 330 => 246 | 333 => 244 | 334 => 247 | 335 => 248 | 336 => 249 | 344 => 250 | n => n, fun | 0 => 0 | 3 => 3 | 4 => 4 | 5 => 5 | 9 => 9 | 31 => 23 | 46 => 190 | 51 => 159 | 53 => 137 | 131 => 140 | 182 => 247 | 183 => 248 | 218 => 256 | 222 => 260 | 228 => 262 | 229 => 263 | n => n, fun n => n⟩
theorem sortLaid : Go.Proofs.Lays.n192 Tryz.prog sortRen := {
 mixed := by kernel_rfl
 f125 := Tryz.func226.trans (congrArg some (by kernel_rfl))
 f128 := Tryz.func242.trans (congrArg some (by kernel_rfl))
 f129 := Tryz.func243.trans (congrArg some (by kernel_rfl))
 f190 := Tryz.func200.trans (congrArg some (by kernel_rfl))
 f192 := Tryz.func144.trans (congrArg some (by kernel_rfl))
 f258 := Tryz.func225.trans (congrArg some (by kernel_rfl))
 f302 := Tryz.func233.trans (congrArg some (by kernel_rfl))
 f303 := Tryz.func234.trans (congrArg some (by kernel_rfl))
 f304 := Tryz.func235.trans (congrArg some (by kernel_rfl))
 f305 := Tryz.func236.trans (congrArg some (by kernel_rfl))
 f306 := Tryz.func237.trans (congrArg some (by kernel_rfl))
 f307 := Tryz.func238.trans (congrArg some (by kernel_rfl))
 f308 := Tryz.func239.trans (congrArg some (by kernel_rfl))
 f309 := Tryz.func240.trans (congrArg some (by kernel_rfl))
 f310 := Tryz.func241.trans (congrArg some (by kernel_rfl))
 f329 := Tryz.func245.trans (congrArg some (by kernel_rfl))
 f330 := Tryz.func246.trans (congrArg some (by kernel_rfl))
 f333 := Tryz.func244.trans (congrArg some (by kernel_rfl))
 f334 := Tryz.func247.trans (congrArg some (by kernel_rfl))
 f335 := Tryz.func248.trans (congrArg some (by kernel_rfl))
 f336 := Tryz.func249.trans (congrArg some (by kernel_rfl))
 f344 := Tryz.func250.trans (congrArg some (by kernel_rfl))
 t0 := Tryz.underlying0
 a0 := Tryz.isAgg0
 z0 := Tryz.sizeOf0
 v0 := Tryz.zeroValue0
 t3 := Tryz.underlying3
 a3 := Tryz.isAgg3
 z3 := Tryz.sizeOf3
 v3 := Tryz.zeroValue3
 t4 := Tryz.underlying4
 a4 := Tryz.isAgg4
 z4 := Tryz.sizeOf4
 v4 := Tryz.zeroValue4
 t5 := Tryz.underlying5
 a5 := Tryz.isAgg5
 z5 := Tryz.sizeOf5
 v5 := Tryz.zeroValue5
 t9 := Tryz.underlying9
 a9 := Tryz.isAgg9
 z9 := Tryz.sizeOf9
 v9 := Tryz.zeroValue9
 t31 := Tryz.underlying23
 a31 := Tryz.isAgg23
 z31 := Tryz.sizeOf23
 v31 := Tryz.zeroValue23
 t46 := Tryz.underlying190
 a46 := Tryz.isAgg190
 z46 := Tryz.sizeOf190
 v46 := Tryz.zeroValue190
 t51 := Tryz.underlying159
 a51 := Tryz.isAgg159
 z51 := Tryz.sizeOf159
 v51 := Tryz.zeroValue159
 t53 := Tryz.underlying137
 a53 := Tryz.isAgg137
 z53 := Tryz.sizeOf137
 v53 := Tryz.zeroValue137
 t131 := Tryz.underlying140
 a131 := Tryz.isAgg140
 z131 := Tryz.sizeOf140
 v131 := Tryz.zeroValue140
 t182 := Tryz.underlying247
 a182 := Tryz.isAgg247
 z182 := Tryz.sizeOf247
 v182 := Tryz.zeroValue247
 t183 := Tryz.underlying248
 a183 := Tryz.isAgg248
 z183 := Tryz.sizeOf248
 v183 := Tryz.zeroValue248
 t218 := Tryz.underlying256
 a218 := Tryz.isAgg256
 z218 := Tryz.sizeOf256
 v218 := Tryz.zeroValue256
 t222 := Tryz.underlying260
 a222 := Tryz.isAgg260
 z222 := Tryz.sizeOf260
 v222 := Tryz.zeroValue260
 t228 := Tryz.underlying262
 a228 := Tryz.isAgg262
 z228 := Tryz.sizeOf262
 v228 := Tryz.zeroValue262
 t229 := Tryz.underlying263
 a229 := Tryz.isAgg263
 z229 := Tryz.sizeOf263
 v229 := Tryz.zeroValue263 }
theorem sort_says : SortSays Tryz.prog 144 := fun blk off cap ss w hH hblk hsz => calls_of_every_depth fun D => AnyS.sort_Strings_in sortLaid D blk off cap ss w hH hblk hsz
theorem sort_nil : SortNil Tryz.prog 144 := fun p cap w => calls_of_every_depth fun D => AnyS.sort_Strings_none_in sortLaid D p cap w
end KV
end
section
set_option maxRecDepth 100000
namespace KV
open Go Go.Eng Go.Proofs
def dqb0 : FD := { fn := 119, nb := 0, pre := ⟨[.ag [.i .i64 0, .i .i64 1, .i .i64 2, .i .i64 3, .fz 90 false 4, .fz 156 false 5, .fz 158 false 6]], []⟩, post := ⟨[.ag [.i .i64 0, .i .i64 1, .i .i64 2, .i .i64 3, .ow 0, .ow 1, .ow 2]], [.rw 90 true 4, .rw 156 true 5, .rw 158 true 6]⟩, sh := false, cuts := [⟨4, [1, 2, 9, 10, 11], ⟨[.sc (.pt 0 0), .sc (.pt 1 0), .sc (.fz 90 false 0), .sc (.i .i64 1), .sc (.i .i64 2)], [.bx [.i .i64 3, .i .i64 4, .i .i64 5, .i .i64 6, .ow 2, .fz 156 false 7, .fz 158 false 8], .bx [.i .i64 9, .i .i64 10, .i .i64 11, .i .i64 12, .ow 3, .ow 4, .ow 5], .rw 90 true 13, .rw 90 true 14, .rw 156 true 15, .rw 158 true 16]⟩⟩] }
noncomputable def Lqb0 : Option Nat → Lv → Option Lv := Lim Tryz.prog [dqcb.sig (Lqcb none)] dqb0 Tryz.f119
theorem eqb0_i (a0 a1 a2 a3 : Int) (a4 a5 a6 : Rw) : Lqb0 none [.i a0, .i a1, .i a2, .i a3, .l a4, .l a5, .l a6] =
 Lqb0 (some 4) [.l a4, .i (a4.length : Int), .i 0, .i a0, .i a1, .i a2, .i a3, .l a5, .l a6, .i 0, .i 0, .i 0, .i 0, .l [], .l [], .l [], .l []] := (zd _ _).trans (by kernel_rfl)
theorem eqb0_4 (a0 : Rw) (a1 a2 a3 a4 a5 a6 : Int) (a7 a8 : Rw) (a9 a10 a11 a12 : Int) (a13 a14 a15 a16 : Rw) : Lqb0 (some 4) [.l a0, .i a1, .i a2, .i a3, .i a4, .i a5, .i a6, .l a7, .l a8, .i a9, .i a10, .i a11, .i a12, .l a13, .l a14, .l a15, .l a16] =
 cond (decide (a2 < a1)) (
 cond (inb a2 a0.length) (
 (Lqcb none [.l ((rd a0 a2.toNat 3).list)]).bind fun y1 =>
 cond (decide (a13.length + ([[.s ((rd a0 a2.toNat 0).str), .i ((rd a0 a2.toNat 1).int), .s ((rd a0 a2.toNat 2).str), .l ((g y1 0).list)]] : Rw).length ≤ most)) (
 Lqb0 (some 4) [.l a0, .i a1, .i (IntKind.i64.wrap (a2 + 1)), .i a3, .i a4, .i a5, .i a6, .l a7, .l a8, .i a9, .i a10, .i a11, .i a12, .l (a13 ++ ([[.s ((rd a0 a2.toNat 0).str), .i ((rd a0 a2.toNat 1).int), .s ((rd a0 a2.toNat 2).str), .l ((g y1 0).list)]] : Rw)), .l a14, .l a15, .l a16]) (
 none)) (
 none)) (
 cond (decide (a7.length ≤ most)) (
 cond (decide (a8.length ≤ most)) (
 some [.i a3, .i a4, .i a5, .i a6, .l a13, .l a7, .l a8]) (
 none)) (
 none)) := (zd _ _).trans (by kernel_rfl)
theorem kqb0 : SigOk Tryz.prog (dqb0.sig (Lqb0 none)) ∧ (dqb0.sig (Lqb0 none)).ok = true := zf (zb kqcb (by kernel_rfl) ze) (by kernel_rfl) (by kernel_rfl) (by kernel_rfl)
def dqc3 : FD := { fn := 37, nb := 0, pre := ⟨[.ag [.i .i64 0, .i .i64 1, .i .i64 2, .i .i64 3, .fz 90 false 4, .fz 156 false 5, .fz 158 false 6], .ag [.i .i64 7, .s 8, .s 9, .i .i64 10, .s 11, .fz 9 false 12]], []⟩, post := ⟨[.ag [.i .i64 0, .i .i64 1, .i .i64 2, .i .i64 3, .i .i64 4, .fz 90 false 5, .fz 156 false 6, .fz 158 false 7, .s 8, .i .i64 9, .s 10, .s 11]], []⟩, sh := true, cuts := [] }
noncomputable def Lqc3 : Option Nat → Lv → Option Lv := Lim Tryz.prog [dqh.sig (Lqh none), dqa.sig (Lqa none), dqb0.sig (Lqb0 none), dqb.sig (Lqb none)] dqc3 Tryz.f37
theorem eqc3_i (a0 a1 a2 a3 : Int) (a4 a5 a6 : Rw) (a7 : Int) (a8 a9 : ByteArray) (a10 : Int) (a11 : ByteArray) (a12 : Rw) : Lqc3 none [.i a0, .i a1, .i a2, .i a3, .l a4, .l a5, .l a6, .i a7, .s a8, .s a9, .i a10, .s a11, .l a12] =
 (Lqb none [.i a0, .i a1, .i a2, .i a3, .l a4, .l a5, .l a6]).bind fun y1 =>
 cond (!(g y1 0).bool) (
 some [.i 1, .i 0, .i 0, .i 0, .i 0, .l ([]), .l ([]), .l ([]), .s (⟨#[]⟩ : ByteArray), .i 0, .s (⟨#[]⟩ : ByteArray), .s (⟨#[]⟩ : ByteArray)]) (
 (Lqh none [.i a7, .s a8, .s a9, .i a10, .s a11, .l a12, .i a0]).bind fun y2 =>
 cond (!(g y2 0).bool) (
 some [.i 1, .i 0, .i 0, .i 0, .i 0, .l ([]), .l ([]), .l ([]), .s (⟨#[]⟩ : ByteArray), .i 0, .s (⟨#[]⟩ : ByteArray), .s (⟨#[]⟩ : ByteArray)]) (
 (Lqb0 none [.i a0, .i a1, .i a2, .i a3, .l a4, .l a5, .l a6]).bind fun y3 =>
 (Lqa none [.i a7, .s a8, .s a9, .i a10, .s a11, .l a12, .i ((g y3 0).int), .i ((g y3 1).int), .i ((g y3 2).int), .i ((g y3 3).int), .l ((g y3 4).list), .l ((g y3 5).list), .l ((g y3 6).list)]).bind fun y4 =>
 cond ((g y4 0).int == 0) (
 some [.i ((g y4 0).int), .i ((g y4 12).int), .i ((g y4 13).int), .i ((g y4 14).int), .i ((g y4 15).int), .l ((g y4 16).list), .l ((g y4 17).list), .l ((g y4 18).list), .s ((g y4 8).str), .i ((g y4 9).int), .s ((g y4 10).str), .s ((g y4 11).str)]) (
 some [.i ((g y4 0).int), .i ((g y4 1).int), .i ((g y4 2).int), .i ((g y4 3).int), .i ((g y4 4).int), .l ((g y4 5).list), .l ((g y4 6).list), .l ((g y4 7).list), .s ((g y4 8).str), .i ((g y4 9).int), .s ((g y4 10).str), .s ((g y4 11).str)]))) := (zd _ _).trans (by kernel_rfl)
theorem kqc3 : SigOk Tryz.prog (dqc3.sig (Lqc3 none)) ∧ (dqc3.sig (Lqc3 none)).ok = true := zf (zb kqh (by kernel_rfl) (zb kqa (by kernel_rfl) (zb kqb0 (by kernel_rfl) (zb kqb (by kernel_rfl) ze)))) (by kernel_rfl) (by kernel_rfl) (by kernel_rfl)
def dqb1 : FD := { fn := 40, nb := 0, pre := ⟨[.sc (.fz 9 false 0), .sc (.s 1)], []⟩, post := ⟨[.sc (.b 0)], []⟩, sh := false, cuts := [⟨2, [0, 1, 5], ⟨[.sc (.fz 9 false 0), .sc (.s 1), .sc (.i .i64 2)], []⟩⟩] }
noncomputable def Lqb1 : Option Nat → Lv → Option Lv := Lim Tryz.prog [] dqb1 Tryz.f40
theorem eqb1_i (a0 : Rw) (a1 : ByteArray) : Lqb1 none [.l a0, .s a1] =
 Lqb1 (some 2) [.l a0, .s a1, .i 0] := (zd _ _).trans (by kernel_rfl)
theorem eqb1_2 (a0 : Rw) (a1 : ByteArray) (a2 : Int) : Lqb1 (some 2) [.l a0, .s a1, .i a2] =
 cond (decide (a2 < (a0.length : Int))) (
 cond (inb a2 a0.length) (
 cond (Eng.seq ((rd a0 a2.toNat 0).str) a1) (
 some [.b true]) (
 Lqb1 (some 2) [.l a0, .s a1, .i (IntKind.i64.wrap (a2 + 1))])) (
 none)) (
 some [.b false]) := (zd _ _).trans (by kernel_rfl)
theorem kqb1 : SigOk Tryz.prog (dqb1.sig (Lqb1 none)) ∧ (dqb1.sig (Lqb1 none)).ok = true := zf ze (by kernel_rfl) (by kernel_rfl) (by kernel_rfl)
def dqb7 : FD := { fn := 46, nb := 0, pre := ⟨[.ag [.i .i64 0, .i .i64 1, .i .i64 2, .i .i64 3, .fz 90 false 4, .fz 156 false 5, .fz 158 false 6], .sc (.s 7)], []⟩, post := ⟨[.sc (.i .i64 0)], []⟩, sh := false, cuts := [⟨2, [1, 2, 5], ⟨[.sc (.s 0), .sc (.pt 0 0), .sc (.i .i64 1)], [.bx [.i .i64 2, .i .i64 3, .i .i64 4, .i .i64 5, .fz 90 false 6, .fz 156 false 7, .fz 158 false 8]]⟩⟩] }
noncomputable def Lqb7 : Option Nat → Lv → Option Lv := Lim Tryz.prog [] dqb7 Tryz.f46
theorem eqb7_i (a0 a1 a2 a3 : Int) (a4 a5 a6 : Rw) (a7 : ByteArray) : Lqb7 none [.i a0, .i a1, .i a2, .i a3, .l a4, .l a5, .l a6, .s a7] =
 Lqb7 (some 2) [.s a7, .i 0, .i a0, .i a1, .i a2, .i a3, .l a4, .l a5, .l a6] := (zd _ _).trans (by kernel_rfl)
theorem eqb7_2 (a0 : ByteArray) (a1 a2 a3 a4 a5 : Int) (a6 a7 a8 : Rw) : Lqb7 (some 2) [.s a0, .i a1, .i a2, .i a3, .i a4, .i a5, .l a6, .l a7, .l a8] =
 cond (decide (a1 < (a6.length : Int))) (
 cond (inb a1 a6.length) (
 cond (Eng.seq ((rd a6 a1.toNat 0).str) a0) (
 cond (inb a1 a6.length) (
 some [.i ((rd a6 a1.toNat 1).int)]) (
 none)) (
 Lqb7 (some 2) [.s a0, .i (IntKind.i64.wrap (a1 + 1)), .i a2, .i a3, .i a4, .i a5, .l a6, .l a7, .l a8])) (
 none)) (
 some [.i 0]) := (zd _ _).trans (by kernel_rfl)
theorem kqb7 : SigOk Tryz.prog (dqb7.sig (Lqb7 none)) ∧ (dqb7.sig (Lqb7 none)).ok = true := zf ze (by kernel_rfl) (by kernel_rfl) (by kernel_rfl)
def dqbh : FD := { fn := 143, nb := 0, pre := ⟨[.sc (.pt 0 0), .sc (.fz 9 false 0)], [.rb [.i .i64 1, .i .i64 2, .i .i64 3, .i .i64 4, .fz 90 false 5, .fz 156 false 6, .fz 158 false 7]]⟩, post := ⟨[.sc (.mp 0)], [.mp 9 4 0]⟩, sh := false, cuts := [⟨3, [0, 5, 6], ⟨[.sc (.pt 0 0), .sc (.mp 1), .sc (.ow 2)], [.rb [.i .i64 0, .i .i64 1, .i .i64 2, .i .i64 3, .fz 90 false 4, .fz 156 false 5, .fz 158 false 6], .mp 9 4 7, .rw 9 true 8]⟩⟩] }
noncomputable def Lqbh : Option Nat → Lv → Option Lv := Lim Tryz.prog [dq7.sig (Lq7 none), dqcb.sig (Lqcb none)] dqbh Tryz.f143
theorem eqbh_i (a0 : Rw) (a1 a2 a3 a4 : Int) (a5 a6 a7 : Rw) : Lqbh none [.l a0, .i a1, .i a2, .i a3, .i a4, .l a5, .l a6, .l a7] =
 (Lqcb none [.l a0]).bind fun y1 =>
 Lqbh (some 3) [.i a1, .i a2, .i a3, .i a4, .l a5, .l a6, .l a7, .m ([]), .l ((g y1 0).list)] := (zd _ _).trans (by kernel_rfl)
theorem eqbh_3 (a0 a1 a2 a3 : Int) (a4 a5 a6 : Rw) (a7 : List (C × C)) (a8 : Rw) : Lqbh (some 3) [.i a0, .i a1, .i a2, .i a3, .l a4, .l a5, .l a6, .m a7, .l a8] =
 cond (decide (0 < (a8.length : Int))) (
 cond (inb (IntKind.i64.wrap ((a8.length : Int) - 1)) a8.length) (
 cond (decide (0 ≤ (IntKind.i64.wrap ((a8.length : Int) - 1)))) (
 cond (decide ((IntKind.i64.wrap ((a8.length : Int) - 1)) ≤ (a8.length : Int))) (
 (Lq7 none [.s ((rd a8 ((IntKind.i64.wrap ((a8.length : Int) - 1)).toNat) 0).str), .i a0, .i a1, .i a2, .i a3, .l a4, .l a5, .l a6]).bind fun y1 =>
 cond (!(g y1 1).bool) (
 Lqbh (some 3) [.i a0, .i a1, .i a2, .i a3, .l a4, .l a5, .l a6, .m a7, .l (Eng.sub a8 0 ((IntKind.i64.wrap ((a8.length : Int) - 1)).toNat))]) (
 cond (((mget .s (.s ((rd a8 ((IntKind.i64.wrap ((a8.length : Int) - 1)).toNat) 0).str)) a7).getD (.b false)).bool) (
 Lqbh (some 3) [.i a0, .i a1, .i a2, .i a3, .l a4, .l a5, .l a6, .m a7, .l (Eng.sub a8 0 ((IntKind.i64.wrap ((a8.length : Int) - 1)).toNat))]) (
 cond (inb ((g y1 0).int) a4.length) (
 cond (decide ((Eng.sub a8 0 ((IntKind.i64.wrap ((a8.length : Int) - 1)).toNat)).length + ((rd a4 (((g y1 0).int).toNat) 3).list).length ≤ most)) (
 Lqbh (some 3) [.i a0, .i a1, .i a2, .i a3, .l a4, .l a5, .l a6, .m (mput .s (.s ((rd a8 ((IntKind.i64.wrap ((a8.length : Int) - 1)).toNat) 0).str)) (.b true) a7), .l ((Eng.sub a8 0 ((IntKind.i64.wrap ((a8.length : Int) - 1)).toNat)) ++ (rd a4 (((g y1 0).int).toNat) 3).list)]) (
 none)) (
 none)))) (
 none)) (
 none)) (
 none)) (
 some [.m a7]) := (zd _ _).trans (by kernel_rfl)
theorem kqbh : SigOk Tryz.prog (dqbh.sig (Lqbh none)) ∧ (dqbh.sig (Lqbh none)).ok = true := zf (zb kq7 (by kernel_rfl) (zb kqcb (by kernel_rfl) ze)) (by kernel_rfl) (by kernel_rfl) (by kernel_rfl)
def dqdd : FD := sortD 144 9
noncomputable def Lqdd : Option Nat → Lv → Option Lv := fun _ x => sortF x
theorem eqdd_i (a0 : Rw) : Lqdd none [.l a0] = cond (decide (a0.length ≤ most)) (some [.l (sortRw a0)]) none := rfl
theorem kqdd : SigOk Tryz.prog (dqdd.sig (Lqdd none)) ∧ (dqdd.sig (Lqdd none)).ok = true := zm3 (by kernel_rfl) (by kernel_rfl) sort_says sort_nil
def dqy : FD := { fn := 57, nb := 0, pre := ⟨[.ag [.i .i64 0, .i .i64 1, .i .i64 2, .i .i64 3, .fz 90 false 4, .fz 156 false 5, .fz 158 false 6], .sc (.s 7)], []⟩, post := ⟨[.tu [(false, [.ow 0]), (false, [.ow 1])]], [.rw 9 true 0, .rw 3 true 1]⟩, sh := false, cuts := [⟨9, [1, 2, 8, 9, 25, 26, 27], ⟨[.sc (.s 0), .sc (.pt 0 0), .sc (.ow 1), .sc (.ow 2), .sc (.fz 156 false 1), .sc (.i .i64 2), .sc (.i .i64 3)], [.bx [.i .i64 4, .i .i64 5, .i .i64 6, .i .i64 7, .fz 90 false 8, .fz 156 false 9, .fz 158 false 10], .rw 9 true 11, .rw 3 true 12]⟩⟩, ⟨15, [1, 2, 8, 9, 44, 45, 46], ⟨[.sc (.s 0), .sc (.pt 0 0), .sc (.ow 1), .sc (.ow 2), .sc (.fz 158 false 1), .sc (.i .i64 2), .sc (.i .i64 3)], [.bx [.i .i64 4, .i .i64 5, .i .i64 6, .i .i64 7, .fz 90 false 8, .fz 156 false 9, .fz 158 false 10], .rw 9 true 11, .rw 3 true 12]⟩⟩] }
noncomputable def Lqy : Option Nat → Lv → Option Lv := Lim Tryz.prog [dq7.sig (Lq7 none), dqb.sig (Lqb none), dqbh.sig (Lqbh none), dqdd.sig (Lqdd none)] dqy Tryz.f57
theorem eqy_i (a0 a1 a2 a3 : Int) (a4 a5 a6 : Rw) (a7 : ByteArray) : Lqy none [.i a0, .i a1, .i a2, .i a3, .l a4, .l a5, .l a6, .s a7] =
 (Lqb none [.i a0, .i a1, .i a2, .i a3, .l a4, .l a5, .l a6]).bind fun y1 =>
 cond (!(g y1 0).bool) (
 some [.l [], .l []]) (
 (Lq7 none [.s a7, .i a0, .i a1, .i a2, .i a3, .l a4, .l a5, .l a6]).bind fun y2 =>
 cond (!(g y2 1).bool) (
 some [.l [], .l []]) (
 Lqy (some 9) [.s a7, .l a5, .i (a5.length : Int), .i 0, .i a0, .i a1, .i a2, .i a3, .l a4, .l a5, .l a6, .l [], .l []])) := (zd _ _).trans (by kernel_rfl)
theorem eqy_9 (a0 : ByteArray) (a1 : Rw) (a2 a3 a4 a5 a6 a7 : Int) (a8 a9 a10 a11 a12 : Rw) : Lqy (some 9) [.s a0, .l a1, .i a2, .i a3, .i a4, .i a5, .i a6, .i a7, .l a8, .l a9, .l a10, .l a11, .l a12] =
 cond (decide (a3 < a2)) (
 cond (inb a3 a1.length) (
 (Lqbh none [.l ([[.s ((rd a1 a3.toNat 1).str)]] : Rw), .i a4, .i a5, .i a6, .i a7, .l a8, .l a9, .l a10]).bind fun y1 =>
 cond (((mget .s (.s a0) ((g y1 0).map)).getD (.b false)).bool) (
 cond (decide (a11.length + ([[.s ((rd a1 a3.toNat 0).str)]] : Rw).length ≤ most)) (
 Lqy (some 9) [.s a0, .l a1, .i a2, .i (IntKind.i64.wrap (a3 + 1)), .i a4, .i a5, .i a6, .i a7, .l a8, .l a9, .l a10, .l (a11 ++ ([[.s ((rd a1 a3.toNat 0).str)]] : Rw)), .l a12]) (
 none)) (
 Lqy (some 9) [.s a0, .l a1, .i a2, .i (IntKind.i64.wrap (a3 + 1)), .i a4, .i a5, .i a6, .i a7, .l a8, .l a9, .l a10, .l a11, .l a12])) (
 none)) (
 Lqy (some 15) [.s a0, .l a10, .i (a10.length : Int), .i 0, .i a4, .i a5, .i a6, .i a7, .l a8, .l a9, .l a10, .l a11, .l a12]) := (zd _ _).trans (by kernel_rfl)
theorem eqy_15 (a0 : ByteArray) (a1 : Rw) (a2 a3 a4 a5 a6 a7 : Int) (a8 a9 a10 a11 a12 : Rw) : Lqy (some 15) [.s a0, .l a1, .i a2, .i a3, .i a4, .i a5, .i a6, .i a7, .l a8, .l a9, .l a10, .l a11, .l a12] =
 cond (decide (a3 < a2)) (
 cond (inb a3 a1.length) (
 (Lqbh none [.l ([[.s ((rd a1 a3.toNat 1).str)]] : Rw), .i a4, .i a5, .i a6, .i a7, .l a8, .l a9, .l a10]).bind fun y1 =>
 cond (((mget .s (.s a0) ((g y1 0).map)).getD (.b false)).bool) (
 cond (decide (a12.length + ([[.i ((rd a1 a3.toNat 0).int)]] : Rw).length ≤ most)) (
 Lqy (some 15) [.s a0, .l a1, .i a2, .i (IntKind.i64.wrap (a3 + 1)), .i a4, .i a5, .i a6, .i a7, .l a8, .l a9, .l a10, .l a11, .l (a12 ++ ([[.i ((rd a1 a3.toNat 0).int)]] : Rw))]) (
 none)) (
 Lqy (some 15) [.s a0, .l a1, .i a2, .i (IntKind.i64.wrap (a3 + 1)), .i a4, .i a5, .i a6, .i a7, .l a8, .l a9, .l a10, .l a11, .l a12])) (
 none)) (
 (Lqdd none [.l a11]).bind fun y2 =>
 some [.l ((g y2 0).list), .l a12]) := (zd _ _).trans (by kernel_rfl)
theorem kqy : SigOk Tryz.prog (dqy.sig (Lqy none)) ∧ (dqy.sig (Lqy none)).ok = true := zf (zb kq7 (by kernel_rfl) (zb kqb (by kernel_rfl) (zb kqbh (by kernel_rfl) (zb kqdd (by kernel_rfl) ze)))) (by kernel_rfl) (by kernel_rfl) (by kernel_rfl)
def dqi : FD := { fn := 86, nb := 0, pre := ⟨[.sc (.i .i64 0)], []⟩, post := ⟨[.sc (.b 0)], []⟩, sh := false, cuts := [] }
noncomputable def Lqi : Option Nat → Lv → Option Lv := Lim Tryz.prog [] dqi Tryz.f86
theorem eqi_i (a0 : Int) : Lqi none [.i a0] =
 cond (decide (1 ≤ a0)) (
 some [.b (decide (a0 ≤ 8))]) (
 some [.b false]) := (zd _ _).trans (by kernel_rfl)
theorem kqi : SigOk Tryz.prog (dqi.sig (Lqi none)) ∧ (dqi.sig (Lqi none)).ok = true := zf ze (by kernel_rfl) (by kernel_rfl) (by kernel_rfl)
def dqc4 : FD := { fn := 73, nb := 0, pre := ⟨[.sc (.fz 5 false 0)], []⟩, post := ⟨[.sc (.pt 0 0)], [.bx [.fz 5 false 0, .i .i64 1]]⟩, sh := true, cuts := [] }
noncomputable def Lqc4 : Option Nat → Lv → Option Lv := Lim Tryz.prog [] dqc4 Tryz.f73
theorem eqc4_i (a0 : Rw) : Lqc4 none [.l a0] =
 cond (decide (2000 < (a0.length : Int))) (
 cond (decide (2000 ≤ (a0.length : Int))) (
 some [.l (Eng.sub a0 0 2000), .i 0]) (
 none)) (
 some [.l a0, .i 0]) := (zd _ _).trans (by kernel_rfl)
theorem kqc4 : SigOk Tryz.prog (dqc4.sig (Lqc4 none)) ∧ (dqc4.sig (Lqc4 none)).ok = true := zf ze (by kernel_rfl) (by kernel_rfl) (by kernel_rfl)
def dqc : FD := { fn := 74, nb := 1, pre := ⟨[.sc (.pt 0 0), .sc (.i .i64 0)], [.bx [.fz 5 false 1, .i .i64 2]]⟩, post := ⟨[.sc (.i .i64 0)], [.bx [.fz 5 false 1, .i .i64 2]]⟩, sh := true, cuts := [] }
noncomputable def Lqc : Option Nat → Lv → Option Lv := Lim Tryz.prog [] dqc Tryz.f74
theorem eqc_i (a0 : Int) (a1 : Rw) (a2 : Int) : Lqc none [.i a0, .l a1, .i a2] =
 cond (decide (a0 < 1)) (
 some [.i 0, .l a1, .i (IntKind.i64.wrap (a2 + 1))]) (
 cond ((a1.length : Int) == 0) (
 some [.i 0, .l a1, .i (IntKind.i64.wrap (a2 + 1))]) (
 cond (decide ((IntKind.i64.wrap ((IntKind.i64.wrap (a2 + 1)) - 1)) < (a1.length : Int))) (
 cond (inb (IntKind.i64.wrap ((IntKind.i64.wrap (a2 + 1)) - 1)) a1.length) (
 cond (a0 != 0) (
 some [.i ((IntKind.i64.wrap ((rd a1 ((IntKind.i64.wrap ((IntKind.i64.wrap (a2 + 1)) - 1)).toNat) 0).int)).tmod a0), .l a1, .i (IntKind.i64.wrap (a2 + 1))]) (
 none)) (
 none)) (
 cond ((a1.length : Int) != 0) (
 cond (inb ((IntKind.i64.wrap ((IntKind.i64.wrap (a2 + 1)) - 1)).tmod (a1.length : Int)) a1.length) (
 cond ((a1.length : Int) != 0) (
 cond (inb ((IntKind.i64.wrap ((IntKind.i64.wrap ((IntKind.i64.wrap ((IntKind.i64.wrap (a2 + 1)) - 1)) * 7)) + 3)).tmod (a1.length : Int)) a1.length) (
 cond ((a1.length : Int) != 0) (
 cond (a0 != 0) (
 some [.i ((IntKind.i64.wrap (BitVec.ofInt (IntKind.i64).bits (IntKind.i64.wrap ((IntKind.i64.wrap ((IntKind.i64.wrap ((IntKind.i64.wrap ((IntKind.i64.wrap ((rd a1 (((IntKind.i64.wrap ((IntKind.i64.wrap (a2 + 1)) - 1)).tmod (a1.length : Int)).toNat) 0).int)) * 131)) + (IntKind.i64.wrap ((IntKind.i64.wrap ((rd a1 (((IntKind.i64.wrap ((IntKind.i64.wrap ((IntKind.i64.wrap ((IntKind.i64.wrap (a2 + 1)) - 1)) * 7)) + 3)).tmod (a1.length : Int)).toNat) 0).int)) * 1117)))) + (IntKind.i64.wrap ((IntKind.i64.wrap ((IntKind.i64.wrap (a2 + 1)) - 1)) * 29)))) + (IntKind.i64.wrap ((IntKind.i64.wrap ((IntKind.i64.wrap ((IntKind.i64.wrap (a2 + 1)) - 1)).tdiv (a1.length : Int))) * 53)))) ^^^ BitVec.ofInt (IntKind.i64).bits (IntKind.i64.wrap ((IntKind.i64.wrap ((IntKind.i64.wrap ((IntKind.i64.wrap ((IntKind.i64.wrap ((IntKind.i64.wrap ((rd a1 (((IntKind.i64.wrap ((IntKind.i64.wrap (a2 + 1)) - 1)).tmod (a1.length : Int)).toNat) 0).int)) * 131)) + (IntKind.i64.wrap ((IntKind.i64.wrap ((rd a1 (((IntKind.i64.wrap ((IntKind.i64.wrap ((IntKind.i64.wrap ((IntKind.i64.wrap (a2 + 1)) - 1)) * 7)) + 3)).tmod (a1.length : Int)).toNat) 0).int)) * 1117)))) + (IntKind.i64.wrap ((IntKind.i64.wrap ((IntKind.i64.wrap (a2 + 1)) - 1)) * 29)))) + (IntKind.i64.wrap ((IntKind.i64.wrap ((IntKind.i64.wrap ((IntKind.i64.wrap (a2 + 1)) - 1)).tdiv (a1.length : Int))) * 53)))).tdiv 64))).toNat).tmod a0), .l a1, .i (IntKind.i64.wrap (a2 + 1))]) (
 none)) (
 none)) (
 none)) (
 none)) (
 none)) (
 none)))) := (zd _ _).trans (by kernel_rfl)
theorem kqc : SigOk Tryz.prog (dqc.sig (Lqc none)) ∧ (dqc.sig (Lqc none)).ok = true := zf ze (by kernel_rfl) (by kernel_rfl) (by kernel_rfl)
def dqf : FD := { fn := 21, nb := 0, pre := ⟨[.sc (.s 0), .sc (.i .i64 1)], []⟩, post := ⟨[.sc (.s 0)], []⟩, sh := false, cuts := [⟨5, [0, 1, 5, 6], ⟨[.sc (.s 0), .sc (.i .i64 1), .sc (.i .u64 2), .sc (.i .i64 3)], []⟩⟩, ⟨10, [1, 5, 7, 8], ⟨[.sc (.i .i64 0), .sc (.i .u64 1), .sc (.ow 0), .sc (.i .i64 2)], [.rw 5 true 3]⟩⟩] }
noncomputable def Lqf : Option Nat → Lv → Option Lv := Lim Tryz.prog [dqi.sig (Lqi none)] dqf Tryz.f21
theorem eqf_i (a0 : ByteArray) (a1 : Int) : Lqf none [.s a0, .i a1] =
 (Lqi none [.i a1]).bind fun y1 =>
 cond (!(g y1 0).bool) (
 some [.s (⟨#[]⟩ : ByteArray)]) (
 Lqf (some 5) [.s a0, .i a1, .i 14695981039346656037, .i 0]) := (zd _ _).trans (by kernel_rfl)
theorem eqf_5 (a0 : ByteArray) (a1 a2 a3 : Int) : Lqf (some 5) [.s a0, .i a1, .i a2, .i a3] =
 cond (decide (a3 < (a0.size : Int))) (
 cond (inb a3 a0.size) (
 Lqf (some 5) [.s a0, .i a1, .i (IntKind.u64.wrap ((IntKind.u64.wrap (BitVec.ofInt (IntKind.u64).bits a2 ^^^ BitVec.ofInt (IntKind.u64).bits (IntKind.u64.wrap (byteAt a0 a3.toNat))).toNat) * 1099511628211)), .i (IntKind.i64.wrap (a3 + 1))]) (
 none)) (
 Lqf (some 10) [.i a1, .i a2, .i 0, .l ([] : Rw)]) := (zd _ _).trans (by kernel_rfl)
theorem eqf_10 (a0 a1 a2 : Int) (a3 : Rw) : Lqf (some 10) [.i a0, .i a1, .i a2, .l a3] =
 cond (decide (a2 < a0)) (
 cond (decide (([[.i (IntKind.u8.wrap (a1.tmod 256))]] : Rw).length + a3.length ≤ most)) (
 Lqf (some 10) [.i a0, .i (IntKind.u64.wrap (a1.tdiv 256)), .i (IntKind.i64.wrap (a2 + 1)), .l (([[.i (IntKind.u8.wrap (a1.tmod 256))]] : Rw) ++ a3)]) (
 none)) (
 some [.s (bytesOf a3)]) := (zd _ _).trans (by kernel_rfl)
theorem kqf : SigOk Tryz.prog (dqf.sig (Lqf none)) ∧ (dqf.sig (Lqf none)).ok = true := zf (zb kqi (by kernel_rfl) ze) (by kernel_rfl) (by kernel_rfl) (by kernel_rfl)
def dqcd : FD := { fn := 154, nb := 1, pre := ⟨[.sc (.pt 0 0)], [.bx [.fz 5 false 0, .i .i64 1]]⟩, post := ⟨[.sc (.s 0)], [.bx [.fz 5 false 1, .i .i64 2]]⟩, sh := true, cuts := [⟨13, [0, 3, 4, 5], ⟨[.sc (.pt 0 0), .sc (.i .i64 0), .sc (.ow 1), .sc (.i .i64 1)], [.bx [.fz 5 false 2, .i .i64 3], .rw 5 true 4]⟩⟩] }
noncomputable def Lqcd : Option Nat → Lv → Option Lv := Lim Tryz.prog [dqc.sig (Lqc none)] dqcd Tryz.f154
theorem eqcd_i (a0 : Rw) (a1 : Int) : Lqcd none [.l a0, .i a1] =
 (Lqc none [.i 9, .l a0, .i a1]).bind fun y1 =>
 cond ((g y1 0).int == 0) (
 some [.s (⟨#[]⟩ : ByteArray), .l ((g y1 1).list), .i ((g y1 2).int)]) (
 cond ((g y1 0).int == 1) (
 some [.s (⟨#[97, 32, 98]⟩ : ByteArray), .l ((g y1 1).list), .i ((g y1 2).int)]) (
 cond ((g y1 0).int == 2) (
 some [.s (⟨#[37, 45, 10]⟩ : ByteArray), .l ((g y1 1).list), .i ((g y1 2).int)]) (
 cond ((g y1 0).int == 3) (
 some [.s (⟨#[255, 0]⟩ : ByteArray), .l ((g y1 1).list), .i ((g y1 2).int)]) (
 (Lqc none [.i 4, .l ((g y1 1).list), .i ((g y1 2).int)]).bind fun y2 =>
 Lqcd (some 13) [.i ((g y2 0).int), .i 0, .l ((g y2 1).list), .i ((g y2 2).int), .l ([] : Rw)])))) := (zd _ _).trans (by kernel_rfl)
theorem eqcd_13 (a0 a1 : Int) (a2 : Rw) (a3 : Int) (a4 : Rw) : Lqcd (some 13) [.i a0, .i a1, .l a2, .i a3, .l a4] =
 cond (decide (a1 ≤ a0)) (
 (Lqc none [.i 6, .l a2, .i a3]).bind fun y1 =>
 cond (decide (a4.length + ([[.i (IntKind.u8.wrap (IntKind.i64.wrap (97 + (g y1 0).int)))]] : Rw).length ≤ most)) (
 Lqcd (some 13) [.i a0, .i (IntKind.i64.wrap (a1 + 1)), .l ((g y1 1).list), .i ((g y1 2).int), .l (a4 ++ ([[.i (IntKind.u8.wrap (IntKind.i64.wrap (97 + (g y1 0).int)))]] : Rw))]) (
 none)) (
 some [.s (bytesOf a4), .l a2, .i a3]) := (zd _ _).trans (by kernel_rfl)
theorem kqcd : SigOk Tryz.prog (dqcd.sig (Lqcd none)) ∧ (dqcd.sig (Lqcd none)).ok = true := zf (zb kqc (by kernel_rfl) ze) (by kernel_rfl) (by kernel_rfl) (by kernel_rfl)
def dqch : FD := { fn := 75, nb := 1, pre := ⟨[.sc (.pt 0 0)], [.bx [.fz 5 false 0, .i .i64 1]]⟩, post := ⟨[.ag [.i .i64 0, .s 1, .i .i64 2, .s 3, .i .i64 4, .i .i64 5]], [.bx [.fz 5 false 6, .i .i64 7]]⟩, sh := true, cuts := [] }
noncomputable def Lqch : Option Nat → Lv → Option Lv := Lim Tryz.prog [dqc.sig (Lqc none), dqcd.sig (Lqcd none)] dqch Tryz.f75
theorem eqch_i (a0 : Rw) (a1 : Int) : Lqch none [.l a0, .i a1] =
 (Lqcd none [.l a0, .i a1]).bind fun y1 =>
 (Lqc none [.i 8, .l ((g y1 1).list), .i ((g y1 2).int)]).bind fun y2 =>
 (Lqc none [.i 3, .l ((g y2 1).list), .i ((g y2 2).int)]).bind fun y3 =>
 cond (inb ((g y3 0).int) (([[.s (⟨#[112]⟩ : ByteArray)], [.s (⟨#[113]⟩ : ByteArray)], [.s (⟨#[114]⟩ : ByteArray)]] : Rw).length)) (
 (Lqc none [.i 40, .l ((g y3 1).list), .i ((g y3 2).int)]).bind fun y4 =>
 (Lqc none [.i 5, .l ((g y4 1).list), .i ((g y4 2).int)]).bind fun y5 =>
 cond (inb ((g y5 0).int) (([[.i 1], [.i 3], [.i 10], [.i 40], [.i 200]] : Rw).length)) (
 (Lqc none [.i 20, .l ((g y5 1).list), .i ((g y5 2).int)]).bind fun y6 =>
 cond (decide ((g y6 0).int < 7)) (
 some [.i 1, .s ((g y1 0).str), .i ((g y2 0).int), .s ((rd ([[.s (⟨#[112]⟩ : ByteArray)], [.s (⟨#[113]⟩ : ByteArray)], [.s (⟨#[114]⟩ : ByteArray)]] : Rw) (((g y3 0).int).toNat) 0).str), .i ((g y4 0).int), .i ((rd ([[.i 1], [.i 3], [.i 10], [.i 40], [.i 200]] : Rw) (((g y5 0).int).toNat) 0).int), .l ((g y6 1).list), .i ((g y6 2).int)]) (
 cond (decide ((g y6 0).int < 10)) (
 some [.i 2, .s ((g y1 0).str), .i ((g y2 0).int), .s ((rd ([[.s (⟨#[112]⟩ : ByteArray)], [.s (⟨#[113]⟩ : ByteArray)], [.s (⟨#[114]⟩ : ByteArray)]] : Rw) (((g y3 0).int).toNat) 0).str), .i ((g y4 0).int), .i ((rd ([[.i 1], [.i 3], [.i 10], [.i 40], [.i 200]] : Rw) (((g y5 0).int).toNat) 0).int), .l ((g y6 1).list), .i ((g y6 2).int)]) (
 cond ((g y6 0).int == 10) (
 some [.i 3, .s ((g y1 0).str), .i ((g y2 0).int), .s ((rd ([[.s (⟨#[112]⟩ : ByteArray)], [.s (⟨#[113]⟩ : ByteArray)], [.s (⟨#[114]⟩ : ByteArray)]] : Rw) (((g y3 0).int).toNat) 0).str), .i ((g y4 0).int), .i ((rd ([[.i 1], [.i 3], [.i 10], [.i 40], [.i 200]] : Rw) (((g y5 0).int).toNat) 0).int), .l ((g y6 1).list), .i ((g y6 2).int)]) (
 cond ((g y6 0).int == 11) (
 some [.i 4, .s ((g y1 0).str), .i ((g y2 0).int), .s ((rd ([[.s (⟨#[112]⟩ : ByteArray)], [.s (⟨#[113]⟩ : ByteArray)], [.s (⟨#[114]⟩ : ByteArray)]] : Rw) (((g y3 0).int).toNat) 0).str), .i ((g y4 0).int), .i ((rd ([[.i 1], [.i 3], [.i 10], [.i 40], [.i 200]] : Rw) (((g y5 0).int).toNat) 0).int), .l ((g y6 1).list), .i ((g y6 2).int)]) (
 cond ((g y6 0).int == 12) (
 some [.i 5, .s ((g y1 0).str), .i ((g y2 0).int), .s ((rd ([[.s (⟨#[112]⟩ : ByteArray)], [.s (⟨#[113]⟩ : ByteArray)], [.s (⟨#[114]⟩ : ByteArray)]] : Rw) (((g y3 0).int).toNat) 0).str), .i ((g y4 0).int), .i ((rd ([[.i 1], [.i 3], [.i 10], [.i 40], [.i 200]] : Rw) (((g y5 0).int).toNat) 0).int), .l ((g y6 1).list), .i ((g y6 2).int)]) (
 cond (decide ((g y6 0).int < 15)) (
 some [.i 6, .s ((g y1 0).str), .i ((g y2 0).int), .s ((rd ([[.s (⟨#[112]⟩ : ByteArray)], [.s (⟨#[113]⟩ : ByteArray)], [.s (⟨#[114]⟩ : ByteArray)]] : Rw) (((g y3 0).int).toNat) 0).str), .i ((g y4 0).int), .i ((rd ([[.i 1], [.i 3], [.i 10], [.i 40], [.i 200]] : Rw) (((g y5 0).int).toNat) 0).int), .l ((g y6 1).list), .i ((g y6 2).int)]) (
 cond ((g y6 0).int == 15) (
 some [.i 8, .s ((g y1 0).str), .i ((g y2 0).int), .s ((rd ([[.s (⟨#[112]⟩ : ByteArray)], [.s (⟨#[113]⟩ : ByteArray)], [.s (⟨#[114]⟩ : ByteArray)]] : Rw) (((g y3 0).int).toNat) 0).str), .i ((g y4 0).int), .i ((rd ([[.i 1], [.i 3], [.i 10], [.i 40], [.i 200]] : Rw) (((g y5 0).int).toNat) 0).int), .l ((g y6 1).list), .i ((g y6 2).int)]) (
 cond ((g y6 0).int == 16) (
 some [.i 9, .s ((g y1 0).str), .i ((g y2 0).int), .s ((rd ([[.s (⟨#[112]⟩ : ByteArray)], [.s (⟨#[113]⟩ : ByteArray)], [.s (⟨#[114]⟩ : ByteArray)]] : Rw) (((g y3 0).int).toNat) 0).str), .i ((g y4 0).int), .i ((rd ([[.i 1], [.i 3], [.i 10], [.i 40], [.i 200]] : Rw) (((g y5 0).int).toNat) 0).int), .l ((g y6 1).list), .i ((g y6 2).int)]) (
 some [.i 10, .s ((g y1 0).str), .i ((g y2 0).int), .s ((rd ([[.s (⟨#[112]⟩ : ByteArray)], [.s (⟨#[113]⟩ : ByteArray)], [.s (⟨#[114]⟩ : ByteArray)]] : Rw) (((g y3 0).int).toNat) 0).str), .i ((g y4 0).int), .i ((rd ([[.i 1], [.i 3], [.i 10], [.i 40], [.i 200]] : Rw) (((g y5 0).int).toNat) 0).int), .l ((g y6 1).list), .i ((g y6 2).int)]))))))))) (
 none)) (
 none) := (zd _ _).trans (by kernel_rfl)
theorem kqch : SigOk Tryz.prog (dqch.sig (Lqch none)) ∧ (dqch.sig (Lqch none)).ok = true := zf (zb kqc (by kernel_rfl) (zb kqcd (by kernel_rfl) ze)) (by kernel_rfl) (by kernel_rfl) (by kernel_rfl)
def dqm : FD := { fn := 76, nb := 0, pre := ⟨[.sc (.fz 9 false 0)], []⟩, post := ⟨[.sc (.ow 0)], [.rw 9 true 0]⟩, sh := false, cuts := [⟨3, [0, 3, 4], ⟨[.sc (.fz 9 false 0), .sc (.ow 0), .sc (.i .i64 1)], [.rw 9 true 2]⟩⟩, ⟨6, [0, 3, 4, 5], ⟨[.sc (.fz 9 false 0), .sc (.ow 0), .sc (.i .i64 1), .sc (.i .i64 2)], [.rw 9 true 3]⟩⟩, ⟨9, [0, 3, 4, 5], ⟨[.sc (.fz 9 false 0), .sc (.ow 0), .sc (.i .i64 1), .sc (.i .i64 2)], [.rw 9 true 3]⟩⟩] }
noncomputable def Lqm : Option Nat → Lv → Option Lv := Lim Tryz.prog [] dqm Tryz.f76
theorem eqm_i (a0 : Rw) : Lqm none [.l a0] =
 Lqm (some 3) [.l a0, .i 0, .l ([] : Rw)] := (zd _ _).trans (by kernel_rfl)
theorem eqm_3 (a0 : Rw) (a1 : Int) (a2 : Rw) : Lqm (some 3) [.l a0, .i a1, .l a2] =
 cond (decide (a1 < (a0.length : Int))) (
 Lqm (some 6) [.l a0, .i a1, .i 0, .l a2]) (
 some [.l a2]) := (zd _ _).trans (by kernel_rfl)
theorem eqm_6 (a0 : Rw) (a1 a2 : Int) (a3 : Rw) : Lqm (some 6) [.l a0, .i a1, .i a2, .l a3] =
 cond (decide (a2 < (a3.length : Int))) (
 cond (inb a2 a3.length) (
 cond (inb a1 a0.length) (
 cond (slt ((rd a3 a2.toNat 0).str) ((rd a0 a1.toNat 0).str)) (
 Lqm (some 6) [.l a0, .i a1, .i (IntKind.i64.wrap (a2 + 1)), .l a3]) (
 cond (decide (a2 < (a3.length : Int))) (
 cond (inb a2 a3.length) (
 cond (inb a1 a0.length) (
 cond (Eng.seq ((rd a3 a2.toNat 0).str) ((rd a0 a1.toNat 0).str)) (
 Lqm (some 3) [.l a0, .i (IntKind.i64.wrap (a1 + 1)), .l a3]) (
 Lqm (some 9) [.l a0, .i a1, .i a2, .l a3])) (
 none)) (
 none)) (
 Lqm (some 9) [.l a0, .i a1, .i a2, .l a3]))) (
 none)) (
 none)) (
 cond (decide (a2 < (a3.length : Int))) (
 cond (inb a2 a3.length) (
 cond (inb a1 a0.length) (
 cond (Eng.seq ((rd a3 a2.toNat 0).str) ((rd a0 a1.toNat 0).str)) (
 Lqm (some 3) [.l a0, .i (IntKind.i64.wrap (a1 + 1)), .l a3]) (
 Lqm (some 9) [.l a0, .i a1, .i a2, .l a3])) (
 none)) (
 none)) (
 Lqm (some 9) [.l a0, .i a1, .i a2, .l a3])) := (zd _ _).trans (by kernel_rfl)
theorem eqm_9 (a0 : Rw) (a1 a2 : Int) (a3 : Rw) : Lqm (some 9) [.l a0, .i a1, .i a2, .l a3] =
 cond (decide (0 ≤ a2)) (
 cond (decide (a2 ≤ (a3.length : Int))) (
 cond (decide (([] : Rw).length + (Eng.sub a3 0 a2.toNat).length ≤ most)) (
 cond (inb a1 a0.length) (
 cond (decide ((([] : Rw) ++ (Eng.sub a3 0 a2.toNat)).length + ([[.s ((rd a0 a1.toNat 0).str)]] : Rw).length ≤ most)) (
 cond (decide (0 ≤ a2)) (
 cond (decide (a2 ≤ (a3.length : Int))) (
 cond (decide (((([] : Rw) ++ (Eng.sub a3 0 a2.toNat)) ++ ([[.s ((rd a0 a1.toNat 0).str)]] : Rw)).length + (Eng.sub a3 a2.toNat a3.length).length ≤ most)) (
 Lqm (some 3) [.l a0, .i (IntKind.i64.wrap (a1 + 1)), .l (((([] : Rw) ++ (Eng.sub a3 0 a2.toNat)) ++ ([[.s ((rd a0 a1.toNat 0).str)]] : Rw)) ++ (Eng.sub a3 a2.toNat a3.length))]) (
 none)) (
 none)) (
 none)) (
 none)) (
 none)) (
 none)) (
 none)) (
 none) := (zd _ _).trans (by kernel_rfl)
theorem kqm : SigOk Tryz.prog (dqm.sig (Lqm none)) ∧ (dqm.sig (Lqm none)).ok = true := zf ze (by kernel_rfl) (by kernel_rfl) (by kernel_rfl)
end KV
end
section
set_option maxRecDepth 100000
namespace KV
open Go Go.Eng Go.Proofs
def dqbd : FD := { fn := 16, nb := 0, pre := ⟨[.ag [.i .i64 0, .s 1, .i .i64 2, .s 3, .i .i64 4, .i .i64 5], .ag [.i .i64 6, .i .i64 7, .i .i64 8, .i .i64 9, .fz 90 false 10, .fz 156 false 11, .fz 158 false 12]], []⟩, post := ⟨[.ag [.s 0, .ow 0]], [.rw 9 true 1]⟩, sh := false, cuts := [⟨5, [2, 3, 4, 5, 6, 7], ⟨[.sc (.pt 0 0), .sc (.pt 1 0), .sc (.pt 2 0), .sc (.pt 3 0), .sc (.ow 4), .sc (.i .i64 0)], [.bx [.i .i64 1, .s 2, .i .i64 3, .s 4, .i .i64 5, .i .i64 6], .bx [.i .i64 7, .i .i64 8, .i .i64 9, .i .i64 10, .fz 90 false 11, .fz 156 false 12, .fz 158 false 13], .bx [.s 14, .ow 5], .bx [.s 15, .ow 6], .rw 9 true 16, .rw 9 true 17, .rw 9 true 18]⟩⟩] }
noncomputable def Lqbd : Option Nat → Lv → Option Lv := Lim Tryz.prog [dqm.sig (Lqm none)] dqbd Tryz.f16
theorem eqbd_i (a0 : Int) (a1 : ByteArray) (a2 : Int) (a3 : ByteArray) (a4 a5 a6 a7 a8 a9 : Int) (a10 a11 a12 : Rw) : Lqbd none [.i a0, .s a1, .i a2, .s a3, .i a4, .i a5, .i a6, .i a7, .i a8, .i a9, .l a10, .l a11, .l a12] =
 cond (decide (0 < (a10.length : Int))) (
 Lqbd (some 5) [.i 0, .i a0, .s a1, .i a2, .s a3, .i a4, .i a5, .i a6, .i a7, .i a8, .i a9, .l a10, .l a11, .l a12, .s (⟨#[]⟩ : ByteArray), .s a1, .l ([] : Rw), .l [], .l []]) (
 (Lqm none [.l ([] : Rw)]).bind fun y1 =>
 some [.s a1, .l ((g y1 0).list)]) := (zd _ _).trans (by kernel_rfl)
theorem eqbd_5 (a0 a1 : Int) (a2 : ByteArray) (a3 : Int) (a4 : ByteArray) (a5 a6 a7 a8 a9 a10 : Int) (a11 a12 a13 : Rw) (a14 a15 : ByteArray) (a16 a17 a18 : Rw) : Lqbd (some 5) [.i a0, .i a1, .s a2, .i a3, .s a4, .i a5, .i a6, .i a7, .i a8, .i a9, .i a10, .l a11, .l a12, .l a13, .s a14, .s a15, .l a16, .l a17, .l a18] =
 cond (decide (a0 < (IntKind.i64.wrap (a3.tdiv 2)))) (
 cond (decide (a0 < 4)) (
 cond ((a11.length : Int) != 0) (
 cond (inb ((IntKind.i64.wrap (a5 + (IntKind.i64.wrap (5 * a0)))).tmod (a11.length : Int)) a11.length) (
 cond (decide (a16.length + ([[.s ((rd a11 (((IntKind.i64.wrap (a5 + (IntKind.i64.wrap (5 * a0)))).tmod (a11.length : Int)).toNat) 0).str)]] : Rw).length ≤ most)) (
 Lqbd (some 5) [.i (IntKind.i64.wrap (a0 + 1)), .i a1, .s a2, .i a3, .s a4, .i a5, .i a6, .i a7, .i a8, .i a9, .i a10, .l a11, .l a12, .l a13, .s a14, .s a15, .l (a16 ++ ([[.s ((rd a11 (((IntKind.i64.wrap (a5 + (IntKind.i64.wrap (5 * a0)))).tmod (a11.length : Int)).toNat) 0).str)]] : Rw)), .l a17, .l a18]) (
 none)) (
 none)) (
 none)) (
 (Lqm none [.l a16]).bind fun y1 =>
 some [.s a15, .l ((g y1 0).list)])) (
 (Lqm none [.l a16]).bind fun y2 =>
 some [.s a15, .l ((g y2 0).list)]) := (zd _ _).trans (by kernel_rfl)
theorem kqbd : SigOk Tryz.prog (dqbd.sig (Lqbd none)) ∧ (dqbd.sig (Lqbd none)).ok = true := zf (zb kqm (by kernel_rfl) ze) (by kernel_rfl) (by kernel_rfl) (by kernel_rfl)
def dqb2 : FD := { fn := 77, nb := 0, pre := ⟨[.ag [.i .i64 0, .s 1, .i .i64 2, .s 3, .i .i64 4, .i .i64 5], .ag [.i .i64 6, .i .i64 7, .i .i64 8, .i .i64 9, .fz 90 false 10, .fz 156 false 11, .fz 158 false 12]], []⟩, post := ⟨[.sc (.s 0)], []⟩, sh := false, cuts := [] }
noncomputable def Lqb2 : Option Nat → Lv → Option Lv := Lim Tryz.prog [dqf.sig (Lqf none)] dqb2 Tryz.f77
theorem eqb2_i (a0 : Int) (a1 : ByteArray) (a2 : Int) (a3 : ByteArray) (a4 a5 a6 a7 a8 a9 : Int) (a10 a11 a12 : Rw) : Lqb2 none [.i a0, .s a1, .i a2, .s a3, .i a4, .i a5, .i a6, .i a7, .i a8, .i a9, .l a10, .l a11, .l a12] =
 cond ((a10.length : Int) == 0) (
 (Lqf none [.s (⟨#[110, 111, 110, 101]⟩ : ByteArray), .i a6]).bind fun y1 =>
 some [.s ((g y1 0).str)]) (
 cond ((a10.length : Int) != 0) (
 cond (inb (a4.tmod (a10.length : Int)) a10.length) (
 some [.s ((rd a10 ((a4.tmod (a10.length : Int)).toNat) 0).str)]) (
 none)) (
 none)) := (zd _ _).trans (by kernel_rfl)
theorem kqb2 : SigOk Tryz.prog (dqb2.sig (Lqb2 none)) ∧ (dqb2.sig (Lqb2 none)).ok = true := zf (zb kqf (by kernel_rfl) ze) (by kernel_rfl) (by kernel_rfl) (by kernel_rfl)
def dqcf : FD := { fn := 81, nb := 0, pre := ⟨[.ag [.i .i64 0, .s 1, .i .i64 2, .s 3, .i .i64 4, .i .i64 5], .ag [.i .i64 6, .i .i64 7, .i .i64 8, .i .i64 9, .fz 90 false 10, .fz 156 false 11, .fz 158 false 12]], []⟩, post := ⟨[.sc (.i .i64 0)], []⟩, sh := false, cuts := [] }
noncomputable def Lqcf : Option Nat → Lv → Option Lv := Lim Tryz.prog [] dqcf Tryz.f81
theorem eqcf_i (a0 : Int) (a1 : ByteArray) (a2 : Int) (a3 : ByteArray) (a4 a5 a6 a7 a8 a9 : Int) (a10 a11 a12 : Rw) : Lqcf none [.i a0, .s a1, .i a2, .s a3, .i a4, .i a5, .i a6, .i a7, .i a8, .i a9, .l a10, .l a11, .l a12] =
 cond ((a12.length : Int) == 0) (
 some [.i (IntKind.i64.wrap (1 + a4))]) (
 cond ((a12.length : Int) != 0) (
 cond (inb (a4.tmod (a12.length : Int)) a12.length) (
 some [.i ((rd a12 ((a4.tmod (a12.length : Int)).toNat) 0).int)]) (
 none)) (
 none)) := (zd _ _).trans (by kernel_rfl)
theorem kqcf : SigOk Tryz.prog (dqcf.sig (Lqcf none)) ∧ (dqcf.sig (Lqcf none)).ok = true := zf ze (by kernel_rfl) (by kernel_rfl) (by kernel_rfl)
def dqci : FD := { fn := 150, nb := 0, pre := ⟨[.sc (.i .i64 0)], []⟩, post := ⟨[.tu [(false, [.b 0]), (false, [.b 1]), (false, [.i .i64 2]), (false, [.b 3])]], []⟩, sh := false, cuts := [] }
noncomputable def Lqci : Option Nat → Lv → Option Lv := Lim Tryz.prog [] dqci Tryz.f150
theorem eqci_i (a0 : Int) : Lqci none [.i a0] =
 cond (a0 == 1) (
 some [.b false, .b false, .i 1, .b true]) (
 cond (a0 == 2) (
 some [.b true, .b true, .i 0, .b false]) (
 cond (a0 == 3) (
 some [.b false, .b true, .i 0, .b false]) (
 cond (a0 == 4) (
 some [.b true, .b false, .i 1, .b false]) (
 cond (a0 == 5) (
 some [.b false, .b false, .i 2, .b false]) (
 cond (a0 == 6) (
 some [.b false, .b false, .i 1, .b false]) (
 cond (a0 == 7) (
 some [.b true, .b false, .i 0, .b false]) (
 some [.b false, .b false, .i 0, .b false]))))))) := (zd _ _).trans (by kernel_rfl)
theorem kqci : SigOk Tryz.prog (dqci.sig (Lqci none)) ∧ (dqci.sig (Lqci none)).ok = true := zf ze (by kernel_rfl) (by kernel_rfl) (by kernel_rfl)
def dqcp : FD := { fn := 174, nb := 1, pre := ⟨[.sc (.pt 0 0)], [.bx [.fz 5 false 0, .i .i64 1]]⟩, post := ⟨[.sc (.i .i64 0)], [.bx [.fz 5 false 1, .i .i64 2]]⟩, sh := true, cuts := [] }
noncomputable def Lqcp : Option Nat → Lv → Option Lv := Lim Tryz.prog [dqc.sig (Lqc none)] dqcp Tryz.f174
theorem eqcp_i (a0 : Rw) (a1 : Int) : Lqcp none [.l a0, .i a1] =
 (Lqc none [.i 8, .l a0, .i a1]).bind fun y1 =>
 cond (decide ((g y1 0).int < 2)) (
 some [.i 1, .l ((g y1 1).list), .i ((g y1 2).int)]) (
 cond ((g y1 0).int == 2) (
 some [.i 2, .l ((g y1 1).list), .i ((g y1 2).int)]) (
 some [.i 8, .l ((g y1 1).list), .i ((g y1 2).int)])) := (zd _ _).trans (by kernel_rfl)
theorem kqcp : SigOk Tryz.prog (dqcp.sig (Lqcp none)) ∧ (dqcp.sig (Lqcp none)).ok = true := zf (zb kqc (by kernel_rfl) ze) (by kernel_rfl) (by kernel_rfl) (by kernel_rfl)
def dq0 : FD := { fn := 92, nb := 0, pre := ⟨[.ag [.s 0, .fz 9 false 1], .sc (.i .i64 2)], []⟩, post := ⟨[.sc (.b 0)], []⟩, sh := false, cuts := [⟨4, [1, 2, 5], ⟨[.sc (.i .i64 0), .sc (.pt 0 0), .sc (.i .i64 1)], [.bx [.s 2, .fz 9 false 3]]⟩⟩] }
noncomputable def Lq0 : Option Nat → Lv → Option Lv := Lim Tryz.prog [dqi.sig (Lqi none)] dq0 Tryz.f92
theorem eq0_i (a0 : ByteArray) (a1 : Rw) (a2 : Int) : Lq0 none [.s a0, .l a1, .i a2] =
 (Lqi none [.i a2]).bind fun y1 =>
 cond (!(g y1 0).bool) (
 some [.b false]) (
 cond (decide (2000 < (a0.size : Int))) (
 some [.b false]) (
 cond (decide (30 < (a1.length : Int))) (
 some [.b false]) (
 Lq0 (some 4) [.i a2, .i 0, .s a0, .l a1]))) := (zd _ _).trans (by kernel_rfl)
theorem eq0_4 (a0 a1 : Int) (a2 : ByteArray) (a3 : Rw) : Lq0 (some 4) [.i a0, .i a1, .s a2, .l a3] =
 cond (decide (a1 < (a3.length : Int))) (
 cond (inb a1 a3.length) (
 cond ((((rd a3 a1.toNat 0).str).size : Int) != a0) (
 some [.b false]) (
 cond (decide (0 < a1)) (
 cond (inb (IntKind.i64.wrap (a1 - 1)) a3.length) (
 cond (inb a1 a3.length) (
 cond (!slt ((rd a3 ((IntKind.i64.wrap (a1 - 1)).toNat) 0).str) ((rd a3 a1.toNat 0).str)) (
 some [.b false]) (
 Lq0 (some 4) [.i a0, .i (IntKind.i64.wrap (a1 + 1)), .s a2, .l a3])) (
 none)) (
 none)) (
 Lq0 (some 4) [.i a0, .i (IntKind.i64.wrap (a1 + 1)), .s a2, .l a3]))) (
 none)) (
 some [.b true]) := (zd _ _).trans (by kernel_rfl)
theorem kq0 : SigOk Tryz.prog (dq0.sig (Lq0 none)) ∧ (dq0.sig (Lq0 none)).ok = true := zf (zb kqi (by kernel_rfl) ze) (by kernel_rfl) (by kernel_rfl) (by kernel_rfl)
def dqbe : FD := { fn := 127, nb := 0, pre := ⟨[.sc (.s 0)], []⟩, post := ⟨[.sc (.b 0)], []⟩, sh := false, cuts := [⟨2, [0, 3], ⟨[.sc (.s 0), .sc (.i .i64 1)], []⟩⟩] }
noncomputable def Lqbe : Option Nat → Lv → Option Lv := Lim Tryz.prog [] dqbe Tryz.f127
theorem eqbe_i (a0 : ByteArray) : Lqbe none [.s a0] =
 Lqbe (some 2) [.s a0, .i 0] := (zd _ _).trans (by kernel_rfl)
theorem eqbe_2 (a0 : ByteArray) (a1 : Int) : Lqbe (some 2) [.s a0, .i a1] =
 cond (decide (a1 < (a0.size : Int))) (
 cond (inb a1 a0.size) (
 cond (decide ((byteAt a0 a1.toNat) < 33)) (
 some [.b false]) (
 cond (inb a1 a0.size) (
 cond (decide (126 < (byteAt a0 a1.toNat))) (
 some [.b false]) (
 Lqbe (some 2) [.s a0, .i (IntKind.i64.wrap (a1 + 1))])) (
 none))) (
 none)) (
 cond (decide (1 ≤ (a0.size : Int))) (
 some [.b (decide ((a0.size : Int) ≤ 40))]) (
 some [.b false])) := (zd _ _).trans (by kernel_rfl)
theorem kqbe : SigOk Tryz.prog (dqbe.sig (Lqbe none)) ∧ (dqbe.sig (Lqbe none)).ok = true := zf ze (by kernel_rfl) (by kernel_rfl) (by kernel_rfl)
def dqcj : FD := { fn := 204, nb := 0, pre := ⟨[.sc (.i .i64 0), .sc (.i .i64 1)], []⟩, post := ⟨[.sc (.b 0)], []⟩, sh := false, cuts := [] }
noncomputable def Lqcj : Option Nat → Lv → Option Lv := Lim Tryz.prog [] dqcj Tryz.f204
theorem eqcj_i (a0 a1 : Int) : Lqcj none [.i a0, .i a1] =
 cond (a1 == 1) (
 cond (decide (1 ≤ a0)) (
 some [.b (decide (a0 ≤ 100000))]) (
 some [.b false])) (
 cond (a1 == 2) (
 cond (decide (1 ≤ a0)) (
 some [.b (decide (a0 ≤ 1000000000))]) (
 some [.b false])) (
 some [.b (a0 == 0)])) := (zd _ _).trans (by kernel_rfl)
theorem kqcj : SigOk Tryz.prog (dqcj.sig (Lqcj none)) ∧ (dqcj.sig (Lqcj none)).ok = true := zf ze (by kernel_rfl) (by kernel_rfl) (by kernel_rfl)
def dqn : FD := { fn := 152, nb := 0, pre := ⟨[.ag [.i .i64 0, .s 1, .s 2, .i .i64 3, .s 4, .fz 9 false 5], .sc (.i .i64 6)], []⟩, post := ⟨[.sc (.b 0)], []⟩, sh := false, cuts := [⟨6, [1, 2, 6, 8], ⟨[.sc (.i .i64 0), .sc (.pt 0 0), .sc (.b 1), .sc (.b 2)], [.bx [.i .i64 3, .s 4, .s 5, .i .i64 6, .s 7, .fz 9 false 8]]⟩⟩, ⟨8, [1, 2, 8], ⟨[.sc (.i .i64 0), .sc (.pt 0 0), .sc (.b 1)], [.bx [.i .i64 2, .s 3, .s 4, .i .i64 5, .s 6, .fz 9 false 7]]⟩⟩] }
noncomputable def Lqn : Option Nat → Lv → Option Lv := Lim Tryz.prog [dqi.sig (Lqi none), dq0.sig (Lq0 none), dqbe.sig (Lqbe none), dqci.sig (Lqci none), dqcj.sig (Lqcj none)] dqn Tryz.f152
theorem eqn_i (a0 : Int) (a1 a2 : ByteArray) (a3 : Int) (a4 : ByteArray) (a5 : Rw) (a6 : Int) : Lqn none [.i a0, .s a1, .s a2, .i a3, .s a4, .l a5, .i a6] =
 (Lqi none [.i a6]).bind fun y1 =>
 cond (!(g y1 0).bool) (
 some [.b false]) (
 cond (decide (a0 < 1)) (
 some [.b false]) (
 cond (decide (7 < a0)) (
 some [.b false]) (
 (Lqci none [.i a0]).bind fun y2 =>
 cond ((g y2 0).bool) (
 cond ((a1.size : Int) != a6) (
 some [.b false]) (
 cond (!(g y2 0).bool) (
 cond (!Eng.seq a1 (⟨#[]⟩ : ByteArray)) (
 some [.b false]) (
 (Lqcj none [.i a3, .i ((g y2 2).int)]).bind fun y3 =>
 cond (!(g y3 0).bool) (
 some [.b false]) (
 Lqn (some 6) [.i a6, .b ((g y2 1).bool), .b ((g y2 3).bool), .i a0, .s a1, .s a2, .i a3, .s a4, .l a5]))) (
 (Lqcj none [.i a3, .i ((g y2 2).int)]).bind fun y4 =>
 cond (!(g y4 0).bool) (
 some [.b false]) (
 Lqn (some 6) [.i a6, .b ((g y2 1).bool), .b ((g y2 3).bool), .i a0, .s a1, .s a2, .i a3, .s a4, .l a5])))) (
 cond (!(g y2 0).bool) (
 cond (!Eng.seq a1 (⟨#[]⟩ : ByteArray)) (
 some [.b false]) (
 (Lqcj none [.i a3, .i ((g y2 2).int)]).bind fun y5 =>
 cond (!(g y5 0).bool) (
 some [.b false]) (
 Lqn (some 6) [.i a6, .b ((g y2 1).bool), .b ((g y2 3).bool), .i a0, .s a1, .s a2, .i a3, .s a4, .l a5]))) (
 (Lqcj none [.i a3, .i ((g y2 2).int)]).bind fun y6 =>
 cond (!(g y6 0).bool) (
 some [.b false]) (
 Lqn (some 6) [.i a6, .b ((g y2 1).bool), .b ((g y2 3).bool), .i a0, .s a1, .s a2, .i a3, .s a4, .l a5])))))) := (zd _ _).trans (by kernel_rfl)
theorem eqn_6 (a0 : Int) (a1 a2 : Bool) (a3 : Int) (a4 a5 : ByteArray) (a6 : Int) (a7 : ByteArray) (a8 : Rw) : Lqn (some 6) [.i a0, .b a1, .b a2, .i a3, .s a4, .s a5, .i a6, .s a7, .l a8] =
 cond a1 (
 (Lqbe none [.s a5]).bind fun y1 =>
 cond (!(g y1 0).bool) (
 some [.b false]) (
 cond (!a1) (
 cond (!Eng.seq a5 (⟨#[]⟩ : ByteArray)) (
 some [.b false]) (
 Lqn (some 8) [.i a0, .b a2, .i a3, .s a4, .s a5, .i a6, .s a7, .l a8])) (
 Lqn (some 8) [.i a0, .b a2, .i a3, .s a4, .s a5, .i a6, .s a7, .l a8]))) (
 cond (!a1) (
 cond (!Eng.seq a5 (⟨#[]⟩ : ByteArray)) (
 some [.b false]) (
 Lqn (some 8) [.i a0, .b a2, .i a3, .s a4, .s a5, .i a6, .s a7, .l a8])) (
 Lqn (some 8) [.i a0, .b a2, .i a3, .s a4, .s a5, .i a6, .s a7, .l a8])) := (zd _ _).trans (by kernel_rfl)
theorem eqn_8 (a0 : Int) (a1 : Bool) (a2 : Int) (a3 a4 : ByteArray) (a5 : Int) (a6 : ByteArray) (a7 : Rw) : Lqn (some 8) [.i a0, .b a1, .i a2, .s a3, .s a4, .i a5, .s a6, .l a7] =
 cond a1 (
 (Lq0 none [.s a6, .l a7, .i a0]).bind fun y1 =>
 some [.b ((g y1 0).bool)]) (
 cond (Eng.seq a6 (⟨#[]⟩ : ByteArray)) (
 some [.b ((a7.length : Int) == 0)]) (
 some [.b false])) := (zd _ _).trans (by kernel_rfl)
theorem kqn : SigOk Tryz.prog (dqn.sig (Lqn none)) ∧ (dqn.sig (Lqn none)).ok = true := zf (zb kqi (by kernel_rfl) (zb kq0 (by kernel_rfl) (zb kqbe (by kernel_rfl) (zb kqci (by kernel_rfl) (zb kqcj (by kernel_rfl) ze))))) (by kernel_rfl) (by kernel_rfl) (by kernel_rfl)
def dqr : FD := { fn := 22, nb := 0, pre := ⟨[.ag [.s 0, .fz 9 false 1], .sc (.i .i64 2)], []⟩, post := ⟨[.sc (.s 0)], []⟩, sh := false, cuts := [⟨5, [2, 5, 6], ⟨[.sc (.pt 0 0), .sc (.ow 1), .sc (.i .i64 0)], [.bx [.s 1, .fz 9 false 2], .rw 5 true 3]⟩⟩] }
noncomputable def Lqr : Option Nat → Lv → Option Lv := Lim Tryz.prog [dq0.sig (Lq0 none)] dqr Tryz.f22
theorem eqr_i (a0 : ByteArray) (a1 : Rw) (a2 : Int) : Lqr none [.s a0, .l a1, .i a2] =
 (Lq0 none [.s a0, .l a1, .i a2]).bind fun y1 =>
 cond (!(g y1 0).bool) (
 some [.s (⟨#[]⟩ : ByteArray)]) (
 Lqr (some 5) [.i 0, .s a0, .l a1, .l ([[.i (IntKind.u8.wrap (a1.length : Int))]] : Rw)]) := (zd _ _).trans (by kernel_rfl)
theorem eqr_5 (a0 : Int) (a1 : ByteArray) (a2 a3 : Rw) : Lqr (some 5) [.i a0, .s a1, .l a2, .l a3] =
 cond (decide (a0 < (a2.length : Int))) (
 cond (inb a0 a2.length) (
 cond (decide (a3.length + (rowsOf ((rd a2 a0.toNat 0).str)).length ≤ most)) (
 Lqr (some 5) [.i (IntKind.i64.wrap (a0 + 1)), .s a1, .l a2, .l (a3 ++ (rowsOf ((rd a2 a0.toNat 0).str)))]) (
 none)) (
 none)) (
 cond (decide (a3.length + (rowsOf a1).length ≤ most)) (
 some [.s (bytesOf (a3 ++ (rowsOf a1)))]) (
 none)) := (zd _ _).trans (by kernel_rfl)
theorem kqr : SigOk Tryz.prog (dqr.sig (Lqr none)) ∧ (dqr.sig (Lqr none)).ok = true := zf (zb kq0 (by kernel_rfl) ze) (by kernel_rfl) (by kernel_rfl) (by kernel_rfl)
def dqbi : FD := { fn := 158, nb := 0, pre := ⟨[.ag [.i .i64 0, .s 1, .s 2, .i .i64 3, .s 4, .fz 9 false 5], .sc (.i .i64 6)], []⟩, post := ⟨[.sc (.s 0)], []⟩, sh := false, cuts := [] }
noncomputable def Lqbi : Option Nat → Lv → Option Lv := Lim Tryz.prog [dqr.sig (Lqr none), dqn.sig (Lqn none)] dqbi Tryz.f158
theorem eqbi_i (a0 : Int) (a1 a2 : ByteArray) (a3 : Int) (a4 : ByteArray) (a5 : Rw) (a6 : Int) : Lqbi none [.i a0, .s a1, .s a2, .i a3, .s a4, .l a5, .i a6] =
 (Lqn none [.i a0, .s a1, .s a2, .i a3, .s a4, .l a5, .i a6]).bind fun y1 =>
 cond (!(g y1 0).bool) (
 some [.s (⟨#[]⟩ : ByteArray)]) (
 cond (decide (([[.i (IntKind.u8.wrap a0)], [.i (IntKind.u8.wrap (IntKind.i64.wrap (a3.tdiv 16777216)))], [.i (IntKind.u8.wrap ((IntKind.i64.wrap (a3.tdiv 65536)).tmod 256))], [.i (IntKind.u8.wrap ((IntKind.i64.wrap (a3.tdiv 256)).tmod 256))], [.i (IntKind.u8.wrap (a3.tmod 256))], [.i (IntKind.u8.wrap (a2.size : Int))]] : Rw).length + (rowsOf a2).length ≤ most)) (
 cond (decide ((([[.i (IntKind.u8.wrap a0)], [.i (IntKind.u8.wrap (IntKind.i64.wrap (a3.tdiv 16777216)))], [.i (IntKind.u8.wrap ((IntKind.i64.wrap (a3.tdiv 65536)).tmod 256))], [.i (IntKind.u8.wrap ((IntKind.i64.wrap (a3.tdiv 256)).tmod 256))], [.i (IntKind.u8.wrap (a3.tmod 256))], [.i (IntKind.u8.wrap (a2.size : Int))]] : Rw) ++ (rowsOf a2)).length + (rowsOf a1).length ≤ most)) (
 cond (a0 == 1) (
 (Lqr none [.s a4, .l a5, .i a6]).bind fun y2 =>
 cond (decide (((([[.i (IntKind.u8.wrap a0)], [.i (IntKind.u8.wrap (IntKind.i64.wrap (a3.tdiv 16777216)))], [.i (IntKind.u8.wrap ((IntKind.i64.wrap (a3.tdiv 65536)).tmod 256))], [.i (IntKind.u8.wrap ((IntKind.i64.wrap (a3.tdiv 256)).tmod 256))], [.i (IntKind.u8.wrap (a3.tmod 256))], [.i (IntKind.u8.wrap (a2.size : Int))]] : Rw) ++ (rowsOf a2)) ++ (rowsOf a1)).length + (rowsOf ((g y2 0).str)).length ≤ most)) (
 some [.s (bytesOf (((([[.i (IntKind.u8.wrap a0)], [.i (IntKind.u8.wrap (IntKind.i64.wrap (a3.tdiv 16777216)))], [.i (IntKind.u8.wrap ((IntKind.i64.wrap (a3.tdiv 65536)).tmod 256))], [.i (IntKind.u8.wrap ((IntKind.i64.wrap (a3.tdiv 256)).tmod 256))], [.i (IntKind.u8.wrap (a3.tmod 256))], [.i (IntKind.u8.wrap (a2.size : Int))]] : Rw) ++ (rowsOf a2)) ++ (rowsOf a1)) ++ (rowsOf ((g y2 0).str))))]) (
 none)) (
 some [.s (bytesOf ((([[.i (IntKind.u8.wrap a0)], [.i (IntKind.u8.wrap (IntKind.i64.wrap (a3.tdiv 16777216)))], [.i (IntKind.u8.wrap ((IntKind.i64.wrap (a3.tdiv 65536)).tmod 256))], [.i (IntKind.u8.wrap ((IntKind.i64.wrap (a3.tdiv 256)).tmod 256))], [.i (IntKind.u8.wrap (a3.tmod 256))], [.i (IntKind.u8.wrap (a2.size : Int))]] : Rw) ++ (rowsOf a2)) ++ (rowsOf a1)))])) (
 none)) (
 none)) := (zd _ _).trans (by kernel_rfl)
theorem kqbi : SigOk Tryz.prog (dqbi.sig (Lqbi none)) ∧ (dqbi.sig (Lqbi none)).ok = true := zf (zb kqr (by kernel_rfl) (zb kqn (by kernel_rfl) ze)) (by kernel_rfl) (by kernel_rfl) (by kernel_rfl)
def dqb3 : FD := { fn := 176, nb := 0, pre := ⟨[.sc (.s 0), .sc (.i .i64 1)], []⟩, post := ⟨[.tu [(true, [.s 0, .ow 0]), (false, [.b 1])]], [.rw 9 true 2]⟩, sh := false, cuts := [⟨6, [0, 1, 4, 6, 7, 8], ⟨[.sc (.s 0), .sc (.i .i64 1), .sc (.pt 0 0), .sc (.i .i64 2), .sc (.pt 1 0), .sc (.i .i64 3)], [.bx [.s 4, .ow 2], .bx [.s 5, .ow 3], .rw 9 true 6, .rw 9 true 7]⟩⟩] }
noncomputable def Lqb3 : Option Nat → Lv → Option Lv := Lim Tryz.prog [dqi.sig (Lqi none), dq0.sig (Lq0 none)] dqb3 Tryz.f176
theorem eqb3_i (a0 : ByteArray) (a1 : Int) : Lqb3 none [.s a0, .i a1] =
 (Lqi none [.i a1]).bind fun y1 =>
 cond (!(g y1 0).bool) (
 some [.s (⟨#[]⟩ : ByteArray), .b false, .l []]) (
 cond ((a0.size : Int) == 0) (
 some [.s (⟨#[]⟩ : ByteArray), .b false, .l []]) (
 cond (inb 0 a0.size) (
 cond (decide ((a0.size : Int) < (IntKind.i64.wrap (1 + (IntKind.i64.wrap ((IntKind.i64.wrap (byteAt a0 0)) * a1)))))) (
 some [.s (⟨#[]⟩ : ByteArray), .b false, .l []]) (
 cond (inb 0 a0.size) (
 cond (decide (0 ≤ (IntKind.i64.wrap (1 + (IntKind.i64.wrap ((IntKind.i64.wrap (byteAt a0 0)) * a1)))))) (
 cond (decide ((IntKind.i64.wrap (1 + (IntKind.i64.wrap ((IntKind.i64.wrap (byteAt a0 0)) * a1)))) ≤ (a0.size : Int))) (
 Lqb3 (some 6) [.s a0, .i a1, .i (IntKind.i64.wrap (byteAt a0 0)), .i 0, .s (⟨#[]⟩ : ByteArray), .s (a0.extract ((IntKind.i64.wrap (1 + (IntKind.i64.wrap ((IntKind.i64.wrap (byteAt a0 0)) * a1)))).toNat) a0.size), .l [], .l []]) (
 none)) (
 none)) (
 none))) (
 none))) := (zd _ _).trans (by kernel_rfl)
theorem eqb3_6 (a0 : ByteArray) (a1 a2 a3 : Int) (a4 a5 : ByteArray) (a6 a7 : Rw) : Lqb3 (some 6) [.s a0, .i a1, .i a2, .i a3, .s a4, .s a5, .l a6, .l a7] =
 cond (decide (a3 < a2)) (
 cond (decide (0 ≤ (IntKind.i64.wrap ((IntKind.i64.wrap (1 + (IntKind.i64.wrap (a3 * a1)))) + a1)))) (
 cond (decide ((IntKind.i64.wrap ((IntKind.i64.wrap (1 + (IntKind.i64.wrap (a3 * a1)))) + a1)) ≤ (a0.size : Int))) (
 cond (decide (0 ≤ (IntKind.i64.wrap (1 + (IntKind.i64.wrap (a3 * a1)))))) (
 cond (decide ((IntKind.i64.wrap (1 + (IntKind.i64.wrap (a3 * a1)))) ≤ ((IntKind.i64.wrap ((IntKind.i64.wrap (1 + (IntKind.i64.wrap (a3 * a1)))) + a1)).toNat : Int))) (
 cond (decide (a7.length + ([[.s (a0.extract ((IntKind.i64.wrap (1 + (IntKind.i64.wrap (a3 * a1)))).toNat) ((IntKind.i64.wrap ((IntKind.i64.wrap (1 + (IntKind.i64.wrap (a3 * a1)))) + a1)).toNat))]] : Rw).length ≤ most)) (
 Lqb3 (some 6) [.s a0, .i a1, .i a2, .i (IntKind.i64.wrap (a3 + 1)), .s a4, .s a5, .l a6, .l (a7 ++ ([[.s (a0.extract ((IntKind.i64.wrap (1 + (IntKind.i64.wrap (a3 * a1)))).toNat) ((IntKind.i64.wrap ((IntKind.i64.wrap (1 + (IntKind.i64.wrap (a3 * a1)))) + a1)).toNat))]] : Rw))]) (
 none)) (
 none)) (
 none)) (
 none)) (
 none)) (
 (Lq0 none [.s a5, .l a7, .i a1]).bind fun y1 =>
 cond (!(g y1 0).bool) (
 some [.s (⟨#[]⟩ : ByteArray), .b false, .l []]) (
 some [.s a5, .b true, .l a7])) := (zd _ _).trans (by kernel_rfl)
theorem kqb3 : SigOk Tryz.prog (dqb3.sig (Lqb3 none)) ∧ (dqb3.sig (Lqb3 none)).ok = true := zf (zb kqi (by kernel_rfl) (zb kq0 (by kernel_rfl) ze)) (by kernel_rfl) (by kernel_rfl) (by kernel_rfl)
def dqcc : FD := { fn := 113, nb := 0, pre := ⟨[.sc (.s 0), .sc (.i .i64 1)], []⟩, post := ⟨[.tu [(true, [.i .i64 0, .s 1, .s 2, .i .i64 3, .s 4, .ow 0]), (false, [.b 5])]], [.rw 9 true 6]⟩, sh := false, cuts := [⟨9, [0, 1, 4, 6], ⟨[.sc (.s 0), .sc (.i .i64 1), .sc (.pt 0 0), .sc (.pt 1 0)], [.bx [.i .i64 2, .s 3, .s 4, .i .i64 5, .s 6, .ow 3], .bx [.i .i64 7, .s 8, .s 9, .i .i64 10, .s 11, .ow 2], .rw 9 true 12, .rw 9 true 13]⟩⟩] }
noncomputable def Lqcc : Option Nat → Lv → Option Lv := Lim Tryz.prog [dqi.sig (Lqi none), dqn.sig (Lqn none), dqbi.sig (Lqbi none), dqb3.sig (Lqb3 none)] dqcc Tryz.f113
theorem eqcc_i (a0 : ByteArray) (a1 : Int) : Lqcc none [.s a0, .i a1] =
 (Lqi none [.i a1]).bind fun y1 =>
 cond (!(g y1 0).bool) (
 some [.i 0, .s (⟨#[]⟩ : ByteArray), .s (⟨#[]⟩ : ByteArray), .i 0, .s (⟨#[]⟩ : ByteArray), .b false, .l []]) (
 cond (decide ((a0.size : Int) < 6)) (
 some [.i 0, .s (⟨#[]⟩ : ByteArray), .s (⟨#[]⟩ : ByteArray), .i 0, .s (⟨#[]⟩ : ByteArray), .b false, .l []]) (
 cond (inb 5 a0.size) (
 cond (decide ((a0.size : Int) < (IntKind.i64.wrap (6 + (IntKind.i64.wrap (byteAt a0 5)))))) (
 some [.i 0, .s (⟨#[]⟩ : ByteArray), .s (⟨#[]⟩ : ByteArray), .i 0, .s (⟨#[]⟩ : ByteArray), .b false, .l []]) (
 cond (inb 0 a0.size) (
 cond (inb 1 a0.size) (
 cond (inb 2 a0.size) (
 cond (inb 3 a0.size) (
 cond (inb 4 a0.size) (
 cond (inb 5 a0.size) (
 cond (decide (0 ≤ (IntKind.i64.wrap (6 + (IntKind.i64.wrap (byteAt a0 5)))))) (
 cond (decide ((IntKind.i64.wrap (6 + (IntKind.i64.wrap (byteAt a0 5)))) ≤ (a0.size : Int))) (
 cond (decide (6 ≤ ((IntKind.i64.wrap (6 + (IntKind.i64.wrap (byteAt a0 5)))).toNat : Int))) (
 cond (inb 5 a0.size) (
 cond (decide (0 ≤ (IntKind.i64.wrap (6 + (IntKind.i64.wrap (byteAt a0 5)))))) (
 cond (decide ((IntKind.i64.wrap (6 + (IntKind.i64.wrap (byteAt a0 5)))) ≤ (a0.size : Int))) (
 cond ((IntKind.i64.wrap (byteAt a0 0)) == 1) (
 (Lqb3 none [.s (a0.extract ((IntKind.i64.wrap (6 + (IntKind.i64.wrap (byteAt a0 5)))).toNat) a0.size), .i a1]).bind fun y2 =>
 Lqcc (some 9) [.s a0, .i a1, .i 0, .s (⟨#[]⟩ : ByteArray), .s (⟨#[]⟩ : ByteArray), .i 0, .s (⟨#[]⟩ : ByteArray), .i (IntKind.i64.wrap (byteAt a0 0)), .s (⟨#[]⟩ : ByteArray), .s (a0.extract 6 ((IntKind.i64.wrap (6 + (IntKind.i64.wrap (byteAt a0 5)))).toNat)), .i (IntKind.i64.wrap ((IntKind.i64.wrap ((IntKind.i64.wrap ((IntKind.i64.wrap ((IntKind.i64.wrap (byteAt a0 1)) * 16777216)) + (IntKind.i64.wrap ((IntKind.i64.wrap (byteAt a0 2)) * 65536)))) + (IntKind.i64.wrap ((IntKind.i64.wrap (byteAt a0 3)) * 256)))) + (IntKind.i64.wrap (byteAt a0 4)))), .s ((g y2 0).str), .l ((g y2 2).list), .l []]) (
 Lqcc (some 9) [.s a0, .i a1, .i 0, .s (⟨#[]⟩ : ByteArray), .s (⟨#[]⟩ : ByteArray), .i 0, .s (⟨#[]⟩ : ByteArray), .i (IntKind.i64.wrap (byteAt a0 0)), .s (a0.extract ((IntKind.i64.wrap (6 + (IntKind.i64.wrap (byteAt a0 5)))).toNat) a0.size), .s (a0.extract 6 ((IntKind.i64.wrap (6 + (IntKind.i64.wrap (byteAt a0 5)))).toNat)), .i (IntKind.i64.wrap ((IntKind.i64.wrap ((IntKind.i64.wrap ((IntKind.i64.wrap ((IntKind.i64.wrap (byteAt a0 1)) * 16777216)) + (IntKind.i64.wrap ((IntKind.i64.wrap (byteAt a0 2)) * 65536)))) + (IntKind.i64.wrap ((IntKind.i64.wrap (byteAt a0 3)) * 256)))) + (IntKind.i64.wrap (byteAt a0 4)))), .s (⟨#[]⟩ : ByteArray), .l [], .l []])) (
 none)) (
 none)) (
 none)) (
 none)) (
 none)) (
 none)) (
 none)) (
 none)) (
 none)) (
 none)) (
 none)) (
 none))) (
 none))) := (zd _ _).trans (by kernel_rfl)
theorem eqcc_9 (a0 : ByteArray) (a1 a2 : Int) (a3 a4 : ByteArray) (a5 : Int) (a6 : ByteArray) (a7 : Int) (a8 a9 : ByteArray) (a10 : Int) (a11 : ByteArray) (a12 a13 : Rw) : Lqcc (some 9) [.s a0, .i a1, .i a2, .s a3, .s a4, .i a5, .s a6, .i a7, .s a8, .s a9, .i a10, .s a11, .l a12, .l a13] =
 (Lqn none [.i a7, .s a8, .s a9, .i a10, .s a11, .l a12, .i a1]).bind fun y1 =>
 cond (!(g y1 0).bool) (
 some [.i 0, .s (⟨#[]⟩ : ByteArray), .s (⟨#[]⟩ : ByteArray), .i 0, .s (⟨#[]⟩ : ByteArray), .b false, .l []]) (
 (Lqbi none [.i a7, .s a8, .s a9, .i a10, .s a11, .l a12, .i a1]).bind fun y2 =>
 cond (!Eng.seq ((g y2 0).str) a0) (
 some [.i 0, .s (⟨#[]⟩ : ByteArray), .s (⟨#[]⟩ : ByteArray), .i 0, .s (⟨#[]⟩ : ByteArray), .b false, .l []]) (
 some [.i a7, .s a8, .s a9, .i a10, .s a11, .b true, .l a12])) := (zd _ _).trans (by kernel_rfl)
theorem kqcc : SigOk Tryz.prog (dqcc.sig (Lqcc none)) ∧ (dqcc.sig (Lqcc none)).ok = true := zf (zb kqi (by kernel_rfl) (zb kqn (by kernel_rfl) (zb kqbi (by kernel_rfl) (zb kqb3 (by kernel_rfl) ze)))) (by kernel_rfl) (by kernel_rfl) (by kernel_rfl)
def dqbn : FD := { fn := 148, nb := 0, pre := ⟨[.ag [.s 0, .fz 9 false 1]], []⟩, post := ⟨[.ag [.s 0, .ow 0]], [.rw 9 true 1]⟩, sh := false, cuts := [] }
noncomputable def Lqbn : Option Nat → Lv → Option Lv := Lim Tryz.prog [] dqbn Tryz.f148
theorem eqbn_i (a0 : ByteArray) (a1 : Rw) : Lqbn none [.s a0, .l a1] =
 cond (decide (([] : Rw).length + a1.length ≤ most)) (
 some [.s a0, .l (([] : Rw) ++ a1)]) (
 none) := (zd _ _).trans (by kernel_rfl)
theorem kqbn : SigOk Tryz.prog (dqbn.sig (Lqbn none)) ∧ (dqbn.sig (Lqbn none)).ok = true := zf ze (by kernel_rfl) (by kernel_rfl) (by kernel_rfl)
end KV
end
section
set_option maxRecDepth 100000
namespace KV
open Go Go.Eng Go.Proofs
def dqo : FD := { fn := 115, nb := 0, pre := ⟨[.ag [.i .i64 0, .i .i64 1, .i .i64 2, .i .i64 3, .fz 90 false 4, .fz 156 false 5, .fz 158 false 6]], []⟩, post := ⟨[.ag [.i .i64 0, .i .i64 1, .i .i64 2, .i .i64 3, .ow 0, .ow 1, .ow 2]], [.rw 90 true 4, .rw 156 true 5, .rw 158 true 6]⟩, sh := false, cuts := [⟨4, [1, 2, 3, 4], ⟨[.sc (.pt 0 0), .sc (.pt 1 0), .sc (.pt 2 0), .sc (.i .i64 0)], [.bx [.i .i64 1, .i .i64 2, .i .i64 3, .i .i64 4, .fz 90 false 5, .fz 156 false 6, .fz 158 false 7], .bx [.i .i64 8, .i .i64 9, .i .i64 10, .i .i64 11, .ow 3, .ow 4, .ow 5], .bx [.i .i64 12, .i .i64 13, .i .i64 14, .i .i64 15, .ow 6, .fz 156 false 16, .fz 158 false 17], .rw 90 true 18, .rw 156 true 19, .rw 158 true 20, .rw 90 true 21]⟩⟩] }
noncomputable def Lqo : Option Nat → Lv → Option Lv := Lim Tryz.prog [dqbn.sig (Lqbn none)] dqo Tryz.f115
theorem eqo_i (a0 a1 a2 a3 : Int) (a4 a5 a6 : Rw) : Lqo none [.i a0, .i a1, .i a2, .i a3, .l a4, .l a5, .l a6] =
 Lqo (some 4) [.i 0, .i a0, .i a1, .i a2, .i a3, .l a4, .l a5, .l a6, .i 0, .i 0, .i 0, .i 0, .i a0, .i a1, .i a2, .i a3, .l a5, .l a6, .l [], .l [], .l [], .l ([] : Rw)] := (zd _ _).trans (by kernel_rfl)
theorem eqo_4 (a0 a1 a2 a3 a4 : Int) (a5 a6 a7 : Rw) (a8 a9 a10 a11 a12 a13 a14 a15 : Int) (a16 a17 a18 a19 a20 a21 : Rw) : Lqo (some 4) [.i a0, .i a1, .i a2, .i a3, .i a4, .l a5, .l a6, .l a7, .i a8, .i a9, .i a10, .i a11, .i a12, .i a13, .i a14, .i a15, .l a16, .l a17, .l a18, .l a19, .l a20, .l a21] =
 cond (decide (a0 < (a5.length : Int))) (
 cond (inb a0 a5.length) (
 (Lqbn none [.s ((rd a5 a0.toNat 2).str), .l ((rd a5 a0.toNat 3).list)]).bind fun y1 =>
 cond (decide (a21.length + ([[.s ((rd a5 a0.toNat 0).str), .i ((rd a5 a0.toNat 1).int), .s ((g y1 0).str), .l ((g y1 1).list)]] : Rw).length ≤ most)) (
 Lqo (some 4) [.i (IntKind.i64.wrap (a0 + 1)), .i a1, .i a2, .i a3, .i a4, .l a5, .l a6, .l a7, .i a8, .i a9, .i a10, .i a11, .i a12, .i a13, .i a14, .i a15, .l a16, .l a17, .l a18, .l a19, .l a20, .l (a21 ++ ([[.s ((rd a5 a0.toNat 0).str), .i ((rd a5 a0.toNat 1).int), .s ((g y1 0).str), .l ((g y1 1).list)]] : Rw))]) (
 none)) (
 none)) (
 cond (decide (([] : Rw).length + a6.length ≤ most)) (
 cond (decide (([] : Rw).length + a7.length ≤ most)) (
 some [.i a12, .i a13, .i a14, .i a15, .l a21, .l (([] : Rw) ++ a6), .l (([] : Rw) ++ a7)]) (
 none)) (
 none)) := (zd _ _).trans (by kernel_rfl)
theorem kqo : SigOk Tryz.prog (dqo.sig (Lqo none)) ∧ (dqo.sig (Lqo none)).ok = true := zf (zb kqbn (by kernel_rfl) ze) (by kernel_rfl) (by kernel_rfl) (by kernel_rfl)
def dqe : FD := { fn := 128, nb := 0, pre := ⟨[.ag [.i .i64 0, .i .i64 1, .i .i64 2, .i .i64 3, .fz 90 false 4, .fz 156 false 5, .fz 158 false 6], .sc (.s 7)], []⟩, post := ⟨[.sc (.i .i64 0)], []⟩, sh := false, cuts := [⟨2, [1, 2, 5], ⟨[.sc (.s 0), .sc (.pt 0 0), .sc (.i .i64 1)], [.bx [.i .i64 2, .i .i64 3, .i .i64 4, .i .i64 5, .fz 90 false 6, .fz 156 false 7, .fz 158 false 8]]⟩⟩] }
noncomputable def Lqe : Option Nat → Lv → Option Lv := Lim Tryz.prog [] dqe Tryz.f128
theorem eqe_i (a0 a1 a2 a3 : Int) (a4 a5 a6 : Rw) (a7 : ByteArray) : Lqe none [.i a0, .i a1, .i a2, .i a3, .l a4, .l a5, .l a6, .s a7] =
 Lqe (some 2) [.s a7, .i 0, .i a0, .i a1, .i a2, .i a3, .l a4, .l a5, .l a6] := (zd _ _).trans (by kernel_rfl)
theorem eqe_2 (a0 : ByteArray) (a1 a2 a3 a4 a5 : Int) (a6 a7 a8 : Rw) : Lqe (some 2) [.s a0, .i a1, .i a2, .i a3, .i a4, .i a5, .l a6, .l a7, .l a8] =
 cond (decide (a1 < (a6.length : Int))) (
 cond (inb a1 a6.length) (
 cond (Eng.seq ((rd a6 a1.toNat 0).str) a0) (
 some [.i a1]) (
 Lqe (some 2) [.s a0, .i (IntKind.i64.wrap (a1 + 1)), .i a2, .i a3, .i a4, .i a5, .l a6, .l a7, .l a8])) (
 none)) (
 some [.i (-1)]) := (zd _ _).trans (by kernel_rfl)
theorem kqe : SigOk Tryz.prog (dqe.sig (Lqe none)) ∧ (dqe.sig (Lqe none)).ok = true := zf ze (by kernel_rfl) (by kernel_rfl) (by kernel_rfl)
def dqcg : FD := { fn := 180, nb := 0, pre := ⟨[.ag [.i .i64 0, .i .i64 1, .i .i64 2, .i .i64 3, .fz 90 false 4, .fz 156 false 5, .ow 0], .sc (.s 6), .sc (.i .i64 7)], [.rw 158 false 8]⟩, post := ⟨[.ag [.i .i64 0, .i .i64 1, .i .i64 2, .i .i64 3, .i .i64 4, .fz 90 false 5, .fz 156 false 6, .ow 0, .s 7, .i .i64 8, .s 9, .s 10]], [.rw 158 false 11]⟩, sh := true, cuts := [] }
noncomputable def Lqcg : Option Nat → Lv → Option Lv := Lim Tryz.prog [] dqcg Tryz.f180
theorem eqcg_i (a0 a1 a2 a3 : Int) (a4 a5 : Rw) (a6 : ByteArray) (a7 : Int) (a8 : Rw) : Lqcg none [.i a0, .i a1, .i a2, .i a3, .l a4, .l a5, .s a6, .i a7, .l a8] =
 cond (decide (200 ≤ (a8.length : Int))) (
 some [.i 4, .i 0, .i 0, .i 0, .i 0, .l ([]), .l ([]), .s (⟨#[]⟩ : ByteArray), .i 0, .s (⟨#[]⟩ : ByteArray), .s (⟨#[]⟩ : ByteArray), .l []]) (
 cond (decide (1000000000 ≤ a2)) (
 some [.i 4, .i 0, .i 0, .i 0, .i 0, .l ([]), .l ([]), .s (⟨#[]⟩ : ByteArray), .i 0, .s (⟨#[]⟩ : ByteArray), .s (⟨#[]⟩ : ByteArray), .l []]) (
 cond (decide (a8.length + ([[.i (IntKind.i64.wrap (a2 + 1)), .s a6, .i (IntKind.i64.wrap (a1 + a7))]] : Rw).length ≤ most)) (
 some [.i 0, .i a0, .i a1, .i (IntKind.i64.wrap (a2 + 1)), .i a3, .l a4, .l a5, .s (⟨#[]⟩ : ByteArray), .i (IntKind.i64.wrap (a2 + 1)), .s (⟨#[]⟩ : ByteArray), .s (⟨#[]⟩ : ByteArray), .l (a8 ++ ([[.i (IntKind.i64.wrap (a2 + 1)), .s a6, .i (IntKind.i64.wrap (a1 + a7))]] : Rw))]) (
 none))) := (zd _ _).trans (by kernel_rfl)
theorem kqcg : SigOk Tryz.prog (dqcg.sig (Lqcg none)) ∧ (dqcg.sig (Lqcg none)).ok = true := zf ze (by kernel_rfl) (by kernel_rfl) (by kernel_rfl)
def dqq : FD := { fn := 177, nb := 0, pre := ⟨[.ag [.i .i64 0, .i .i64 1, .i .i64 2, .i .i64 3, .fz 90 false 4, .fz 156 false 5, .ow 0], .ag [.i .i64 6, .s 7, .s 8, .i .i64 9, .s 10, .fz 9 false 11]], [.rw 158 false 12]⟩, post := ⟨[.ag [.i .i64 0, .i .i64 1, .i .i64 2, .i .i64 3, .i .i64 4, .fz 90 false 5, .fz 156 false 6, .ow 0, .s 7, .i .i64 8, .s 9, .s 10]], [.rw 158 false 11]⟩, sh := true, cuts := [⟨4, [2, 3, 4, 5, 6, 7], ⟨[.sc (.pt 0 0), .sc (.pt 1 0), .sc (.pt 2 0), .sc (.s 0), .sc (.s 1), .sc (.i .i64 2)], [.bx [.i .i64 3, .i .i64 4, .i .i64 5, .i .i64 6, .fz 90 false 7, .fz 156 false 8, .ow 3], .bx [.i .i64 9, .s 10, .s 11, .i .i64 12, .s 13, .fz 9 false 14], .bx [.i .i64 15, .i .i64 16, .i .i64 17, .i .i64 18, .i .i64 19, .ow 4, .ow 5, .ow 6, .s 20, .i .i64 21, .s 22, .s 23], .rw 158 false 24, .rw 90 true 25, .rw 156 true 26, .rw 158 true 27]⟩⟩, ⟨20, [2, 3, 4, 6, 10, 11, 12, 13], ⟨[.sc (.pt 0 0), .sc (.pt 1 0), .sc (.pt 2 0), .sc (.s 0), .sc (.ow 3), .sc (.b 1), .sc (.pt 4 0), .sc (.i .i64 2)], [.bx [.i .i64 3, .i .i64 4, .i .i64 5, .i .i64 6, .fz 90 false 7, .fz 156 false 8, .ow 5], .bx [.i .i64 9, .s 10, .s 11, .i .i64 12, .s 13, .fz 9 false 14], .bx [.i .i64 15, .i .i64 16, .i .i64 17, .i .i64 18, .i .i64 19, .ow 6, .ow 7, .ow 8, .s 20, .i .i64 21, .s 22, .s 23], .rw 90 false 24, .bx [.s 25, .i .i64 26, .s 27, .fz 9 true 28], .rw 158 false 29, .rw 90 true 30, .rw 156 true 31, .rw 158 true 32]⟩⟩] }
noncomputable def Lqq : Option Nat → Lv → Option Lv := Lim Tryz.prog [dqr.sig (Lqr none), dqbn.sig (Lqbn none), dqf.sig (Lqf none), dqe.sig (Lqe none), dqcg.sig (Lqcg none)] dqq Tryz.f177
theorem eqq_i (a0 a1 a2 a3 : Int) (a4 a5 : Rw) (a6 : Int) (a7 a8 : ByteArray) (a9 : Int) (a10 : ByteArray) (a11 a12 : Rw) : Lqq none [.i a0, .i a1, .i a2, .i a3, .l a4, .l a5, .i a6, .s a7, .s a8, .i a9, .s a10, .l a11, .l a12] =
 (Lqr none [.s a10, .l a11, .i a0]).bind fun y1 =>
 (Lqf none [.s ((g y1 0).str), .i a0]).bind fun y2 =>
 Lqq (some 4) [.s ((g y1 0).str), .s ((g y2 0).str), .i 0, .i a0, .i a1, .i a2, .i a3, .l a4, .l a5, .i a6, .s a7, .s a8, .i a9, .s a10, .l a11, .i 0, .i 0, .i 0, .i 0, .i 0, .s (⟨#[]⟩ : ByteArray), .i 0, .s (⟨#[]⟩ : ByteArray), .s (⟨#[]⟩ : ByteArray), .l a12, .l [], .l [], .l []] := (zd _ _).trans (by kernel_rfl)
theorem eqq_4 (a0 a1 : ByteArray) (a2 a3 a4 a5 a6 : Int) (a7 a8 : Rw) (a9 : Int) (a10 a11 : ByteArray) (a12 : Int) (a13 : ByteArray) (a14 : Rw) (a15 a16 a17 a18 a19 : Int) (a20 : ByteArray) (a21 : Int) (a22 a23 : ByteArray) (a24 a25 a26 a27 : Rw) : Lqq (some 4) [.s a0, .s a1, .i a2, .i a3, .i a4, .i a5, .i a6, .l a7, .l a8, .i a9, .s a10, .s a11, .i a12, .s a13, .l a14, .i a15, .i a16, .i a17, .i a18, .i a19, .s a20, .i a21, .s a22, .s a23, .l a24, .l a25, .l a26, .l a27] =
 cond (decide (a2 < (a14.length : Int))) (
 cond (inb a2 a14.length) (
 (Lqe none [.i a3, .i a4, .i a5, .i a6, .l a7, .l a8, .l a24, .s ((rd a14 a2.toNat 0).str)]).bind fun y1 =>
 cond (decide ((g y1 0).int < 0)) (
 some [.i 2, .i 0, .i 0, .i 0, .i 0, .l ([]), .l ([]), .s (⟨#[]⟩ : ByteArray), .i 0, .s (⟨#[]⟩ : ByteArray), .s (⟨#[]⟩ : ByteArray), .l []]) (
 Lqq (some 4) [.s a0, .s a1, .i (IntKind.i64.wrap (a2 + 1)), .i a3, .i a4, .i a5, .i a6, .l a7, .l a8, .i a9, .s a10, .s a11, .i a12, .s a13, .l a14, .i a15, .i a16, .i a17, .i a18, .i a19, .s a20, .i a21, .s a22, .s a23, .l a24, .l a25, .l a26, .l a27])) (
 none)) (
 (Lqe none [.i a3, .i a4, .i a5, .i a6, .l a7, .l a8, .l a24, .s a1]).bind fun y2 =>
 cond (decide (0 ≤ (g y2 0).int)) (
 cond (inb ((g y2 0).int) a7.length) (
 (Lqr none [.s ((rd a7 (((g y2 0).int).toNat) 2).str), .l ((rd a7 (((g y2 0).int).toNat) 3).list), .i a3]).bind fun y3 =>
 cond (!Eng.seq ((g y3 0).str) a0) (
 some [.i 3, .i 0, .i 0, .i 0, .i 0, .l ([]), .l ([]), .s (⟨#[]⟩ : ByteArray), .i 0, .s ((g y3 0).str), .s a0, .l []]) (
 (Lqcg none [.i a3, .i a4, .i a5, .i a6, .l a7, .l a8, .s a1, .i a12, .l a24]).bind fun y4 =>
 cond ((g y4 0).int == 0) (
 some [.i ((g y4 0).int), .i ((g y4 1).int), .i ((g y4 2).int), .i ((g y4 3).int), .i ((g y4 4).int), .l ((g y4 5).list), .l ((g y4 6).list), .s a1, .i ((g y4 8).int), .s ((g y4 9).str), .s ((g y4 10).str), .l ((g y4 11).list)]) (
 some [.i ((g y4 0).int), .i ((g y4 1).int), .i ((g y4 2).int), .i ((g y4 3).int), .i ((g y4 4).int), .l ((g y4 5).list), .l ((g y4 6).list), .s ((g y4 7).str), .i ((g y4 8).int), .s ((g y4 9).str), .s ((g y4 10).str), .l ((g y4 11).list)]))) (
 none)) (
 cond (decide (600 ≤ (a7.length : Int))) (
 some [.i 4, .i 0, .i 0, .i 0, .i 0, .l ([]), .l ([]), .s (⟨#[]⟩ : ByteArray), .i 0, .s (⟨#[]⟩ : ByteArray), .s (⟨#[]⟩ : ByteArray), .l []]) (
 cond (decide (1000000000 ≤ a6)) (
 some [.i 4, .i 0, .i 0, .i 0, .i 0, .l ([]), .l ([]), .s (⟨#[]⟩ : ByteArray), .i 0, .s (⟨#[]⟩ : ByteArray), .s (⟨#[]⟩ : ByteArray), .l []]) (
 (Lqbn none [.s a13, .l a14]).bind fun y5 =>
 Lqq (some 20) [.s a1, .b false, .i 0, .i a3, .i a4, .i a5, .i (IntKind.i64.wrap (a6 + 1)), .l a7, .l a8, .i a9, .s a10, .s a11, .i a12, .s a13, .l a14, .i a15, .i a16, .i a17, .i a18, .i a19, .s a20, .i a21, .s a22, .s a23, .l ([] : Rw), .s a1, .i (IntKind.i64.wrap (a6 + 1)), .s ((g y5 0).str), .l ((g y5 1).list), .l a24, .l a25, .l a26, .l a27])))) := (zd _ _).trans (by kernel_rfl)
theorem eqq_20 (a0 : ByteArray) (a1 : Bool) (a2 a3 a4 a5 a6 : Int) (a7 a8 : Rw) (a9 : Int) (a10 a11 : ByteArray) (a12 : Int) (a13 : ByteArray) (a14 : Rw) (a15 a16 a17 a18 a19 : Int) (a20 : ByteArray) (a21 : Int) (a22 a23 : ByteArray) (a24 : Rw) (a25 : ByteArray) (a26 : Int) (a27 : ByteArray) (a28 a29 a30 a31 a32 : Rw) : Lqq (some 20) [.s a0, .b a1, .i a2, .i a3, .i a4, .i a5, .i a6, .l a7, .l a8, .i a9, .s a10, .s a11, .i a12, .s a13, .l a14, .i a15, .i a16, .i a17, .i a18, .i a19, .s a20, .i a21, .s a22, .s a23, .l a24, .s a25, .i a26, .s a27, .l a28, .l a29, .l a30, .l a31, .l a32] =
 cond (decide (a2 < (a7.length : Int))) (
 cond (!a1) (
 cond (inb a2 a7.length) (
 cond (!(slt ((rd a7 a2.toNat 0).str) a0 || Eng.seq ((rd a7 a2.toNat 0).str) a0)) (
 cond (decide (a24.length + ([[.s a25, .i a26, .s a27, .l a28]] : Rw).length ≤ most)) (
 cond (inb a2 a7.length) (
 cond (decide ((a24 ++ ([[.s a25, .i a26, .s a27, .l a28]] : Rw)).length + ([[.s ((rd a7 a2.toNat 0).str), .i ((rd a7 a2.toNat 1).int), .s ((rd a7 a2.toNat 2).str), .l ((rd a7 a2.toNat 3).list)]] : Rw).length ≤ most)) (
 Lqq (some 20) [.s a0, .b true, .i (IntKind.i64.wrap (a2 + 1)), .i a3, .i a4, .i a5, .i a6, .l a7, .l a8, .i a9, .s a10, .s a11, .i a12, .s a13, .l a14, .i a15, .i a16, .i a17, .i a18, .i a19, .s a20, .i a21, .s a22, .s a23, .l ((a24 ++ ([[.s a25, .i a26, .s a27, .l a28]] : Rw)) ++ ([[.s ((rd a7 a2.toNat 0).str), .i ((rd a7 a2.toNat 1).int), .s ((rd a7 a2.toNat 2).str), .l ((rd a7 a2.toNat 3).list)]] : Rw)), .s a25, .i a26, .s a27, .l a28, .l a29, .l a30, .l a31, .l a32]) (
 none)) (
 none)) (
 none)) (
 cond (inb a2 a7.length) (
 cond (decide (a24.length + ([[.s ((rd a7 a2.toNat 0).str), .i ((rd a7 a2.toNat 1).int), .s ((rd a7 a2.toNat 2).str), .l ((rd a7 a2.toNat 3).list)]] : Rw).length ≤ most)) (
 Lqq (some 20) [.s a0, .b a1, .i (IntKind.i64.wrap (a2 + 1)), .i a3, .i a4, .i a5, .i a6, .l a7, .l a8, .i a9, .s a10, .s a11, .i a12, .s a13, .l a14, .i a15, .i a16, .i a17, .i a18, .i a19, .s a20, .i a21, .s a22, .s a23, .l (a24 ++ ([[.s ((rd a7 a2.toNat 0).str), .i ((rd a7 a2.toNat 1).int), .s ((rd a7 a2.toNat 2).str), .l ((rd a7 a2.toNat 3).list)]] : Rw)), .s a25, .i a26, .s a27, .l a28, .l a29, .l a30, .l a31, .l a32]) (
 none)) (
 none))) (
 none)) (
 cond (inb a2 a7.length) (
 cond (decide (a24.length + ([[.s ((rd a7 a2.toNat 0).str), .i ((rd a7 a2.toNat 1).int), .s ((rd a7 a2.toNat 2).str), .l ((rd a7 a2.toNat 3).list)]] : Rw).length ≤ most)) (
 Lqq (some 20) [.s a0, .b a1, .i (IntKind.i64.wrap (a2 + 1)), .i a3, .i a4, .i a5, .i a6, .l a7, .l a8, .i a9, .s a10, .s a11, .i a12, .s a13, .l a14, .i a15, .i a16, .i a17, .i a18, .i a19, .s a20, .i a21, .s a22, .s a23, .l (a24 ++ ([[.s ((rd a7 a2.toNat 0).str), .i ((rd a7 a2.toNat 1).int), .s ((rd a7 a2.toNat 2).str), .l ((rd a7 a2.toNat 3).list)]] : Rw)), .s a25, .i a26, .s a27, .l a28, .l a29, .l a30, .l a31, .l a32]) (
 none)) (
 none))) (
 cond (!a1) (
 cond (decide (a24.length + ([[.s a25, .i a26, .s a27, .l a28]] : Rw).length ≤ most)) (
 (Lqcg none [.i a3, .i a4, .i a5, .i a6, .l (a24 ++ ([[.s a25, .i a26, .s a27, .l a28]] : Rw)), .l a8, .s a0, .i a12, .l a29]).bind fun y1 =>
 cond ((g y1 0).int == 0) (
 some [.i ((g y1 0).int), .i ((g y1 1).int), .i ((g y1 2).int), .i ((g y1 3).int), .i ((g y1 4).int), .l ((g y1 5).list), .l ((g y1 6).list), .s a0, .i ((g y1 8).int), .s ((g y1 9).str), .s ((g y1 10).str), .l ((g y1 11).list)]) (
 some [.i ((g y1 0).int), .i ((g y1 1).int), .i ((g y1 2).int), .i ((g y1 3).int), .i ((g y1 4).int), .l ((g y1 5).list), .l ((g y1 6).list), .s ((g y1 7).str), .i ((g y1 8).int), .s ((g y1 9).str), .s ((g y1 10).str), .l ((g y1 11).list)])) (
 none)) (
 (Lqcg none [.i a3, .i a4, .i a5, .i a6, .l a24, .l a8, .s a0, .i a12, .l a29]).bind fun y2 =>
 cond ((g y2 0).int == 0) (
 some [.i ((g y2 0).int), .i ((g y2 1).int), .i ((g y2 2).int), .i ((g y2 3).int), .i ((g y2 4).int), .l ((g y2 5).list), .l ((g y2 6).list), .s a0, .i ((g y2 8).int), .s ((g y2 9).str), .s ((g y2 10).str), .l ((g y2 11).list)]) (
 some [.i ((g y2 0).int), .i ((g y2 1).int), .i ((g y2 2).int), .i ((g y2 3).int), .i ((g y2 4).int), .l ((g y2 5).list), .l ((g y2 6).list), .s ((g y2 7).str), .i ((g y2 8).int), .s ((g y2 9).str), .s ((g y2 10).str), .l ((g y2 11).list)]))) := (zd _ _).trans (by kernel_rfl)
theorem kqq : SigOk Tryz.prog (dqq.sig (Lqq none)) ∧ (dqq.sig (Lqq none)).ok = true := zf (zb kqr (by kernel_rfl) (zb kqbn (by kernel_rfl) (zb kqf (by kernel_rfl) (zb kqe (by kernel_rfl) (zb kqcg (by kernel_rfl) ze))))) (by kernel_rfl) (by kernel_rfl) (by kernel_rfl)
def dqz : FD := { fn := 178, nb := 0, pre := ⟨[.ag [.i .i64 0, .i .i64 1, .i .i64 2, .i .i64 3, .fz 90 false 4, .fz 156 false 5, .ow 0], .ag [.i .i64 6, .s 7, .s 8, .i .i64 9, .s 10, .fz 9 false 11]], [.rw 158 false 12]⟩, post := ⟨[.ag [.i .i64 0, .i .i64 1, .i .i64 2, .i .i64 3, .i .i64 4, .fz 90 false 5, .ow 0, .ow 1, .s 6, .i .i64 7, .s 8, .s 9]], [.rw 156 true 10, .rw 158 false 11]⟩, sh := true, cuts := [⟨6, [2, 3, 4, 5, 6, 7], ⟨[.sc (.pt 0 0), .sc (.pt 1 0), .sc (.pt 2 0), .sc (.ow 3), .sc (.b 0), .sc (.i .i64 1)], [.bx [.i .i64 2, .i .i64 3, .i .i64 4, .i .i64 5, .fz 90 false 6, .fz 156 false 7, .ow 4], .bx [.i .i64 8, .s 9, .s 10, .i .i64 11, .s 12, .fz 9 false 13], .bx [.i .i64 14, .i .i64 15, .i .i64 16, .i .i64 17, .i .i64 18, .ow 5, .ow 6, .ow 7, .s 19, .i .i64 20, .s 21, .s 22], .rw 156 true 23, .rw 158 false 24, .rw 90 true 25, .rw 156 true 26, .rw 158 true 27]⟩⟩, ⟨11, [2, 3, 4, 5, 6, 7], ⟨[.sc (.pt 0 0), .sc (.pt 1 0), .sc (.pt 2 0), .sc (.ow 3), .sc (.b 0), .sc (.i .i64 1)], [.bx [.i .i64 2, .i .i64 3, .i .i64 4, .i .i64 5, .fz 90 false 6, .fz 156 false 7, .ow 4], .bx [.i .i64 8, .s 9, .s 10, .i .i64 11, .s 12, .fz 9 false 13], .bx [.i .i64 14, .i .i64 15, .i .i64 16, .i .i64 17, .i .i64 18, .ow 5, .ow 6, .ow 7, .s 19, .i .i64 20, .s 21, .s 22], .rw 156 true 23, .rw 158 false 24, .rw 90 true 25, .rw 156 true 26, .rw 158 true 27]⟩⟩] }
noncomputable def Lqz : Option Nat → Lv → Option Lv := Lim Tryz.prog [dqe.sig (Lqe none)] dqz Tryz.f178
theorem eqz_i (a0 a1 a2 a3 : Int) (a4 a5 : Rw) (a6 : Int) (a7 a8 : ByteArray) (a9 : Int) (a10 : ByteArray) (a11 a12 : Rw) : Lqz none [.i a0, .i a1, .i a2, .i a3, .l a4, .l a5, .i a6, .s a7, .s a8, .i a9, .s a10, .l a11, .l a12] =
 (Lqe none [.i a0, .i a1, .i a2, .i a3, .l a4, .l a5, .l a12, .s a7]).bind fun y1 =>
 cond (decide ((g y1 0).int < 0)) (
 some [.i 2, .i 0, .i 0, .i 0, .i 0, .l ([]), .s (⟨#[]⟩ : ByteArray), .i 0, .s (⟨#[]⟩ : ByteArray), .s (⟨#[]⟩ : ByteArray), .l [], .l []]) (
 Lqz (some 6) [.b false, .i 0, .i a0, .i a1, .i a2, .i a3, .l a4, .l a5, .i a6, .s a7, .s a8, .i a9, .s a10, .l a11, .i 0, .i 0, .i 0, .i 0, .i 0, .s (⟨#[]⟩ : ByteArray), .i 0, .s (⟨#[]⟩ : ByteArray), .s (⟨#[]⟩ : ByteArray), .l ([] : Rw), .l a12, .l [], .l [], .l []]) := (zd _ _).trans (by kernel_rfl)
theorem eqz_6 (a0 : Bool) (a1 a2 a3 a4 a5 : Int) (a6 a7 : Rw) (a8 : Int) (a9 a10 : ByteArray) (a11 : Int) (a12 : ByteArray) (a13 : Rw) (a14 a15 a16 a17 a18 : Int) (a19 : ByteArray) (a20 : Int) (a21 a22 : ByteArray) (a23 a24 a25 a26 a27 : Rw) : Lqz (some 6) [.b a0, .i a1, .i a2, .i a3, .i a4, .i a5, .l a6, .l a7, .i a8, .s a9, .s a10, .i a11, .s a12, .l a13, .i a14, .i a15, .i a16, .i a17, .i a18, .s a19, .i a20, .s a21, .s a22, .l a23, .l a24, .l a25, .l a26, .l a27] =
 cond (decide (a1 < (a7.length : Int))) (
 cond (!a0) (
 cond (inb a1 a7.length) (
 cond (!slt ((rd a7 a1.toNat 0).str) a10) (
 cond (decide (a23.length + ([[.s a10, .s a9]] : Rw).length ≤ most)) (
 Lqz (some 11) [.b true, .i a1, .i a2, .i a3, .i a4, .i a5, .l a6, .l a7, .i a8, .s a9, .s a10, .i a11, .s a12, .l a13, .i a14, .i a15, .i a16, .i a17, .i a18, .s a19, .i a20, .s a21, .s a22, .l (a23 ++ ([[.s a10, .s a9]] : Rw)), .l a24, .l a25, .l a26, .l a27]) (
 none)) (
 Lqz (some 11) [.b a0, .i a1, .i a2, .i a3, .i a4, .i a5, .l a6, .l a7, .i a8, .s a9, .s a10, .i a11, .s a12, .l a13, .i a14, .i a15, .i a16, .i a17, .i a18, .s a19, .i a20, .s a21, .s a22, .l a23, .l a24, .l a25, .l a26, .l a27])) (
 none)) (
 Lqz (some 11) [.b a0, .i a1, .i a2, .i a3, .i a4, .i a5, .l a6, .l a7, .i a8, .s a9, .s a10, .i a11, .s a12, .l a13, .i a14, .i a15, .i a16, .i a17, .i a18, .s a19, .i a20, .s a21, .s a22, .l a23, .l a24, .l a25, .l a26, .l a27])) (
 cond (!a0) (
 cond (decide (a23.length + ([[.s a10, .s a9]] : Rw).length ≤ most)) (
 cond (decide (100 < ((a23 ++ ([[.s a10, .s a9]] : Rw)).length : Int))) (
 some [.i 4, .i 0, .i 0, .i 0, .i 0, .l ([]), .s (⟨#[]⟩ : ByteArray), .i 0, .s (⟨#[]⟩ : ByteArray), .s (⟨#[]⟩ : ByteArray), .l [], .l []]) (
 some [.i 0, .i a2, .i a3, .i a4, .i a5, .l a6, .s (⟨#[]⟩ : ByteArray), .i 0, .s (⟨#[]⟩ : ByteArray), .s (⟨#[]⟩ : ByteArray), .l (a23 ++ ([[.s a10, .s a9]] : Rw)), .l a24])) (
 none)) (
 cond (decide (100 < (a23.length : Int))) (
 some [.i 4, .i 0, .i 0, .i 0, .i 0, .l ([]), .s (⟨#[]⟩ : ByteArray), .i 0, .s (⟨#[]⟩ : ByteArray), .s (⟨#[]⟩ : ByteArray), .l [], .l []]) (
 some [.i 0, .i a2, .i a3, .i a4, .i a5, .l a6, .s (⟨#[]⟩ : ByteArray), .i 0, .s (⟨#[]⟩ : ByteArray), .s (⟨#[]⟩ : ByteArray), .l a23, .l a24]))) := (zd _ _).trans (by kernel_rfl)
theorem eqz_11 (a0 : Bool) (a1 a2 a3 a4 a5 : Int) (a6 a7 : Rw) (a8 : Int) (a9 a10 : ByteArray) (a11 : Int) (a12 : ByteArray) (a13 : Rw) (a14 a15 a16 a17 a18 : Int) (a19 : ByteArray) (a20 : Int) (a21 a22 : ByteArray) (a23 a24 a25 a26 a27 : Rw) : Lqz (some 11) [.b a0, .i a1, .i a2, .i a3, .i a4, .i a5, .l a6, .l a7, .i a8, .s a9, .s a10, .i a11, .s a12, .l a13, .i a14, .i a15, .i a16, .i a17, .i a18, .s a19, .i a20, .s a21, .s a22, .l a23, .l a24, .l a25, .l a26, .l a27] =
 cond (inb a1 a7.length) (
 cond (!Eng.seq ((rd a7 a1.toNat 0).str) a10) (
 cond (inb a1 a7.length) (
 cond (decide (a23.length + ([[.s ((rd a7 a1.toNat 0).str), .s ((rd a7 a1.toNat 1).str)]] : Rw).length ≤ most)) (
 Lqz (some 6) [.b a0, .i (IntKind.i64.wrap (a1 + 1)), .i a2, .i a3, .i a4, .i a5, .l a6, .l a7, .i a8, .s a9, .s a10, .i a11, .s a12, .l a13, .i a14, .i a15, .i a16, .i a17, .i a18, .s a19, .i a20, .s a21, .s a22, .l (a23 ++ ([[.s ((rd a7 a1.toNat 0).str), .s ((rd a7 a1.toNat 1).str)]] : Rw)), .l a24, .l a25, .l a26, .l a27]) (
 none)) (
 none)) (
 Lqz (some 6) [.b a0, .i (IntKind.i64.wrap (a1 + 1)), .i a2, .i a3, .i a4, .i a5, .l a6, .l a7, .i a8, .s a9, .s a10, .i a11, .s a12, .l a13, .i a14, .i a15, .i a16, .i a17, .i a18, .s a19, .i a20, .s a21, .s a22, .l a23, .l a24, .l a25, .l a26, .l a27])) (
 none) := (zd _ _).trans (by kernel_rfl)
theorem kqz : SigOk Tryz.prog (dqz.sig (Lqz none)) ∧ (dqz.sig (Lqz none)).ok = true := zf (zb kqe (by kernel_rfl) ze) (by kernel_rfl) (by kernel_rfl) (by kernel_rfl)
def dqbr : FD := { fn := 179, nb := 0, pre := ⟨[.ag [.i .i64 0, .i .i64 1, .i .i64 2, .i .i64 3, .fz 90 false 4, .fz 156 false 5, .ow 0], .sc (.s 6)], [.rw 158 false 7]⟩, post := ⟨[.ag [.i .i64 0, .i .i64 1, .i .i64 2, .i .i64 3, .i .i64 4, .fz 90 false 5, .ow 0, .ow 1, .s 6, .i .i64 7, .s 8, .s 9]], [.rw 156 true 10, .rw 158 false 11]⟩, sh := true, cuts := [⟨3, [1, 2, 4, 5, 6], ⟨[.sc (.s 0), .sc (.pt 0 0), .sc (.pt 1 0), .sc (.ow 2), .sc (.i .i64 1)], [.bx [.i .i64 2, .i .i64 3, .i .i64 4, .i .i64 5, .fz 90 false 6, .fz 156 false 7, .ow 3], .bx [.i .i64 8, .i .i64 9, .i .i64 10, .i .i64 11, .i .i64 12, .ow 4, .ow 5, .ow 6, .s 13, .i .i64 14, .s 15, .s 16], .rw 156 true 17, .rw 158 false 18, .rw 90 true 19, .rw 156 true 20, .rw 158 true 21]⟩⟩] }
noncomputable def Lqbr : Option Nat → Lv → Option Lv := Lim Tryz.prog [] dqbr Tryz.f179
theorem eqbr_i (a0 a1 a2 a3 : Int) (a4 a5 : Rw) (a6 : ByteArray) (a7 : Rw) : Lqbr none [.i a0, .i a1, .i a2, .i a3, .l a4, .l a5, .s a6, .l a7] =
 Lqbr (some 3) [.s a6, .i 0, .i a0, .i a1, .i a2, .i a3, .l a4, .l a5, .i 0, .i 0, .i 0, .i 0, .i 0, .s (⟨#[]⟩ : ByteArray), .i 0, .s (⟨#[]⟩ : ByteArray), .s (⟨#[]⟩ : ByteArray), .l ([] : Rw), .l a7, .l [], .l [], .l []] := (zd _ _).trans (by kernel_rfl)
theorem eqbr_3 (a0 : ByteArray) (a1 a2 a3 a4 a5 : Int) (a6 a7 : Rw) (a8 a9 a10 a11 a12 : Int) (a13 : ByteArray) (a14 : Int) (a15 a16 : ByteArray) (a17 a18 a19 a20 a21 : Rw) : Lqbr (some 3) [.s a0, .i a1, .i a2, .i a3, .i a4, .i a5, .l a6, .l a7, .i a8, .i a9, .i a10, .i a11, .i a12, .s a13, .i a14, .s a15, .s a16, .l a17, .l a18, .l a19, .l a20, .l a21] =
 cond (decide (a1 < (a7.length : Int))) (
 cond (inb a1 a7.length) (
 cond (!Eng.seq ((rd a7 a1.toNat 0).str) a0) (
 cond (inb a1 a7.length) (
 cond (decide (a17.length + ([[.s ((rd a7 a1.toNat 0).str), .s ((rd a7 a1.toNat 1).str)]] : Rw).length ≤ most)) (
 Lqbr (some 3) [.s a0, .i (IntKind.i64.wrap (a1 + 1)), .i a2, .i a3, .i a4, .i a5, .l a6, .l a7, .i a8, .i a9, .i a10, .i a11, .i a12, .s a13, .i a14, .s a15, .s a16, .l (a17 ++ ([[.s ((rd a7 a1.toNat 0).str), .s ((rd a7 a1.toNat 1).str)]] : Rw)), .l a18, .l a19, .l a20, .l a21]) (
 none)) (
 none)) (
 Lqbr (some 3) [.s a0, .i (IntKind.i64.wrap (a1 + 1)), .i a2, .i a3, .i a4, .i a5, .l a6, .l a7, .i a8, .i a9, .i a10, .i a11, .i a12, .s a13, .i a14, .s a15, .s a16, .l a17, .l a18, .l a19, .l a20, .l a21])) (
 none)) (
 cond ((a17.length : Int) == (a7.length : Int)) (
 some [.i 5, .i 0, .i 0, .i 0, .i 0, .l ([]), .s (⟨#[]⟩ : ByteArray), .i 0, .s (⟨#[]⟩ : ByteArray), .s (⟨#[]⟩ : ByteArray), .l [], .l []]) (
 some [.i 0, .i a2, .i a3, .i a4, .i a5, .l a6, .s (⟨#[]⟩ : ByteArray), .i 0, .s (⟨#[]⟩ : ByteArray), .s (⟨#[]⟩ : ByteArray), .l a17, .l a18])) := (zd _ _).trans (by kernel_rfl)
theorem kqbr : SigOk Tryz.prog (dqbr.sig (Lqbr none)) ∧ (dqbr.sig (Lqbr none)).ok = true := zf ze (by kernel_rfl) (by kernel_rfl) (by kernel_rfl)
def dqbs : FD := { fn := 181, nb := 0, pre := ⟨[.ag [.i .i64 0, .i .i64 1, .i .i64 2, .i .i64 3, .fz 90 false 4, .fz 156 false 5, .ow 0], .sc (.i .i64 6)], [.rw 158 false 7]⟩, post := ⟨[.ag [.i .i64 0, .i .i64 1, .i .i64 2, .i .i64 3, .i .i64 4, .fz 90 false 5, .fz 156 false 6, .ow 0, .s 7, .i .i64 8, .s 9, .s 10]], [.rw 158 true 11]⟩, sh := true, cuts := [⟨3, [1, 2, 4, 5, 6], ⟨[.sc (.i .i64 0), .sc (.pt 0 0), .sc (.pt 1 0), .sc (.ow 2), .sc (.i .i64 1)], [.bx [.i .i64 2, .i .i64 3, .i .i64 4, .i .i64 5, .fz 90 false 6, .fz 156 false 7, .ow 3], .bx [.i .i64 8, .i .i64 9, .i .i64 10, .i .i64 11, .i .i64 12, .ow 4, .ow 5, .ow 6, .s 13, .i .i64 14, .s 15, .s 16], .rw 158 true 17, .rw 158 false 18, .rw 90 true 19, .rw 156 true 20, .rw 158 true 21]⟩⟩] }
noncomputable def Lqbs : Option Nat → Lv → Option Lv := Lim Tryz.prog [] dqbs Tryz.f181
theorem eqbs_i (a0 a1 a2 a3 : Int) (a4 a5 : Rw) (a6 : Int) (a7 : Rw) : Lqbs none [.i a0, .i a1, .i a2, .i a3, .l a4, .l a5, .i a6, .l a7] =
 Lqbs (some 3) [.i a6, .i 0, .i a0, .i a1, .i a2, .i a3, .l a4, .l a5, .i 0, .i 0, .i 0, .i 0, .i 0, .s (⟨#[]⟩ : ByteArray), .i 0, .s (⟨#[]⟩ : ByteArray), .s (⟨#[]⟩ : ByteArray), .l ([] : Rw), .l a7, .l [], .l [], .l []] := (zd _ _).trans (by kernel_rfl)
theorem eqbs_3 (a0 a1 a2 a3 a4 a5 : Int) (a6 a7 : Rw) (a8 a9 a10 a11 a12 : Int) (a13 : ByteArray) (a14 : Int) (a15 a16 : ByteArray) (a17 a18 a19 a20 a21 : Rw) : Lqbs (some 3) [.i a0, .i a1, .i a2, .i a3, .i a4, .i a5, .l a6, .l a7, .i a8, .i a9, .i a10, .i a11, .i a12, .s a13, .i a14, .s a15, .s a16, .l a17, .l a18, .l a19, .l a20, .l a21] =
 cond (decide (a1 < (a18.length : Int))) (
 cond (inb a1 a18.length) (
 cond ((rd a18 a1.toNat 0).int != a0) (
 cond (inb a1 a18.length) (
 cond (decide (a17.length + ([[.i ((rd a18 a1.toNat 0).int), .s ((rd a18 a1.toNat 1).str), .i ((rd a18 a1.toNat 2).int)]] : Rw).length ≤ most)) (
 Lqbs (some 3) [.i a0, .i (IntKind.i64.wrap (a1 + 1)), .i a2, .i a3, .i a4, .i a5, .l a6, .l a7, .i a8, .i a9, .i a10, .i a11, .i a12, .s a13, .i a14, .s a15, .s a16, .l (a17 ++ ([[.i ((rd a18 a1.toNat 0).int), .s ((rd a18 a1.toNat 1).str), .i ((rd a18 a1.toNat 2).int)]] : Rw)), .l a18, .l a19, .l a20, .l a21]) (
 none)) (
 none)) (
 Lqbs (some 3) [.i a0, .i (IntKind.i64.wrap (a1 + 1)), .i a2, .i a3, .i a4, .i a5, .l a6, .l a7, .i a8, .i a9, .i a10, .i a11, .i a12, .s a13, .i a14, .s a15, .s a16, .l a17, .l a18, .l a19, .l a20, .l a21])) (
 none)) (
 cond ((a17.length : Int) == (a18.length : Int)) (
 some [.i 5, .i 0, .i 0, .i 0, .i 0, .l ([]), .l ([]), .s (⟨#[]⟩ : ByteArray), .i 0, .s (⟨#[]⟩ : ByteArray), .s (⟨#[]⟩ : ByteArray), .l []]) (
 some [.i 0, .i a2, .i a3, .i a4, .i a5, .l a6, .l a7, .s (⟨#[]⟩ : ByteArray), .i 0, .s (⟨#[]⟩ : ByteArray), .s (⟨#[]⟩ : ByteArray), .l a17])) := (zd _ _).trans (by kernel_rfl)
theorem kqbs : SigOk Tryz.prog (dqbs.sig (Lqbs none)) ∧ (dqbs.sig (Lqbs none)).ok = true := zf ze (by kernel_rfl) (by kernel_rfl) (by kernel_rfl)
def dqbt : FD := { fn := 182, nb := 0, pre := ⟨[.ag [.i .i64 0, .i .i64 1, .i .i64 2, .i .i64 3, .fz 90 false 4, .fz 156 false 5, .ow 0], .sc (.i .i64 6)], [.rw 158 false 7]⟩, post := ⟨[.ag [.i .i64 0, .i .i64 1, .i .i64 2, .i .i64 3, .i .i64 4, .fz 90 false 5, .fz 156 false 6, .ow 0, .s 7, .i .i64 8, .s 9, .s 10]], [.rw 158 true 11]⟩, sh := true, cuts := [⟨6, [2, 4, 5, 6], ⟨[.sc (.pt 0 0), .sc (.pt 1 0), .sc (.ow 2), .sc (.i .i64 0)], [.bx [.i .i64 1, .i .i64 2, .i .i64 3, .i .i64 4, .fz 90 false 5, .fz 156 false 6, .ow 3], .bx [.i .i64 7, .i .i64 8, .i .i64 9, .i .i64 10, .i .i64 11, .ow 4, .ow 5, .ow 6, .s 12, .i .i64 13, .s 14, .s 15], .rw 158 true 16, .rw 158 false 17, .rw 90 true 18, .rw 156 true 19, .rw 158 true 20]⟩⟩] }
noncomputable def Lqbt : Option Nat → Lv → Option Lv := Lim Tryz.prog [] dqbt Tryz.f182
theorem eqbt_i (a0 a1 a2 a3 : Int) (a4 a5 : Rw) (a6 : Int) (a7 : Rw) : Lqbt none [.i a0, .i a1, .i a2, .i a3, .l a4, .l a5, .i a6, .l a7] =
 cond (decide (1000000000 < (IntKind.i64.wrap (a1 + a6)))) (
 some [.i 4, .i 0, .i 0, .i 0, .i 0, .l ([]), .l ([]), .s (⟨#[]⟩ : ByteArray), .i 0, .s (⟨#[]⟩ : ByteArray), .s (⟨#[]⟩ : ByteArray), .l []]) (
 Lqbt (some 6) [.i 0, .i a0, .i (IntKind.i64.wrap (a1 + a6)), .i a2, .i a3, .l a4, .l a5, .i 0, .i 0, .i 0, .i 0, .i 0, .s (⟨#[]⟩ : ByteArray), .i 0, .s (⟨#[]⟩ : ByteArray), .s (⟨#[]⟩ : ByteArray), .l ([] : Rw), .l a7, .l [], .l [], .l []]) := (zd _ _).trans (by kernel_rfl)
theorem eqbt_6 (a0 a1 a2 a3 a4 : Int) (a5 a6 : Rw) (a7 a8 a9 a10 a11 : Int) (a12 : ByteArray) (a13 : Int) (a14 a15 : ByteArray) (a16 a17 a18 a19 a20 : Rw) : Lqbt (some 6) [.i a0, .i a1, .i a2, .i a3, .i a4, .l a5, .l a6, .i a7, .i a8, .i a9, .i a10, .i a11, .s a12, .i a13, .s a14, .s a15, .l a16, .l a17, .l a18, .l a19, .l a20] =
 cond (decide (a0 < (a17.length : Int))) (
 cond (inb a0 a17.length) (
 cond (decide (a2 < (rd a17 a0.toNat 2).int)) (
 cond (inb a0 a17.length) (
 cond (decide (a16.length + ([[.i ((rd a17 a0.toNat 0).int), .s ((rd a17 a0.toNat 1).str), .i ((rd a17 a0.toNat 2).int)]] : Rw).length ≤ most)) (
 Lqbt (some 6) [.i (IntKind.i64.wrap (a0 + 1)), .i a1, .i a2, .i a3, .i a4, .l a5, .l a6, .i a7, .i a8, .i a9, .i a10, .i a11, .s a12, .i a13, .s a14, .s a15, .l (a16 ++ ([[.i ((rd a17 a0.toNat 0).int), .s ((rd a17 a0.toNat 1).str), .i ((rd a17 a0.toNat 2).int)]] : Rw)), .l a17, .l a18, .l a19, .l a20]) (
 none)) (
 none)) (
 Lqbt (some 6) [.i (IntKind.i64.wrap (a0 + 1)), .i a1, .i a2, .i a3, .i a4, .l a5, .l a6, .i a7, .i a8, .i a9, .i a10, .i a11, .s a12, .i a13, .s a14, .s a15, .l a16, .l a17, .l a18, .l a19, .l a20])) (
 none)) (
 some [.i 0, .i a1, .i a2, .i a3, .i a4, .l a5, .l a6, .s (⟨#[]⟩ : ByteArray), .i 0, .s (⟨#[]⟩ : ByteArray), .s (⟨#[]⟩ : ByteArray), .l a16]) := (zd _ _).trans (by kernel_rfl)
theorem kqbt : SigOk Tryz.prog (dqbt.sig (Lqbt none)) ∧ (dqbt.sig (Lqbt none)).ok = true := zf ze (by kernel_rfl) (by kernel_rfl) (by kernel_rfl)
def dqp : FD := { fn := 130, nb := 0, pre := ⟨[.sc (.fz 9 false 0), .sc (.s 1)], []⟩, post := ⟨[.sc (.b 0)], []⟩, sh := false, cuts := [⟨2, [0, 1, 5], ⟨[.sc (.fz 9 false 0), .sc (.s 1), .sc (.i .i64 2)], []⟩⟩] }
noncomputable def Lqp : Option Nat → Lv → Option Lv := Lim Tryz.prog [] dqp Tryz.f130
theorem eqp_i (a0 : Rw) (a1 : ByteArray) : Lqp none [.l a0, .s a1] =
 Lqp (some 2) [.l a0, .s a1, .i 0] := (zd _ _).trans (by kernel_rfl)
theorem eqp_2 (a0 : Rw) (a1 : ByteArray) (a2 : Int) : Lqp (some 2) [.l a0, .s a1, .i a2] =
 cond (decide (a2 < (a0.length : Int))) (
 cond (inb a2 a0.length) (
 cond (Eng.seq ((rd a0 a2.toNat 0).str) a1) (
 some [.b true]) (
 Lqp (some 2) [.l a0, .s a1, .i (IntKind.i64.wrap (a2 + 1))])) (
 none)) (
 some [.b false]) := (zd _ _).trans (by kernel_rfl)
theorem kqp : SigOk Tryz.prog (dqp.sig (Lqp none)) ∧ (dqp.sig (Lqp none)).ok = true := zf ze (by kernel_rfl) (by kernel_rfl) (by kernel_rfl)
def dqs : FD := { fn := 220, nb := 0, pre := ⟨[.ag [.i .i64 0, .i .i64 1, .i .i64 2, .i .i64 3, .fz 90 false 4, .fz 156 false 5, .fz 158 false 6], .sc (.s 7)], []⟩, post := ⟨[.sc (.b 0)], []⟩, sh := false, cuts := [⟨2, [1, 2, 5], ⟨[.sc (.s 0), .sc (.pt 0 0), .sc (.i .i64 1)], [.bx [.i .i64 2, .i .i64 3, .i .i64 4, .i .i64 5, .fz 90 false 6, .fz 156 false 7, .fz 158 false 8]]⟩⟩, ⟨7, [1, 2, 6], ⟨[.sc (.s 0), .sc (.pt 0 0), .sc (.i .i64 1)], [.bx [.i .i64 2, .i .i64 3, .i .i64 4, .i .i64 5, .fz 90 false 6, .fz 156 false 7, .fz 158 false 8]]⟩⟩] }
noncomputable def Lqs : Option Nat → Lv → Option Lv := Lim Tryz.prog [] dqs Tryz.f220
theorem eqs_i (a0 a1 a2 a3 : Int) (a4 a5 a6 : Rw) (a7 : ByteArray) : Lqs none [.i a0, .i a1, .i a2, .i a3, .l a4, .l a5, .l a6, .s a7] =
 Lqs (some 2) [.s a7, .i 0, .i a0, .i a1, .i a2, .i a3, .l a4, .l a5, .l a6] := (zd _ _).trans (by kernel_rfl)
theorem eqs_2 (a0 : ByteArray) (a1 a2 a3 a4 a5 : Int) (a6 a7 a8 : Rw) : Lqs (some 2) [.s a0, .i a1, .i a2, .i a3, .i a4, .i a5, .l a6, .l a7, .l a8] =
 cond (decide (a1 < (a7.length : Int))) (
 cond (inb a1 a7.length) (
 cond (Eng.seq ((rd a7 a1.toNat 1).str) a0) (
 some [.b true]) (
 Lqs (some 2) [.s a0, .i (IntKind.i64.wrap (a1 + 1)), .i a2, .i a3, .i a4, .i a5, .l a6, .l a7, .l a8])) (
 none)) (
 Lqs (some 7) [.s a0, .i 0, .i a2, .i a3, .i a4, .i a5, .l a6, .l a7, .l a8]) := (zd _ _).trans (by kernel_rfl)
theorem eqs_7 (a0 : ByteArray) (a1 a2 a3 a4 a5 : Int) (a6 a7 a8 : Rw) : Lqs (some 7) [.s a0, .i a1, .i a2, .i a3, .i a4, .i a5, .l a6, .l a7, .l a8] =
 cond (decide (a1 < (a8.length : Int))) (
 cond (inb a1 a8.length) (
 cond (Eng.seq ((rd a8 a1.toNat 1).str) a0) (
 some [.b true]) (
 Lqs (some 7) [.s a0, .i (IntKind.i64.wrap (a1 + 1)), .i a2, .i a3, .i a4, .i a5, .l a6, .l a7, .l a8])) (
 none)) (
 some [.b false]) := (zd _ _).trans (by kernel_rfl)
theorem kqs : SigOk Tryz.prog (dqs.sig (Lqs none)) ∧ (dqs.sig (Lqs none)).ok = true := zf ze (by kernel_rfl) (by kernel_rfl) (by kernel_rfl)
def dq1 : FD := { fn := 183, nb := 0, pre := ⟨[.ag [.i .i64 0, .i .i64 1, .i .i64 2, .i .i64 3, .fz 90 false 4, .fz 156 false 5, .ow 0], .sc (.s 6)], [.rw 158 false 7]⟩, post := ⟨[.ag [.i .i64 0, .i .i64 1, .i .i64 2, .i .i64 3, .i .i64 4, .ow 0, .fz 156 false 5, .ow 1, .s 6, .i .i64 7, .s 8, .s 9]], [.rw 90 false 10, .rw 158 false 11]⟩, sh := true, cuts := [⟨7, [1, 2, 4, 5, 6], ⟨[.sc (.s 0), .sc (.pt 0 0), .sc (.pt 1 0), .sc (.ow 2), .sc (.i .i64 1)], [.bx [.i .i64 2, .i .i64 3, .i .i64 4, .i .i64 5, .fz 90 false 6, .fz 156 false 7, .ow 3], .bx [.i .i64 8, .i .i64 9, .i .i64 10, .i .i64 11, .i .i64 12, .ow 4, .ow 5, .ow 6, .s 13, .i .i64 14, .s 15, .s 16], .rw 90 false 17, .rw 158 false 18, .rw 90 true 19, .rw 156 true 20, .rw 158 true 21]⟩⟩] }
noncomputable def Lq1 : Option Nat → Lv → Option Lv := Lim Tryz.prog [dqe.sig (Lqe none), dqp.sig (Lqp none), dqs.sig (Lqs none)] dq1 Tryz.f183
theorem eq1_i (a0 a1 a2 a3 : Int) (a4 a5 : Rw) (a6 : ByteArray) (a7 : Rw) : Lq1 none [.i a0, .i a1, .i a2, .i a3, .l a4, .l a5, .s a6, .l a7] =
 (Lqe none [.i a0, .i a1, .i a2, .i a3, .l a4, .l a5, .l a7, .s a6]).bind fun y1 =>
 cond (decide ((g y1 0).int < 0)) (
 some [.i 2, .i 0, .i 0, .i 0, .i 0, .l ([]), .s (⟨#[]⟩ : ByteArray), .i 0, .s (⟨#[]⟩ : ByteArray), .s (⟨#[]⟩ : ByteArray), .l [], .l []]) (
 (Lqs none [.i a0, .i a1, .i a2, .i a3, .l a4, .l a5, .l a7, .s a6]).bind fun y2 =>
 cond ((g y2 0).bool) (
 some [.i 6, .i 0, .i 0, .i 0, .i 0, .l ([]), .s (⟨#[]⟩ : ByteArray), .i 0, .s (⟨#[]⟩ : ByteArray), .s (⟨#[]⟩ : ByteArray), .l [], .l []]) (
 Lq1 (some 7) [.s a6, .i 0, .i a0, .i a1, .i a2, .i a3, .l a4, .l a5, .i 0, .i 0, .i 0, .i 0, .i 0, .s (⟨#[]⟩ : ByteArray), .i 0, .s (⟨#[]⟩ : ByteArray), .s (⟨#[]⟩ : ByteArray), .l ([] : Rw), .l a7, .l [], .l [], .l []])) := (zd _ _).trans (by kernel_rfl)
theorem eq1_7 (a0 : ByteArray) (a1 a2 a3 a4 a5 : Int) (a6 a7 : Rw) (a8 a9 a10 a11 a12 : Int) (a13 : ByteArray) (a14 : Int) (a15 a16 : ByteArray) (a17 a18 a19 a20 a21 : Rw) : Lq1 (some 7) [.s a0, .i a1, .i a2, .i a3, .i a4, .i a5, .l a6, .l a7, .i a8, .i a9, .i a10, .i a11, .i a12, .s a13, .i a14, .s a15, .s a16, .l a17, .l a18, .l a19, .l a20, .l a21] =
 cond (decide (a1 < (a6.length : Int))) (
 cond (inb a1 a6.length) (
 (Lqp none [.l ((rd a6 a1.toNat 3).list), .s a0]).bind fun y1 =>
 cond ((g y1 0).bool) (
 some [.i 6, .i 0, .i 0, .i 0, .i 0, .l ([]), .s (⟨#[]⟩ : ByteArray), .i 0, .s (⟨#[]⟩ : ByteArray), .s (⟨#[]⟩ : ByteArray), .l [], .l []]) (
 cond (inb a1 a6.length) (
 cond (!Eng.seq ((rd a6 a1.toNat 0).str) a0) (
 cond (inb a1 a6.length) (
 cond (decide (a17.length + ([[.s ((rd a6 a1.toNat 0).str), .i ((rd a6 a1.toNat 1).int), .s ((rd a6 a1.toNat 2).str), .l ((rd a6 a1.toNat 3).list)]] : Rw).length ≤ most)) (
 Lq1 (some 7) [.s a0, .i (IntKind.i64.wrap (a1 + 1)), .i a2, .i a3, .i a4, .i a5, .l a6, .l a7, .i a8, .i a9, .i a10, .i a11, .i a12, .s a13, .i a14, .s a15, .s a16, .l (a17 ++ ([[.s ((rd a6 a1.toNat 0).str), .i ((rd a6 a1.toNat 1).int), .s ((rd a6 a1.toNat 2).str), .l ((rd a6 a1.toNat 3).list)]] : Rw)), .l a18, .l a19, .l a20, .l a21]) (
 none)) (
 none)) (
 Lq1 (some 7) [.s a0, .i (IntKind.i64.wrap (a1 + 1)), .i a2, .i a3, .i a4, .i a5, .l a6, .l a7, .i a8, .i a9, .i a10, .i a11, .i a12, .s a13, .i a14, .s a15, .s a16, .l a17, .l a18, .l a19, .l a20, .l a21])) (
 none))) (
 none)) (
 some [.i 0, .i a2, .i a3, .i a4, .i a5, .l a7, .s (⟨#[]⟩ : ByteArray), .i 0, .s (⟨#[]⟩ : ByteArray), .s (⟨#[]⟩ : ByteArray), .l a17, .l a18]) := (zd _ _).trans (by kernel_rfl)
theorem kq1 : SigOk Tryz.prog (dq1.sig (Lq1 none)) ∧ (dq1.sig (Lq1 none)).ok = true := zf (zb kqe (by kernel_rfl) (zb kqp (by kernel_rfl) (zb kqs (by kernel_rfl) ze))) (by kernel_rfl) (by kernel_rfl) (by kernel_rfl)
def dqb8 : FD := { fn := 114, nb := 0, pre := ⟨[.ag [.i .i64 0, .i .i64 1, .i .i64 2, .i .i64 3, .fz 90 false 4, .fz 156 false 5, .ow 0], .ag [.i .i64 6, .s 7, .s 8, .i .i64 9, .s 10, .fz 9 false 11]], [.rw 158 false 12]⟩, post := ⟨[.ag [.i .i64 0, .i .i64 1, .i .i64 2, .i .i64 3, .i .i64 4, .fz 90 false 5, .fz 156 false 6, .ow 0, .s 7, .i .i64 8, .s 9, .s 10]], [.rw 158 false 11]⟩, sh := true, cuts := [] }
noncomputable def Lqb8 : Option Nat → Lv → Option Lv := Lim Tryz.prog [dqo.sig (Lqo none), dqe.sig (Lqe none), dqcg.sig (Lqcg none), dqq.sig (Lqq none), dqz.sig (Lqz none), dqbr.sig (Lqbr none), dqbs.sig (Lqbs none), dqbt.sig (Lqbt none), dq1.sig (Lq1 none)] dqb8 Tryz.f114
theorem eqb8_i (a0 a1 a2 a3 : Int) (a4 a5 : Rw) (a6 : Int) (a7 a8 : ByteArray) (a9 : Int) (a10 : ByteArray) (a11 a12 : Rw) : Lqb8 none [.i a0, .i a1, .i a2, .i a3, .l a4, .l a5, .i a6, .s a7, .s a8, .i a9, .s a10, .l a11, .l a12] =
 cond (a6 == 1) (
 (Lqq none [.i a0, .i a1, .i a2, .i a3, .l a4, .l a5, .i a6, .s a7, .s a8, .i a9, .s a10, .l a11, .l a12]).bind fun y1 =>
 some [.i ((g y1 0).int), .i ((g y1 1).int), .i ((g y1 2).int), .i ((g y1 3).int), .i ((g y1 4).int), .l ((g y1 5).list), .l ((g y1 6).list), .s ((g y1 7).str), .i ((g y1 8).int), .s ((g y1 9).str), .s ((g y1 10).str), .l ((g y1 11).list)]) (
 cond (a6 == 2) (
 (Lqz none [.i a0, .i a1, .i a2, .i a3, .l a4, .l a5, .i a6, .s a7, .s a8, .i a9, .s a10, .l a11, .l a12]).bind fun y2 =>
 some [.i ((g y2 0).int), .i ((g y2 1).int), .i ((g y2 2).int), .i ((g y2 3).int), .i ((g y2 4).int), .l ((g y2 5).list), .l ((g y2 10).list), .s ((g y2 6).str), .i ((g y2 7).int), .s ((g y2 8).str), .s ((g y2 9).str), .l ((g y2 11).list)]) (
 cond (a6 == 3) (
 (Lqbr none [.i a0, .i a1, .i a2, .i a3, .l a4, .l a5, .s a8, .l a12]).bind fun y3 =>
 some [.i ((g y3 0).int), .i ((g y3 1).int), .i ((g y3 2).int), .i ((g y3 3).int), .i ((g y3 4).int), .l ((g y3 5).list), .l ((g y3 10).list), .s ((g y3 6).str), .i ((g y3 7).int), .s ((g y3 8).str), .s ((g y3 9).str), .l ((g y3 11).list)]) (
 cond (a6 == 4) (
 (Lqe none [.i a0, .i a1, .i a2, .i a3, .l a4, .l a5, .l a12, .s a7]).bind fun y4 =>
 cond (decide ((g y4 0).int < 0)) (
 some [.i 2, .i 0, .i 0, .i 0, .i 0, .l ([]), .l ([]), .s (⟨#[]⟩ : ByteArray), .i 0, .s (⟨#[]⟩ : ByteArray), .s (⟨#[]⟩ : ByteArray), .l []]) (
 (Lqo none [.i a0, .i a1, .i a2, .i a3, .l a4, .l a5, .l a12]).bind fun y5 =>
 (Lqcg none [.i ((g y5 0).int), .i ((g y5 1).int), .i ((g y5 2).int), .i ((g y5 3).int), .l ((g y5 4).list), .l ((g y5 5).list), .s a7, .i a9, .l ((g y5 6).list)]).bind fun y6 =>
 some [.i ((g y6 0).int), .i ((g y6 1).int), .i ((g y6 2).int), .i ((g y6 3).int), .i ((g y6 4).int), .l ((g y6 5).list), .l ((g y6 6).list), .s ((g y6 7).str), .i ((g y6 8).int), .s ((g y6 9).str), .s ((g y6 10).str), .l ((g y6 11).list)])) (
 cond (a6 == 5) (
 (Lqbs none [.i a0, .i a1, .i a2, .i a3, .l a4, .l a5, .i a9, .l a12]).bind fun y7 =>
 some [.i ((g y7 0).int), .i ((g y7 1).int), .i ((g y7 2).int), .i ((g y7 3).int), .i ((g y7 4).int), .l ((g y7 5).list), .l ((g y7 6).list), .s ((g y7 7).str), .i ((g y7 8).int), .s ((g y7 9).str), .s ((g y7 10).str), .l ((g y7 11).list)]) (
 cond (a6 == 6) (
 (Lqbt none [.i a0, .i a1, .i a2, .i a3, .l a4, .l a5, .i a9, .l a12]).bind fun y8 =>
 some [.i ((g y8 0).int), .i ((g y8 1).int), .i ((g y8 2).int), .i ((g y8 3).int), .i ((g y8 4).int), .l ((g y8 5).list), .l ((g y8 6).list), .s ((g y8 7).str), .i ((g y8 8).int), .s ((g y8 9).str), .s ((g y8 10).str), .l ((g y8 11).list)]) (
 (Lq1 none [.i a0, .i a1, .i a2, .i a3, .l a4, .l a5, .s a7, .l a12]).bind fun y9 =>
 some [.i ((g y9 0).int), .i ((g y9 1).int), .i ((g y9 2).int), .i ((g y9 3).int), .i ((g y9 4).int), .l ((g y9 10).list), .l ((g y9 5).list), .s ((g y9 6).str), .i ((g y9 7).int), .s ((g y9 8).str), .s ((g y9 9).str), .l ((g y9 11).list)])))))) := (zd _ _).trans (by kernel_rfl)
theorem kqb8 : SigOk Tryz.prog (dqb8.sig (Lqb8 none)) ∧ (dqb8.sig (Lqb8 none)).ok = true := zf (zb kqo (by kernel_rfl) (zb kqe (by kernel_rfl) (zb kqcg (by kernel_rfl) (zb kqq (by kernel_rfl) (zb kqz (by kernel_rfl) (zb kqbr (by kernel_rfl) (zb kqbs (by kernel_rfl) (zb kqbt (by kernel_rfl) (zb kq1 (by kernel_rfl) ze))))))))) (by kernel_rfl) (by kernel_rfl) (by kernel_rfl)
def dqbu : FD := { fn := 34, nb := 0, pre := ⟨[.sc (.i .i64 0), .sc (.fz 9 false 1)], []⟩, post := ⟨[.ag [.i .i64 0, .i .i64 1, .i .i64 2, .i .i64 3, .i .i64 4, .ow 0, .ow 1, .ow 2, .s 5, .i .i64 6, .s 7, .s 8]], [.rw 90 true 9, .rw 156 true 10, .rw 158 true 11]⟩, sh := false, cuts := [⟨5, [0, 1, 4, 5, 6], ⟨[.sc (.i .i64 0), .sc (.fz 9 false 1), .sc (.pt 0 0), .sc (.pt 1 0), .sc (.i .i64 2)], [.bx [.i .i64 3, .i .i64 4, .i .i64 5, .i .i64 6, .i .i64 7, .ow 2, .ow 3, .ow 4, .s 8, .i .i64 9, .s 10, .s 11], .bx [.i .i64 12, .i .i64 13, .i .i64 14, .i .i64 15, .fz 90 true 16, .fz 156 true 17, .ow 5], .rw 90 true 18, .rw 156 true 19, .rw 158 true 20, .rw 158 true 21]⟩⟩] }
noncomputable def Lqbu : Option Nat → Lv → Option Lv := Lim Tryz.prog [dqi.sig (Lqi none), dqcc.sig (Lqcc none), dqo.sig (Lqo none), dqb8.sig (Lqb8 none)] dqbu Tryz.f34
theorem eqbu_i (a0 : Int) (a1 : Rw) : Lqbu none [.i a0, .l a1] =
 (Lqi none [.i a0]).bind fun y1 =>
 cond (!(g y1 0).bool) (
 some [.i 1, .i 0, .i 0, .i 0, .i 0, .s (⟨#[]⟩ : ByteArray), .i 0, .s (⟨#[]⟩ : ByteArray), .s (⟨#[]⟩ : ByteArray), .l [], .l [], .l []]) (
 cond (decide (4000 < (a1.length : Int))) (
 some [.i 1, .i 0, .i 0, .i 0, .i 0, .s (⟨#[]⟩ : ByteArray), .i 0, .s (⟨#[]⟩ : ByteArray), .s (⟨#[]⟩ : ByteArray), .l [], .l [], .l []]) (
 Lqbu (some 5) [.i a0, .l a1, .i 0, .i 0, .i 0, .i 0, .i 0, .i 0, .s (⟨#[]⟩ : ByteArray), .i 0, .s (⟨#[]⟩ : ByteArray), .s (⟨#[]⟩ : ByteArray), .i a0, .i 0, .i 0, .i 0, .l ([]), .l ([]), .l [], .l [], .l [], .l []])) := (zd _ _).trans (by kernel_rfl)
theorem eqbu_5 (a0 : Int) (a1 : Rw) (a2 a3 a4 a5 a6 a7 : Int) (a8 : ByteArray) (a9 : Int) (a10 a11 : ByteArray) (a12 a13 a14 a15 : Int) (a16 a17 a18 a19 a20 a21 : Rw) : Lqbu (some 5) [.i a0, .l a1, .i a2, .i a3, .i a4, .i a5, .i a6, .i a7, .s a8, .i a9, .s a10, .s a11, .i a12, .i a13, .i a14, .i a15, .l a16, .l a17, .l a18, .l a19, .l a20, .l a21] =
 cond (decide (a2 < (a1.length : Int))) (
 cond (inb a2 a1.length) (
 (Lqcc none [.s ((rd a1 a2.toNat 0).str), .i a0]).bind fun y1 =>
 cond (!(g y1 5).bool) (
 some [.i 7, .i 0, .i 0, .i 0, .i 0, .s (⟨#[]⟩ : ByteArray), .i (IntKind.i64.wrap (a2 + 1)), .s (⟨#[]⟩ : ByteArray), .s (⟨#[]⟩ : ByteArray), .l [], .l [], .l []]) (
 (Lqb8 none [.i a12, .i a13, .i a14, .i a15, .l a16, .l a17, .i ((g y1 0).int), .s ((g y1 1).str), .s ((g y1 2).str), .i ((g y1 3).int), .s ((g y1 4).str), .l ((g y1 6).list), .l a21]).bind fun y2 =>
 cond ((g y2 0).int != 0) (
 some [.i 7, .i 0, .i 0, .i 0, .i 0, .s (⟨#[]⟩ : ByteArray), .i (IntKind.i64.wrap (a2 + 1)), .s (⟨#[]⟩ : ByteArray), .s (⟨#[]⟩ : ByteArray), .l [], .l [], .l []]) (
 Lqbu (some 5) [.i a0, .l a1, .i (IntKind.i64.wrap (a2 + 1)), .i a3, .i a4, .i a5, .i a6, .i a7, .s a8, .i a9, .s a10, .s a11, .i ((g y2 1).int), .i ((g y2 2).int), .i ((g y2 3).int), .i ((g y2 4).int), .l ((g y2 5).list), .l ((g y2 6).list), .l a18, .l a19, .l a20, .l ((g y2 11).list)]))) (
 none)) (
 (Lqo none [.i a12, .i a13, .i a14, .i a15, .l a16, .l a17, .l a21]).bind fun y3 =>
 some [.i 0, .i ((g y3 0).int), .i ((g y3 1).int), .i ((g y3 2).int), .i ((g y3 3).int), .s (⟨#[]⟩ : ByteArray), .i 0, .s (⟨#[]⟩ : ByteArray), .s (⟨#[]⟩ : ByteArray), .l ((g y3 4).list), .l ((g y3 5).list), .l ((g y3 6).list)]) := (zd _ _).trans (by kernel_rfl)
theorem kqbu : SigOk Tryz.prog (dqbu.sig (Lqbu none)) ∧ (dqbu.sig (Lqbu none)).ok = true := zf (zb kqi (by kernel_rfl) (zb kqcc (by kernel_rfl) (zb kqo (by kernel_rfl) (zb kqb8 (by kernel_rfl) ze)))) (by kernel_rfl) (by kernel_rfl) (by kernel_rfl)
def dqu : FD := { fn := 87, nb := 0, pre := ⟨[.sc (.i .i64 0), .sc (.i .i64 1), .sc (.i .i64 2)], []⟩, post := ⟨[.sc (.b 0)], []⟩, sh := false, cuts := [] }
noncomputable def Lqu : Option Nat → Lv → Option Lv := Lim Tryz.prog [] dqu Tryz.f87
theorem equ_i (a0 a1 a2 : Int) : Lqu none [.i a0, .i a1, .i a2] =
 cond (decide (a1 ≤ a0)) (
 some [.b (decide (a0 ≤ a2))]) (
 some [.b false]) := (zd _ _).trans (by kernel_rfl)
theorem kqu : SigOk Tryz.prog (dqu.sig (Lqu none)) ∧ (dqu.sig (Lqu none)).ok = true := zf ze (by kernel_rfl) (by kernel_rfl) (by kernel_rfl)
end KV
end
section
set_option maxRecDepth 100000
namespace KV
open Go Go.Eng Go.Proofs
def dql : FD := { fn := 88, nb := 0, pre := ⟨[.ag [.fz 9 false 0, .fz 9 false 1]], []⟩, post := ⟨[.sc (.b 0)], []⟩, sh := false, cuts := [⟨2, [1, 3], ⟨[.sc (.pt 0 0), .sc (.i .i64 0)], [.bx [.fz 9 false 1, .fz 9 false 2]]⟩⟩, ⟨7, [1, 4], ⟨[.sc (.pt 0 0), .sc (.i .i64 0)], [.bx [.fz 9 false 1, .fz 9 false 2]]⟩⟩] }
noncomputable def Lql : Option Nat → Lv → Option Lv := Lim Tryz.prog [] dql Tryz.f88
theorem eql_i (a0 a1 : Rw) : Lql none [.l a0, .l a1] =
 Lql (some 2) [.i 0, .l a0, .l a1] := (zd _ _).trans (by kernel_rfl)
theorem eql_2 (a0 : Int) (a1 a2 : Rw) : Lql (some 2) [.i a0, .l a1, .l a2] =
 cond (decide (a0 < (a1.length : Int))) (
 cond (inb a0 a1.length) (
 cond (decide (5000 < (((rd a1 a0.toNat 0).str).size : Int))) (
 some [.b false]) (
 Lql (some 2) [.i (IntKind.i64.wrap (a0 + 1)), .l a1, .l a2])) (
 none)) (
 Lql (some 7) [.i 0, .l a1, .l a2]) := (zd _ _).trans (by kernel_rfl)
theorem eql_7 (a0 : Int) (a1 a2 : Rw) : Lql (some 7) [.i a0, .l a1, .l a2] =
 cond (decide (a0 < (a2.length : Int))) (
 cond (inb a0 a2.length) (
 cond (decide (5000 < (((rd a2 a0.toNat 0).str).size : Int))) (
 some [.b false]) (
 Lql (some 7) [.i (IntKind.i64.wrap (a0 + 1)), .l a1, .l a2])) (
 none)) (
 some [.b (decide ((IntKind.i64.wrap ((a1.length : Int) + (a2.length : Int))) ≤ 4000))]) := (zd _ _).trans (by kernel_rfl)
theorem kql : SigOk Tryz.prog (dql.sig (Lql none)) ∧ (dql.sig (Lql none)).ok = true := zf ze (by kernel_rfl) (by kernel_rfl) (by kernel_rfl)
def dqck : FD := { fn := 89, nb := 0, pre := ⟨[.ag [.fz 9 false 0, .fz 9 false 1]], []⟩, post := ⟨[.sc (.ow 0)], [.rw 9 true 0]⟩, sh := false, cuts := [] }
noncomputable def Lqck : Option Nat → Lv → Option Lv := Lim Tryz.prog [] dqck Tryz.f89
theorem eqck_i (a0 a1 : Rw) : Lqck none [.l a0, .l a1] =
 cond (decide (([] : Rw).length + a0.length ≤ most)) (
 cond (decide ((([] : Rw) ++ a0).length + a1.length ≤ most)) (
 some [.l ((([] : Rw) ++ a0) ++ a1)]) (
 none)) (
 none) := (zd _ _).trans (by kernel_rfl)
theorem kqck : SigOk Tryz.prog (dqck.sig (Lqck none)) ∧ (dqck.sig (Lqck none)).ok = true := zf ze (by kernel_rfl) (by kernel_rfl) (by kernel_rfl)
def dqcl : FD := { fn := 206, nb := 0, pre := ⟨[.ag [.fz 9 false 0, .fz 9 false 1]], []⟩, post := ⟨[.ag [.ow 0, .ow 1]], [.rw 9 true 0, .rw 9 true 1]⟩, sh := false, cuts := [] }
noncomputable def Lqcl : Option Nat → Lv → Option Lv := Lim Tryz.prog [] dqcl Tryz.f206
theorem eqcl_i (a0 a1 : Rw) : Lqcl none [.l a0, .l a1] =
 cond (decide (([] : Rw).length + a0.length ≤ most)) (
 cond (decide (([] : Rw).length + a1.length ≤ most)) (
 some [.l (([] : Rw) ++ a0), .l (([] : Rw) ++ a1)]) (
 none)) (
 none) := (zd _ _).trans (by kernel_rfl)
theorem kqcl : SigOk Tryz.prog (dqcl.sig (Lqcl none)) ∧ (dqcl.sig (Lqcl none)).ok = true := zf ze (by kernel_rfl) (by kernel_rfl) (by kernel_rfl)
def dqce : FD := { fn := 173, nb := 0, pre := ⟨[.sc (.i .i64 0), .sc (.i .i64 1), .ag [.fz 9 false 2, .fz 9 false 3]], []⟩, post := ⟨[.tu [(true, [.i .i64 0, .i .i64 1, .ow 0, .ow 1, .i .i64 2, .i .i64 3, .i .i64 4, .i .i64 5, .ow 2, .ow 3, .ow 4, .i .i64 6, .fz 9 true 7, .fz 9 true 8, .i .i64 9, .i .i64 10, .i .i64 11]), (false, [.i .i64 12])]], [.rw 9 true 13, .rw 9 true 14, .rw 90 true 15, .rw 156 true 16, .rw 158 true 17]⟩, sh := false, cuts := [] }
noncomputable def Lqce : Option Nat → Lv → Option Lv := Lim Tryz.prog [dqi.sig (Lqi none), dqbu.sig (Lqbu none), dqu.sig (Lqu none), dql.sig (Lql none), dqck.sig (Lqck none), dqcl.sig (Lqcl none)] dqce Tryz.f173
theorem eqce_i (a0 a1 : Int) (a2 a3 : Rw) : Lqce none [.i a0, .i a1, .l a2, .l a3] =
 (Lqi none [.i a0]).bind fun y1 =>
 cond (!(g y1 0).bool) (
 some [.i 0, .i 0, .i 0, .i 0, .i 0, .i 0, .i 0, .l ([]), .l ([]), .i 0, .i 0, .i 0, .i 1, .l [], .l [], .l [], .l [], .l []]) (
 (Lqu none [.i a1, .i 0, .i 1000000]).bind fun y2 =>
 cond (!(g y2 0).bool) (
 some [.i 0, .i 0, .i 0, .i 0, .i 0, .i 0, .i 0, .l ([]), .l ([]), .i 0, .i 0, .i 0, .i 1, .l [], .l [], .l [], .l [], .l []]) (
 (Lql none [.l a2, .l a3]).bind fun y3 =>
 cond (!(g y3 0).bool) (
 some [.i 0, .i 0, .i 0, .i 0, .i 0, .i 0, .i 0, .l ([]), .l ([]), .i 0, .i 0, .i 0, .i 1, .l [], .l [], .l [], .l [], .l []]) (
 (Lqck none [.l a2, .l a3]).bind fun y4 =>
 (Lqbu none [.i a0, .l ((g y4 0).list)]).bind fun y5 =>
 cond ((g y5 0).int != 0) (
 some [.i 0, .i 0, .i 0, .i 0, .i 0, .i 0, .i 0, .l ([]), .l ([]), .i 0, .i 0, .i 0, .i 2, .l [], .l [], .l [], .l [], .l []]) (
 (Lqcl none [.l a2, .l a3]).bind fun y6 =>
 some [.i a0, .i a1, .i ((g y5 1).int), .i ((g y5 2).int), .i ((g y5 3).int), .i ((g y5 4).int), .i 0, .l ([]), .l ([]), .i 0, .i 0, .i 0, .i 0, .l ((g y6 0).list), .l ((g y6 1).list), .l ((g y5 9).list), .l ((g y5 10).list), .l ((g y5 11).list)])))) := (zd _ _).trans (by kernel_rfl)
theorem kqce : SigOk Tryz.prog (dqce.sig (Lqce none)) ∧ (dqce.sig (Lqce none)).ok = true := zf (zb kqi (by kernel_rfl) (zb kqbu (by kernel_rfl) (zb kqu (by kernel_rfl) (zb kql (by kernel_rfl) (zb kqck (by kernel_rfl) (zb kqcl (by kernel_rfl) ze)))))) (by kernel_rfl) (by kernel_rfl) (by kernel_rfl)
def dqb4 : FD := { fn := 155, nb := 0, pre := ⟨[.ag [.s 0, .fz 9 false 1], .ag [.s 2, .fz 9 false 3]], []⟩, post := ⟨[.sc (.b 0)], []⟩, sh := false, cuts := [⟨4, [2, 3, 5], ⟨[.sc (.pt 0 0), .sc (.pt 1 0), .sc (.i .i64 0)], [.bx [.s 1, .fz 9 false 2], .bx [.s 3, .fz 9 false 4]]⟩⟩] }
noncomputable def Lqb4 : Option Nat → Lv → Option Lv := Lim Tryz.prog [] dqb4 Tryz.f155
theorem eqb4_i (a0 : ByteArray) (a1 : Rw) (a2 : ByteArray) (a3 : Rw) : Lqb4 none [.s a0, .l a1, .s a2, .l a3] =
 cond (!Eng.seq a0 a2) (
 some [.b false]) (
 cond ((a1.length : Int) != (a3.length : Int)) (
 some [.b false]) (
 Lqb4 (some 4) [.i 0, .s a0, .l a1, .s a2, .l a3])) := (zd _ _).trans (by kernel_rfl)
theorem eqb4_4 (a0 : Int) (a1 : ByteArray) (a2 : Rw) (a3 : ByteArray) (a4 : Rw) : Lqb4 (some 4) [.i a0, .s a1, .l a2, .s a3, .l a4] =
 cond (decide (a0 < (a2.length : Int))) (
 cond (inb a0 a2.length) (
 cond (inb a0 a4.length) (
 cond (!Eng.seq ((rd a2 a0.toNat 0).str) ((rd a4 a0.toNat 0).str)) (
 some [.b false]) (
 Lqb4 (some 4) [.i (IntKind.i64.wrap (a0 + 1)), .s a1, .l a2, .s a3, .l a4])) (
 none)) (
 none)) (
 some [.b true]) := (zd _ _).trans (by kernel_rfl)
theorem kqb4 : SigOk Tryz.prog (dqb4.sig (Lqb4 none)) ∧ (dqb4.sig (Lqb4 none)).ok = true := zf ze (by kernel_rfl) (by kernel_rfl) (by kernel_rfl)
def dqj : FD := { fn := 90, nb := 0, pre := ⟨[.ag [.i .i64 0, .i .i64 1, .i .i64 2, .i .i64 3, .fz 90 false 4, .fz 156 false 5, .fz 158 false 6], .ag [.i .i64 7, .i .i64 8, .i .i64 9, .i .i64 10, .fz 90 false 11, .fz 156 false 12, .fz 158 false 13]], []⟩, post := ⟨[.sc (.b 0)], []⟩, sh := false, cuts := [⟨4, [2, 3, 5], ⟨[.sc (.pt 0 0), .sc (.pt 1 0), .sc (.i .i64 0)], [.bx [.i .i64 1, .i .i64 2, .i .i64 3, .i .i64 4, .fz 90 false 5, .fz 156 false 6, .fz 158 false 7], .bx [.i .i64 8, .i .i64 9, .i .i64 10, .i .i64 11, .fz 90 false 12, .fz 156 false 13, .fz 158 false 14]]⟩⟩, ⟨9, [2, 3, 6], ⟨[.sc (.pt 0 0), .sc (.pt 1 0), .sc (.i .i64 0)], [.bx [.i .i64 1, .i .i64 2, .i .i64 3, .i .i64 4, .fz 90 false 5, .fz 156 false 6, .fz 158 false 7], .bx [.i .i64 8, .i .i64 9, .i .i64 10, .i .i64 11, .fz 90 false 12, .fz 156 false 13, .fz 158 false 14]]⟩⟩, ⟨14, [2, 3, 7], ⟨[.sc (.pt 0 0), .sc (.pt 1 0), .sc (.i .i64 0)], [.bx [.i .i64 1, .i .i64 2, .i .i64 3, .i .i64 4, .fz 90 false 5, .fz 156 false 6, .fz 158 false 7], .bx [.i .i64 8, .i .i64 9, .i .i64 10, .i .i64 11, .fz 90 false 12, .fz 156 false 13, .fz 158 false 14]]⟩⟩] }
noncomputable def Lqj : Option Nat → Lv → Option Lv := Lim Tryz.prog [dqb4.sig (Lqb4 none)] dqj Tryz.f90
theorem eqj_i (a0 a1 a2 a3 : Int) (a4 a5 a6 : Rw) (a7 a8 a9 a10 : Int) (a11 a12 a13 : Rw) : Lqj none [.i a0, .i a1, .i a2, .i a3, .l a4, .l a5, .l a6, .i a7, .i a8, .i a9, .i a10, .l a11, .l a12, .l a13] =
 cond (a0 != a7) (
 some [.b false]) (
 cond (a1 != a8) (
 some [.b false]) (
 cond (a2 != a9) (
 some [.b false]) (
 cond (a3 != a10) (
 some [.b false]) (
 cond ((a4.length : Int) != (a11.length : Int)) (
 some [.b false]) (
 cond ((a5.length : Int) != (a12.length : Int)) (
 some [.b false]) (
 cond ((a6.length : Int) != (a13.length : Int)) (
 some [.b false]) (
 Lqj (some 4) [.i 0, .i a0, .i a1, .i a2, .i a3, .l a4, .l a5, .l a6, .i a7, .i a8, .i a9, .i a10, .l a11, .l a12, .l a13]))))))) := (zd _ _).trans (by kernel_rfl)
theorem eqj_4 (a0 a1 a2 a3 a4 : Int) (a5 a6 a7 : Rw) (a8 a9 a10 a11 : Int) (a12 a13 a14 : Rw) : Lqj (some 4) [.i a0, .i a1, .i a2, .i a3, .i a4, .l a5, .l a6, .l a7, .i a8, .i a9, .i a10, .i a11, .l a12, .l a13, .l a14] =
 cond (decide (a0 < (a5.length : Int))) (
 cond (inb a0 a5.length) (
 cond (inb a0 a12.length) (
 cond (!Eng.seq ((rd a5 a0.toNat 0).str) ((rd a12 a0.toNat 0).str)) (
 some [.b false]) (
 cond (inb a0 a5.length) (
 cond (inb a0 a12.length) (
 cond ((rd a5 a0.toNat 1).int != (rd a12 a0.toNat 1).int) (
 some [.b false]) (
 cond (inb a0 a5.length) (
 cond (inb a0 a12.length) (
 (Lqb4 none [.s ((rd a5 a0.toNat 2).str), .l ((rd a5 a0.toNat 3).list), .s ((rd a12 a0.toNat 2).str), .l ((rd a12 a0.toNat 3).list)]).bind fun y1 =>
 cond (!(g y1 0).bool) (
 some [.b false]) (
 Lqj (some 4) [.i (IntKind.i64.wrap (a0 + 1)), .i a1, .i a2, .i a3, .i a4, .l a5, .l a6, .l a7, .i a8, .i a9, .i a10, .i a11, .l a12, .l a13, .l a14])) (
 none)) (
 none))) (
 none)) (
 none))) (
 none)) (
 none)) (
 Lqj (some 9) [.i 0, .i a1, .i a2, .i a3, .i a4, .l a5, .l a6, .l a7, .i a8, .i a9, .i a10, .i a11, .l a12, .l a13, .l a14]) := (zd _ _).trans (by kernel_rfl)
theorem eqj_9 (a0 a1 a2 a3 a4 : Int) (a5 a6 a7 : Rw) (a8 a9 a10 a11 : Int) (a12 a13 a14 : Rw) : Lqj (some 9) [.i a0, .i a1, .i a2, .i a3, .i a4, .l a5, .l a6, .l a7, .i a8, .i a9, .i a10, .i a11, .l a12, .l a13, .l a14] =
 cond (decide (a0 < (a6.length : Int))) (
 cond (inb a0 a6.length) (
 cond (inb a0 a13.length) (
 cond (!((Eng.seq ((rd a6 a0.toNat 0).str) ((rd a13 a0.toNat 0).str)) && ((Eng.seq ((rd a6 a0.toNat 1).str) ((rd a13 a0.toNat 1).str)) && true))) (
 some [.b false]) (
 Lqj (some 9) [.i (IntKind.i64.wrap (a0 + 1)), .i a1, .i a2, .i a3, .i a4, .l a5, .l a6, .l a7, .i a8, .i a9, .i a10, .i a11, .l a12, .l a13, .l a14])) (
 none)) (
 none)) (
 Lqj (some 14) [.i 0, .i a1, .i a2, .i a3, .i a4, .l a5, .l a6, .l a7, .i a8, .i a9, .i a10, .i a11, .l a12, .l a13, .l a14]) := (zd _ _).trans (by kernel_rfl)
theorem eqj_14 (a0 a1 a2 a3 a4 : Int) (a5 a6 a7 : Rw) (a8 a9 a10 a11 : Int) (a12 a13 a14 : Rw) : Lqj (some 14) [.i a0, .i a1, .i a2, .i a3, .i a4, .l a5, .l a6, .l a7, .i a8, .i a9, .i a10, .i a11, .l a12, .l a13, .l a14] =
 cond (decide (a0 < (a7.length : Int))) (
 cond (inb a0 a7.length) (
 cond (inb a0 a14.length) (
 cond (!(((rd a7 a0.toNat 0).int == (rd a14 a0.toNat 0).int) && ((Eng.seq ((rd a7 a0.toNat 1).str) ((rd a14 a0.toNat 1).str)) && (((rd a7 a0.toNat 2).int == (rd a14 a0.toNat 2).int) && true)))) (
 some [.b false]) (
 Lqj (some 14) [.i (IntKind.i64.wrap (a0 + 1)), .i a1, .i a2, .i a3, .i a4, .l a5, .l a6, .l a7, .i a8, .i a9, .i a10, .i a11, .l a12, .l a13, .l a14])) (
 none)) (
 none)) (
 some [.b true]) := (zd _ _).trans (by kernel_rfl)
theorem kqj : SigOk Tryz.prog (dqj.sig (Lqj none)) ∧ (dqj.sig (Lqj none)).ok = true := zf (zb kqb4 (by kernel_rfl) ze) (by kernel_rfl) (by kernel_rfl) (by kernel_rfl)
def dqv : FD := { fn := 91, nb := 0, pre := ⟨[.ag [.i .i64 0, .i .i64 1, .i .i64 2, .i .i64 3, .fz 90 false 4, .fz 156 false 5, .fz 158 false 6], .ag [.i .i64 7, .fz 9 false 8, .fz 9 false 9, .i .i64 10, .i .i64 11, .i .i64 12]], []⟩, post := ⟨[.sc (.b 0)], []⟩, sh := false, cuts := [⟨4, [2, 3, 5], ⟨[.sc (.pt 0 0), .sc (.pt 1 0), .sc (.i .i64 0)], [.bx [.i .i64 1, .i .i64 2, .i .i64 3, .i .i64 4, .fz 90 false 5, .fz 156 false 6, .fz 158 false 7], .bx [.i .i64 8, .fz 9 false 9, .fz 9 false 10, .i .i64 11, .i .i64 12, .i .i64 13]]⟩⟩, ⟨9, [2, 3, 6], ⟨[.sc (.pt 0 0), .sc (.pt 1 0), .sc (.i .i64 0)], [.bx [.i .i64 1, .i .i64 2, .i .i64 3, .i .i64 4, .fz 90 false 5, .fz 156 false 6, .fz 158 false 7], .bx [.i .i64 8, .fz 9 false 9, .fz 9 false 10, .i .i64 11, .i .i64 12, .i .i64 13]]⟩⟩] }
noncomputable def Lqv : Option Nat → Lv → Option Lv := Lim Tryz.prog [dqp.sig (Lqp none), dqu.sig (Lqu none)] dqv Tryz.f91
theorem eqv_i (a0 a1 a2 a3 : Int) (a4 a5 a6 : Rw) (a7 : Int) (a8 a9 : Rw) (a10 a11 a12 : Int) : Lqv none [.i a0, .i a1, .i a2, .i a3, .l a4, .l a5, .l a6, .i a7, .l a8, .l a9, .i a10, .i a11, .i a12] =
 cond (decide (a7 < 0)) (
 some [.b false]) (
 cond (decide (2 < a7)) (
 some [.b false]) (
 (Lqu none [.i a12, .i 0, .i 1000000000]).bind fun y1 =>
 cond (!(g y1 0).bool) (
 some [.b false]) (
 cond (decide (23200 < (a8.length : Int))) (
 some [.b false]) (
 cond (decide (600 < (a9.length : Int))) (
 some [.b false]) (
 Lqv (some 4) [.i 0, .i a0, .i a1, .i a2, .i a3, .l a4, .l a5, .l a6, .i a7, .l a8, .l a9, .i a10, .i a11, .i a12]))))) := (zd _ _).trans (by kernel_rfl)
theorem eqv_4 (a0 a1 a2 a3 a4 : Int) (a5 a6 a7 : Rw) (a8 : Int) (a9 a10 : Rw) (a11 a12 a13 : Int) : Lqv (some 4) [.i a0, .i a1, .i a2, .i a3, .i a4, .l a5, .l a6, .l a7, .i a8, .l a9, .l a10, .i a11, .i a12, .i a13] =
 cond (decide (a0 < (a9.length : Int))) (
 cond (inb a0 a9.length) (
 cond ((((rd a9 a0.toNat 0).str).size : Int) != a1) (
 some [.b false]) (
 Lqv (some 4) [.i (IntKind.i64.wrap (a0 + 1)), .i a1, .i a2, .i a3, .i a4, .l a5, .l a6, .l a7, .i a8, .l a9, .l a10, .i a11, .i a12, .i a13])) (
 none)) (
 Lqv (some 9) [.i 0, .i a1, .i a2, .i a3, .i a4, .l a5, .l a6, .l a7, .i a8, .l a9, .l a10, .i a11, .i a12, .i a13]) := (zd _ _).trans (by kernel_rfl)
theorem eqv_9 (a0 a1 a2 a3 a4 : Int) (a5 a6 a7 : Rw) (a8 : Int) (a9 a10 : Rw) (a11 a12 a13 : Int) : Lqv (some 9) [.i a0, .i a1, .i a2, .i a3, .i a4, .l a5, .l a6, .l a7, .i a8, .l a9, .l a10, .i a11, .i a12, .i a13] =
 cond (decide (a0 < (a10.length : Int))) (
 cond (inb a0 a10.length) (
 cond ((((rd a10 a0.toNat 0).str).size : Int) != a1) (
 some [.b false]) (
 cond (decide (0 ≤ a0)) (
 cond (decide (a0 ≤ (a10.length : Int))) (
 cond (inb a0 a10.length) (
 (Lqp none [.l (Eng.sub a10 0 a0.toNat), .s ((rd a10 a0.toNat 0).str)]).bind fun y1 =>
 cond ((g y1 0).bool) (
 some [.b false]) (
 Lqv (some 9) [.i (IntKind.i64.wrap (a0 + 1)), .i a1, .i a2, .i a3, .i a4, .l a5, .l a6, .l a7, .i a8, .l a9, .l a10, .i a11, .i a12, .i a13])) (
 none)) (
 none)) (
 none))) (
 none)) (
 cond (a8 == 0) (
 cond ((a9.length : Int) == 0) (
 cond ((a10.length : Int) == 0) (
 cond (a11 == 0) (
 some [.b (a12 == 0)]) (
 some [.b false])) (
 some [.b false])) (
 some [.b false])) (
 (Lqu none [.i a11, .i 0, .i a4]).bind fun y2 =>
 cond (!(g y2 0).bool) (
 some [.b false]) (
 (Lqu none [.i a12, .i 1, .i (IntKind.i64.wrap (a11 + 1))]).bind fun y3 =>
 cond (!(g y3 0).bool) (
 some [.b false]) (
 cond (a8 == 2) (
 some [.b true]) (
 some [.b (a12 == (IntKind.i64.wrap (a11 + 1)))]))))) := (zd _ _).trans (by kernel_rfl)
theorem kqv : SigOk Tryz.prog (dqv.sig (Lqv none)) ∧ (dqv.sig (Lqv none)).ok = true := zf (zb kqp (by kernel_rfl) (zb kqu (by kernel_rfl) ze)) (by kernel_rfl) (by kernel_rfl) (by kernel_rfl)
def dqbo : FD := { fn := 19, nb := 0, pre := ⟨[.ag [.i .i64 0, .i .i64 1, .fz 9 false 2, .fz 9 false 3, .i .i64 4, .i .i64 5, .i .i64 6, .i .i64 7, .fz 90 false 8, .fz 156 false 9, .fz 158 false 10, .i .i64 11, .fz 9 false 12, .fz 9 false 13, .i .i64 14, .i .i64 15, .i .i64 16]], []⟩, post := ⟨[.sc (.b 0)], []⟩, sh := false, cuts := [] }
noncomputable def Lqbo : Option Nat → Lv → Option Lv := Lim Tryz.prog [dqi.sig (Lqi none), dqbu.sig (Lqbu none), dqu.sig (Lqu none), dql.sig (Lql none), dqck.sig (Lqck none), dqj.sig (Lqj none), dqv.sig (Lqv none)] dqbo Tryz.f19
theorem eqbo_i (a0 a1 : Int) (a2 a3 : Rw) (a4 a5 a6 a7 : Int) (a8 a9 a10 : Rw) (a11 : Int) (a12 a13 : Rw) (a14 a15 a16 : Int) : Lqbo none [.i a0, .i a1, .l a2, .l a3, .i a4, .i a5, .i a6, .i a7, .l a8, .l a9, .l a10, .i a11, .l a12, .l a13, .i a14, .i a15, .i a16] =
 (Lqi none [.i a0]).bind fun y1 =>
 cond (!(g y1 0).bool) (
 some [.b false]) (
 (Lqu none [.i a1, .i 0, .i 1000000]).bind fun y2 =>
 cond (!(g y2 0).bool) (
 some [.b false]) (
 (Lql none [.l a2, .l a3]).bind fun y3 =>
 cond (!(g y3 0).bool) (
 some [.b false]) (
 (Lqck none [.l a2, .l a3]).bind fun y4 =>
 (Lqbu none [.i a0, .l ((g y4 0).list)]).bind fun y5 =>
 cond ((g y5 0).int == 0) (
 (Lqj none [.i ((g y5 1).int), .i ((g y5 2).int), .i ((g y5 3).int), .i ((g y5 4).int), .l ((g y5 9).list), .l ((g y5 10).list), .l ((g y5 11).list), .i a4, .i a5, .i a6, .i a7, .l a8, .l a9, .l a10]).bind fun y6 =>
 cond ((g y6 0).bool) (
 (Lqv none [.i a4, .i a5, .i a6, .i a7, .l a8, .l a9, .l a10, .i a11, .l a12, .l a13, .i a14, .i a15, .i a16]).bind fun y7 =>
 some [.b ((g y7 0).bool)]) (
 some [.b false])) (
 some [.b false])))) := (zd _ _).trans (by kernel_rfl)
theorem kqbo : SigOk Tryz.prog (dqbo.sig (Lqbo none)) ∧ (dqbo.sig (Lqbo none)).ok = true := zf (zb kqi (by kernel_rfl) (zb kqbu (by kernel_rfl) (zb kqu (by kernel_rfl) (zb kql (by kernel_rfl) (zb kqck (by kernel_rfl) (zb kqj (by kernel_rfl) (zb kqv (by kernel_rfl) ze))))))) (by kernel_rfl) (by kernel_rfl) (by kernel_rfl)
def dqb9 : FD := { fn := 207, nb := 0, pre := ⟨[.ag [.i .i64 0, .fz 9 false 1, .fz 9 false 2, .i .i64 3, .i .i64 4, .i .i64 5]], []⟩, post := ⟨[.ag [.i .i64 0, .ow 0, .ow 1, .i .i64 1, .i .i64 2, .i .i64 3]], [.rw 9 true 4, .rw 9 true 5]⟩, sh := false, cuts := [] }
noncomputable def Lqb9 : Option Nat → Lv → Option Lv := Lim Tryz.prog [] dqb9 Tryz.f207
theorem eqb9_i (a0 : Int) (a1 a2 : Rw) (a3 a4 a5 : Int) : Lqb9 none [.i a0, .l a1, .l a2, .i a3, .i a4, .i a5] =
 cond (decide (([] : Rw).length + a1.length ≤ most)) (
 cond (decide (([] : Rw).length + a2.length ≤ most)) (
 some [.i a0, .i a3, .i a4, .i a5, .l (([] : Rw) ++ a1), .l (([] : Rw) ++ a2)]) (
 none)) (
 none) := (zd _ _).trans (by kernel_rfl)
theorem kqb9 : SigOk Tryz.prog (dqb9.sig (Lqb9 none)) ∧ (dqb9.sig (Lqb9 none)).ok = true := zf ze (by kernel_rfl) (by kernel_rfl) (by kernel_rfl)
def dqbp : FD := { fn := 156, nb := 0, pre := ⟨[.ag [.i .i64 0, .i .i64 1, .fz 9 false 2, .fz 9 false 3, .i .i64 4, .i .i64 5, .i .i64 6, .i .i64 7, .fz 90 false 8, .fz 156 false 9, .fz 158 false 10, .i .i64 11, .fz 9 false 12, .fz 9 false 13, .i .i64 14, .i .i64 15, .i .i64 16]], []⟩, post := ⟨[.ag [.i .i64 0, .i .i64 1, .ow 0, .ow 1, .i .i64 2, .i .i64 3, .i .i64 4, .i .i64 5, .ow 2, .ow 3, .ow 4, .i .i64 6, .ow 5, .ow 6, .i .i64 7, .i .i64 8, .i .i64 9]], [.rw 9 true 10, .rw 9 true 11, .rw 90 true 12, .rw 156 true 13, .rw 158 true 14, .rw 9 true 15, .rw 9 true 16]⟩, sh := false, cuts := [] }
noncomputable def Lqbp : Option Nat → Lv → Option Lv := Lim Tryz.prog [dqo.sig (Lqo none), dqcl.sig (Lqcl none), dqb9.sig (Lqb9 none)] dqbp Tryz.f156
theorem eqbp_i (a0 a1 : Int) (a2 a3 : Rw) (a4 a5 a6 a7 : Int) (a8 a9 a10 : Rw) (a11 : Int) (a12 a13 : Rw) (a14 a15 a16 : Int) : Lqbp none [.i a0, .i a1, .l a2, .l a3, .i a4, .i a5, .i a6, .i a7, .l a8, .l a9, .l a10, .i a11, .l a12, .l a13, .i a14, .i a15, .i a16] =
 (Lqcl none [.l a2, .l a3]).bind fun y1 =>
 (Lqo none [.i a4, .i a5, .i a6, .i a7, .l a8, .l a9, .l a10]).bind fun y2 =>
 (Lqb9 none [.i a11, .l a12, .l a13, .i a14, .i a15, .i a16]).bind fun y3 =>
 some [.i a0, .i a1, .i ((g y2 0).int), .i ((g y2 1).int), .i ((g y2 2).int), .i ((g y2 3).int), .i ((g y3 0).int), .i ((g y3 1).int), .i ((g y3 2).int), .i ((g y3 3).int), .l ((g y1 0).list), .l ((g y1 1).list), .l ((g y2 4).list), .l ((g y2 5).list), .l ((g y2 6).list), .l ((g y3 4).list), .l ((g y3 5).list)] := (zd _ _).trans (by kernel_rfl)
theorem kqbp : SigOk Tryz.prog (dqbp.sig (Lqbp none)) ∧ (dqbp.sig (Lqbp none)).ok = true := zf (zb kqo (by kernel_rfl) (zb kqcl (by kernel_rfl) (zb kqb9 (by kernel_rfl) ze))) (by kernel_rfl) (by kernel_rfl) (by kernel_rfl)
def dqb5 : FD := { fn := 202, nb := 0, pre := ⟨[.ag [.i .i64 0, .i .i64 1, .i .i64 2, .i .i64 3, .fz 90 false 4, .fz 156 false 5, .fz 158 false 6]], []⟩, post := ⟨[.sc (.i .i64 0)], []⟩, sh := false, cuts := [⟨3, [1, 3, 4], ⟨[.sc (.pt 0 0), .sc (.i .i64 0), .sc (.i .i64 1)], [.bx [.i .i64 2, .i .i64 3, .i .i64 4, .i .i64 5, .fz 90 false 6, .fz 156 false 7, .fz 158 false 8]]⟩⟩] }
noncomputable def Lqb5 : Option Nat → Lv → Option Lv := Lim Tryz.prog [] dqb5 Tryz.f202
theorem eqb5_i (a0 a1 a2 a3 : Int) (a4 a5 a6 : Rw) : Lqb5 none [.i a0, .i a1, .i a2, .i a3, .l a4, .l a5, .l a6] =
 Lqb5 (some 3) [.i 0, .i 0, .i a0, .i a1, .i a2, .i a3, .l a4, .l a5, .l a6] := (zd _ _).trans (by kernel_rfl)
theorem eqb5_3 (a0 a1 a2 a3 a4 a5 : Int) (a6 a7 a8 : Rw) : Lqb5 (some 3) [.i a0, .i a1, .i a2, .i a3, .i a4, .i a5, .l a6, .l a7, .l a8] =
 cond (decide (a1 < (a6.length : Int))) (
 cond (inb a1 a6.length) (
 cond (inb a1 a6.length) (
 Lqb5 (some 3) [.i (IntKind.i64.wrap ((IntKind.i64.wrap ((IntKind.i64.wrap (a0 + 1)) + (IntKind.i64.wrap ((((rd a6 a1.toNat 3).list).length : Int) * a2)))) + (((rd a6 a1.toNat 2).str).size : Int))), .i (IntKind.i64.wrap (a1 + 1)), .i a2, .i a3, .i a4, .i a5, .l a6, .l a7, .l a8]) (
 none)) (
 none)) (
 some [.i a0]) := (zd _ _).trans (by kernel_rfl)
theorem kqb5 : SigOk Tryz.prog (dqb5.sig (Lqb5 none)) ∧ (dqb5.sig (Lqb5 none)).ok = true := zf ze (by kernel_rfl) (by kernel_rfl) (by kernel_rfl)
def dqcq : FD := { fn := 203, nb := 0, pre := ⟨[.ag [.i .i64 0, .i .i64 1, .i .i64 2, .i .i64 3, .fz 90 false 4, .fz 156 false 5, .fz 158 false 6], .ag [.i .i64 7, .fz 9 false 8, .fz 9 false 9, .i .i64 10, .i .i64 11, .i .i64 12], .sc (.s 13)], []⟩, post := ⟨[.ag [.i .i64 0, .ow 0, .ow 1, .i .i64 1, .i .i64 2, .i .i64 3]], [.rw 9 true 4, .rw 9 true 5]⟩, sh := false, cuts := [] }
noncomputable def Lqcq : Option Nat → Lv → Option Lv := Lim Tryz.prog [dqe.sig (Lqe none), dqp.sig (Lqp none), dqb9.sig (Lqb9 none)] dqcq Tryz.f203
theorem eqcq_i (a0 a1 a2 a3 : Int) (a4 a5 a6 : Rw) (a7 : Int) (a8 a9 : Rw) (a10 a11 a12 : Int) (a13 : ByteArray) : Lqcq none [.i a0, .i a1, .i a2, .i a3, .l a4, .l a5, .l a6, .i a7, .l a8, .l a9, .i a10, .i a11, .i a12, .s a13] =
 cond (a7 == 0) (
 (Lqb9 none [.i a7, .l a8, .l a9, .i a10, .i a11, .i a12]).bind fun y1 =>
 some [.i ((g y1 0).int), .i ((g y1 1).int), .i ((g y1 2).int), .i ((g y1 3).int), .l ((g y1 4).list), .l ((g y1 5).list)]) (
 (Lqe none [.i a0, .i a1, .i a2, .i a3, .l a4, .l a5, .l a6, .s a13]).bind fun y2 =>
 cond (decide ((g y2 0).int < 0)) (
 (Lqb9 none [.i a7, .l a8, .l a9, .i a10, .i a11, .i a12]).bind fun y3 =>
 some [.i ((g y3 0).int), .i ((g y3 1).int), .i ((g y3 2).int), .i ((g y3 3).int), .l ((g y3 4).list), .l ((g y3 5).list)]) (
 (Lqp none [.l a9, .s a13]).bind fun y4 =>
 cond ((g y4 0).bool) (
 (Lqb9 none [.i a7, .l a8, .l a9, .i a10, .i a11, .i a12]).bind fun y5 =>
 some [.i ((g y5 0).int), .i ((g y5 1).int), .i ((g y5 2).int), .i ((g y5 3).int), .l ((g y5 4).list), .l ((g y5 5).list)]) (
 cond (decide (23200 ≤ (a8.length : Int))) (
 (Lqb9 none [.i a7, .l a8, .l a9, .i a10, .i a11, .i a12]).bind fun y6 =>
 some [.i ((g y6 0).int), .i ((g y6 1).int), .i ((g y6 2).int), .i ((g y6 3).int), .l ((g y6 4).list), .l ((g y6 5).list)]) (
 (Lqb9 none [.i a7, .l a8, .l a9, .i a10, .i a11, .i a12]).bind fun y7 =>
 cond (decide (((g y7 4).list).length + ([[.s a13]] : Rw).length ≤ most)) (
 some [.i ((g y7 0).int), .i ((g y7 1).int), .i ((g y7 2).int), .i ((g y7 3).int), .l ((g y7 4).list ++ ([[.s a13]] : Rw)), .l ((g y7 5).list)]) (
 none))))) := (zd _ _).trans (by kernel_rfl)
theorem kqcq : SigOk Tryz.prog (dqcq.sig (Lqcq none)) ∧ (dqcq.sig (Lqcq none)).ok = true := zf (zb kqe (by kernel_rfl) (zb kqp (by kernel_rfl) (zb kqb9 (by kernel_rfl) ze))) (by kernel_rfl) (by kernel_rfl) (by kernel_rfl)
def dqk : FD := { fn := 147, nb := 0, pre := ⟨[.ag [.i .i64 0, .i .i64 1, .fz 9 false 2, .fz 9 false 3, .i .i64 4, .i .i64 5, .i .i64 6, .i .i64 7, .fz 90 false 8, .fz 156 false 9, .fz 158 false 10, .i .i64 11, .fz 9 false 12, .fz 9 false 13, .i .i64 14, .i .i64 15, .i .i64 16], .ag [.i .i64 17, .s 18, .s 19, .i .i64 20, .s 21, .fz 9 false 22]], []⟩, post := ⟨[.ag [.i .i64 0, .i .i64 1, .i .i64 2, .ow 0, .ow 1, .i .i64 3, .i .i64 4, .i .i64 5, .i .i64 6, .ow 2, .ow 3, .ow 4, .i .i64 7, .ow 5, .ow 6, .i .i64 8, .i .i64 9, .i .i64 10, .s 11, .i .i64 12, .s 13, .s 14]], [.rw 9 true 15, .rw 9 true 16, .rw 90 true 17, .rw 156 true 18, .rw 158 true 19, .rw 9 true 20, .rw 9 true 21]⟩, sh := false, cuts := [⟨25, [4, 6, 7, 8], ⟨[.sc (.pt 0 0), .sc (.pt 1 0), .sc (.pt 2 0), .sc (.s 0)], [.bx [.i .i64 1, .i .i64 2, .i .i64 3, .ow 11, .ow 12, .i .i64 4, .i .i64 5, .i .i64 6, .i .i64 7, .ow 13, .ow 14, .ow 15, .i .i64 8, .ow 16, .ow 17, .i .i64 9, .i .i64 10, .i .i64 11, .s 12, .i .i64 13, .s 14, .s 15], .bx [.i .i64 16, .i .i64 17, .i .i64 18, .i .i64 19, .i .i64 20, .fz 90 false 21, .fz 156 false 22, .ow 3, .s 23, .i .i64 24, .s 25, .s 26], .bx [.i .i64 27, .i .i64 28, .ow 4, .ow 5, .i .i64 29, .i .i64 30, .i .i64 31, .i .i64 32, .ow 6, .ow 7, .ow 8, .i .i64 33, .ow 9, .ow 10, .i .i64 34, .i .i64 35, .i .i64 36], .rw 158 false 37, .rw 9 true 38, .rw 9 true 39, .rw 90 true 40, .rw 156 true 41, .rw 158 true 42, .rw 9 true 43, .rw 9 true 44, .rw 9 true 45, .rw 9 true 46, .rw 90 true 47, .rw 156 true 48, .rw 158 true 49, .rw 9 true 50, .rw 9 true 51]⟩⟩] }
noncomputable def Lqk : Option Nat → Lv → Option Lv := Lim Tryz.prog [dqn.sig (Lqn none), dqbi.sig (Lqbi none), dqo.sig (Lqo none), dqb8.sig (Lqb8 none), dqbo.sig (Lqbo none), dqbp.sig (Lqbp none), dqb5.sig (Lqb5 none), dqcq.sig (Lqcq none)] dqk Tryz.f147
theorem eqk_i (a0 a1 : Int) (a2 a3 : Rw) (a4 a5 a6 a7 : Int) (a8 a9 a10 : Rw) (a11 : Int) (a12 a13 : Rw) (a14 a15 a16 a17 : Int) (a18 a19 : ByteArray) (a20 : Int) (a21 : ByteArray) (a22 : Rw) : Lqk none [.i a0, .i a1, .l a2, .l a3, .i a4, .i a5, .i a6, .i a7, .l a8, .l a9, .l a10, .i a11, .l a12, .l a13, .i a14, .i a15, .i a16, .i a17, .s a18, .s a19, .i a20, .s a21, .l a22] =
 (Lqbo none [.i a0, .i a1, .l a2, .l a3, .i a4, .i a5, .i a6, .i a7, .l a8, .l a9, .l a10, .i a11, .l a12, .l a13, .i a14, .i a15, .i a16]).bind fun y1 =>
 cond (!(g y1 0).bool) (
 some [.i 1, .i 0, .i 0, .i 0, .i 0, .i 0, .i 0, .i 0, .i 0, .i 0, .i 0, .s (⟨#[]⟩ : ByteArray), .i 0, .s (⟨#[]⟩ : ByteArray), .s (⟨#[]⟩ : ByteArray), .l [], .l [], .l [], .l [], .l [], .l [], .l []]) (
 (Lqbp none [.i a0, .i a1, .l a2, .l a3, .i a4, .i a5, .i a6, .i a7, .l a8, .l a9, .l a10, .i a11, .l a12, .l a13, .i a14, .i a15, .i a16]).bind fun y2 =>
 (Lqn none [.i a17, .s a18, .s a19, .i a20, .s a21, .l a22, .i a0]).bind fun y3 =>
 cond (!(g y3 0).bool) (
 some [.i 1, .i ((g y2 0).int), .i ((g y2 1).int), .i ((g y2 2).int), .i ((g y2 3).int), .i ((g y2 4).int), .i ((g y2 5).int), .i ((g y2 6).int), .i ((g y2 7).int), .i ((g y2 8).int), .i ((g y2 9).int), .s (⟨#[]⟩ : ByteArray), .i 0, .s (⟨#[]⟩ : ByteArray), .s (⟨#[]⟩ : ByteArray), .l ((g y2 10).list), .l ((g y2 11).list), .l ((g y2 12).list), .l ((g y2 13).list), .l ((g y2 14).list), .l ((g y2 15).list), .l ((g y2 16).list)]) (
 (Lqo none [.i a4, .i a5, .i a6, .i a7, .l a8, .l a9, .l a10]).bind fun y4 =>
 (Lqb8 none [.i ((g y4 0).int), .i ((g y4 1).int), .i ((g y4 2).int), .i ((g y4 3).int), .l ((g y4 4).list), .l ((g y4 5).list), .i a17, .s a18, .s a19, .i a20, .s a21, .l a22, .l ((g y4 6).list)]).bind fun y5 =>
 cond ((g y5 0).int != 0) (
 some [.i ((g y5 0).int), .i ((g y2 0).int), .i ((g y2 1).int), .i ((g y2 2).int), .i ((g y2 3).int), .i ((g y2 4).int), .i ((g y2 5).int), .i ((g y2 6).int), .i ((g y2 7).int), .i ((g y2 8).int), .i ((g y2 9).int), .s (⟨#[]⟩ : ByteArray), .i 0, .s ((g y5 9).str), .s ((g y5 10).str), .l ((g y2 10).list), .l ((g y2 11).list), .l ((g y2 12).list), .l ((g y2 13).list), .l ((g y2 14).list), .l ((g y2 15).list), .l ((g y2 16).list)]) (
 cond (a17 == 1) (
 (Lqb5 none [.i ((g y5 1).int), .i ((g y5 2).int), .i ((g y5 3).int), .i ((g y5 4).int), .l ((g y5 5).list), .l ((g y5 6).list), .l ((g y5 11).list)]).bind fun y6 =>
 cond (decide (a1 < (g y6 0).int)) (
 some [.i 8, .i ((g y2 0).int), .i ((g y2 1).int), .i ((g y2 2).int), .i ((g y2 3).int), .i ((g y2 4).int), .i ((g y2 5).int), .i ((g y2 6).int), .i ((g y2 7).int), .i ((g y2 8).int), .i ((g y2 9).int), .s (⟨#[]⟩ : ByteArray), .i 0, .s (⟨#[]⟩ : ByteArray), .s (⟨#[]⟩ : ByteArray), .l ((g y2 10).list), .l ((g y2 11).list), .l ((g y2 12).list), .l ((g y2 13).list), .l ((g y2 14).list), .l ((g y2 15).list), .l ((g y2 16).list)]) (
 cond (decide (4000 ≤ (IntKind.i64.wrap ((a2.length : Int) + (a3.length : Int))))) (
 some [.i 9, .i ((g y2 0).int), .i ((g y2 1).int), .i ((g y2 2).int), .i ((g y2 3).int), .i ((g y2 4).int), .i ((g y2 5).int), .i ((g y2 6).int), .i ((g y2 7).int), .i ((g y2 8).int), .i ((g y2 9).int), .s (⟨#[]⟩ : ByteArray), .i 0, .s (⟨#[]⟩ : ByteArray), .s (⟨#[]⟩ : ByteArray), .l ((g y2 10).list), .l ((g y2 11).list), .l ((g y2 12).list), .l ((g y2 13).list), .l ((g y2 14).list), .l ((g y2 15).list), .l ((g y2 16).list)]) (
 (Lqbp none [.i a0, .i a1, .l a2, .l a3, .i a4, .i a5, .i a6, .i a7, .l a8, .l a9, .l a10, .i a11, .l a12, .l a13, .i a14, .i a15, .i a16]).bind fun y7 =>
 (Lqbi none [.i a17, .s a18, .s a19, .i a20, .s a21, .l a22, .i a0]).bind fun y8 =>
 cond (decide (((g y7 11).list).length + ([[.s ((g y8 0).str)]] : Rw).length ≤ most)) (
 (Lqo none [.i ((g y5 1).int), .i ((g y5 2).int), .i ((g y5 3).int), .i ((g y5 4).int), .l ((g y5 5).list), .l ((g y5 6).list), .l ((g y5 11).list)]).bind fun y9 =>
 cond (a17 == 1) (
 Lqk (some 25) [.s ((g y5 7).str), .i 0, .i 0, .i 0, .i 0, .i 0, .i 0, .i 0, .i 0, .i 0, .i 0, .i 0, .s (⟨#[]⟩ : ByteArray), .i 0, .s (⟨#[]⟩ : ByteArray), .s (⟨#[]⟩ : ByteArray), .i ((g y5 0).int), .i ((g y5 1).int), .i ((g y5 2).int), .i ((g y5 3).int), .i ((g y5 4).int), .l ((g y5 5).list), .l ((g y5 6).list), .s ((g y5 7).str), .i ((g y5 8).int), .s ((g y5 9).str), .s ((g y5 10).str), .i ((g y7 0).int), .i ((g y7 1).int), .i ((g y9 0).int), .i ((g y9 1).int), .i ((g y9 2).int), .i ((g y9 3).int), .i ((g y7 6).int), .i ((g y7 7).int), .i ((g y7 8).int), .i ((g y7 9).int), .l ((g y5 11).list), .l ((g y7 10).list), .l ((g y7 11).list ++ ([[.s ((g y8 0).str)]] : Rw)), .l ((g y9 4).list), .l ((g y9 5).list), .l ((g y9 6).list), .l ((g y7 15).list), .l ((g y7 16).list), .l [], .l [], .l [], .l [], .l [], .l [], .l []]) (
 Lqk (some 25) [.s a18, .i 0, .i 0, .i 0, .i 0, .i 0, .i 0, .i 0, .i 0, .i 0, .i 0, .i 0, .s (⟨#[]⟩ : ByteArray), .i 0, .s (⟨#[]⟩ : ByteArray), .s (⟨#[]⟩ : ByteArray), .i ((g y5 0).int), .i ((g y5 1).int), .i ((g y5 2).int), .i ((g y5 3).int), .i ((g y5 4).int), .l ((g y5 5).list), .l ((g y5 6).list), .s ((g y5 7).str), .i ((g y5 8).int), .s ((g y5 9).str), .s ((g y5 10).str), .i ((g y7 0).int), .i ((g y7 1).int), .i ((g y9 0).int), .i ((g y9 1).int), .i ((g y9 2).int), .i ((g y9 3).int), .i ((g y7 6).int), .i ((g y7 7).int), .i ((g y7 8).int), .i ((g y7 9).int), .l ((g y5 11).list), .l ((g y7 10).list), .l ((g y7 11).list ++ ([[.s ((g y8 0).str)]] : Rw)), .l ((g y9 4).list), .l ((g y9 5).list), .l ((g y9 6).list), .l ((g y7 15).list), .l ((g y7 16).list), .l [], .l [], .l [], .l [], .l [], .l [], .l []])) (
 none)))) (
 cond (decide (4000 ≤ (IntKind.i64.wrap ((a2.length : Int) + (a3.length : Int))))) (
 some [.i 9, .i ((g y2 0).int), .i ((g y2 1).int), .i ((g y2 2).int), .i ((g y2 3).int), .i ((g y2 4).int), .i ((g y2 5).int), .i ((g y2 6).int), .i ((g y2 7).int), .i ((g y2 8).int), .i ((g y2 9).int), .s (⟨#[]⟩ : ByteArray), .i 0, .s (⟨#[]⟩ : ByteArray), .s (⟨#[]⟩ : ByteArray), .l ((g y2 10).list), .l ((g y2 11).list), .l ((g y2 12).list), .l ((g y2 13).list), .l ((g y2 14).list), .l ((g y2 15).list), .l ((g y2 16).list)]) (
 (Lqbp none [.i a0, .i a1, .l a2, .l a3, .i a4, .i a5, .i a6, .i a7, .l a8, .l a9, .l a10, .i a11, .l a12, .l a13, .i a14, .i a15, .i a16]).bind fun y10 =>
 (Lqbi none [.i a17, .s a18, .s a19, .i a20, .s a21, .l a22, .i a0]).bind fun y11 =>
 cond (decide (((g y10 11).list).length + ([[.s ((g y11 0).str)]] : Rw).length ≤ most)) (
 (Lqo none [.i ((g y5 1).int), .i ((g y5 2).int), .i ((g y5 3).int), .i ((g y5 4).int), .l ((g y5 5).list), .l ((g y5 6).list), .l ((g y5 11).list)]).bind fun y12 =>
 cond (a17 == 1) (
 Lqk (some 25) [.s ((g y5 7).str), .i 0, .i 0, .i 0, .i 0, .i 0, .i 0, .i 0, .i 0, .i 0, .i 0, .i 0, .s (⟨#[]⟩ : ByteArray), .i 0, .s (⟨#[]⟩ : ByteArray), .s (⟨#[]⟩ : ByteArray), .i ((g y5 0).int), .i ((g y5 1).int), .i ((g y5 2).int), .i ((g y5 3).int), .i ((g y5 4).int), .l ((g y5 5).list), .l ((g y5 6).list), .s ((g y5 7).str), .i ((g y5 8).int), .s ((g y5 9).str), .s ((g y5 10).str), .i ((g y10 0).int), .i ((g y10 1).int), .i ((g y12 0).int), .i ((g y12 1).int), .i ((g y12 2).int), .i ((g y12 3).int), .i ((g y10 6).int), .i ((g y10 7).int), .i ((g y10 8).int), .i ((g y10 9).int), .l ((g y5 11).list), .l ((g y10 10).list), .l ((g y10 11).list ++ ([[.s ((g y11 0).str)]] : Rw)), .l ((g y12 4).list), .l ((g y12 5).list), .l ((g y12 6).list), .l ((g y10 15).list), .l ((g y10 16).list), .l [], .l [], .l [], .l [], .l [], .l [], .l []]) (
 Lqk (some 25) [.s a18, .i 0, .i 0, .i 0, .i 0, .i 0, .i 0, .i 0, .i 0, .i 0, .i 0, .i 0, .s (⟨#[]⟩ : ByteArray), .i 0, .s (⟨#[]⟩ : ByteArray), .s (⟨#[]⟩ : ByteArray), .i ((g y5 0).int), .i ((g y5 1).int), .i ((g y5 2).int), .i ((g y5 3).int), .i ((g y5 4).int), .l ((g y5 5).list), .l ((g y5 6).list), .s ((g y5 7).str), .i ((g y5 8).int), .s ((g y5 9).str), .s ((g y5 10).str), .i ((g y10 0).int), .i ((g y10 1).int), .i ((g y12 0).int), .i ((g y12 1).int), .i ((g y12 2).int), .i ((g y12 3).int), .i ((g y10 6).int), .i ((g y10 7).int), .i ((g y10 8).int), .i ((g y10 9).int), .l ((g y5 11).list), .l ((g y10 10).list), .l ((g y10 11).list ++ ([[.s ((g y11 0).str)]] : Rw)), .l ((g y12 4).list), .l ((g y12 5).list), .l ((g y12 6).list), .l ((g y10 15).list), .l ((g y10 16).list), .l [], .l [], .l [], .l [], .l [], .l [], .l []])) (
 none)))))) := (zd _ _).trans (by kernel_rfl)
theorem eqk_25 (a0 : ByteArray) (a1 a2 a3 a4 a5 a6 a7 a8 a9 a10 a11 : Int) (a12 : ByteArray) (a13 : Int) (a14 a15 : ByteArray) (a16 a17 a18 a19 a20 : Int) (a21 a22 : Rw) (a23 : ByteArray) (a24 : Int) (a25 a26 : ByteArray) (a27 a28 a29 a30 a31 a32 a33 a34 a35 a36 : Int) (a37 a38 a39 a40 a41 a42 a43 a44 a45 a46 a47 a48 a49 a50 a51 : Rw) : Lqk (some 25) [.s a0, .i a1, .i a2, .i a3, .i a4, .i a5, .i a6, .i a7, .i a8, .i a9, .i a10, .i a11, .s a12, .i a13, .s a14, .s a15, .i a16, .i a17, .i a18, .i a19, .i a20, .l a21, .l a22, .s a23, .i a24, .s a25, .s a26, .i a27, .i a28, .i a29, .i a30, .i a31, .i a32, .i a33, .i a34, .i a35, .i a36, .l a37, .l a38, .l a39, .l a40, .l a41, .l a42, .l a43, .l a44, .l a45, .l a46, .l a47, .l a48, .l a49, .l a50, .l a51] =
 cond (!Eng.seq a0 (⟨#[]⟩ : ByteArray)) (
 (Lqcq none [.i a29, .i a30, .i a31, .i a32, .l a40, .l a41, .l a42, .i a33, .l a43, .l a44, .i a34, .i a35, .i a36, .s a0]).bind fun y1 =>
 some [.i 0, .i a27, .i a28, .i a29, .i a30, .i a31, .i a32, .i ((g y1 0).int), .i ((g y1 1).int), .i ((g y1 2).int), .i ((g y1 3).int), .s a23, .i a24, .s (⟨#[]⟩ : ByteArray), .s (⟨#[]⟩ : ByteArray), .l a38, .l a39, .l a40, .l a41, .l a42, .l ((g y1 4).list), .l ((g y1 5).list)]) (
 some [.i 0, .i a27, .i a28, .i a29, .i a30, .i a31, .i a32, .i a33, .i a34, .i a35, .i a36, .s a23, .i a24, .s (⟨#[]⟩ : ByteArray), .s (⟨#[]⟩ : ByteArray), .l a38, .l a39, .l a40, .l a41, .l a42, .l a43, .l a44]) := (zd _ _).trans (by kernel_rfl)
theorem kqk : SigOk Tryz.prog (dqk.sig (Lqk none)) ∧ (dqk.sig (Lqk none)).ok = true := zf (zb kqn (by kernel_rfl) (zb kqbi (by kernel_rfl) (zb kqo (by kernel_rfl) (zb kqb8 (by kernel_rfl) (zb kqbo (by kernel_rfl) (zb kqbp (by kernel_rfl) (zb kqb5 (by kernel_rfl) (zb kqcq (by kernel_rfl) ze)))))))) (by kernel_rfl) (by kernel_rfl) (by kernel_rfl)
def dqcr : FD := { fn := 61, nb := 0, pre := ⟨[.ag [.i .i64 0, .i .i64 1, .fz 9 false 2, .fz 9 false 3, .i .i64 4, .i .i64 5, .i .i64 6, .i .i64 7, .fz 90 false 8, .fz 156 false 9, .fz 158 false 10, .i .i64 11, .fz 9 false 12, .fz 9 false 13, .i .i64 14, .i .i64 15, .i .i64 16], .ag [.s 17, .fz 9 false 18], .sc (.i .i64 19)], []⟩, post := ⟨[.ag [.i .i64 0, .i .i64 1, .i .i64 2, .ow 0, .ow 1, .i .i64 3, .i .i64 4, .i .i64 5, .i .i64 6, .ow 2, .ow 3, .ow 4, .i .i64 7, .ow 5, .ow 6, .i .i64 8, .i .i64 9, .i .i64 10, .s 11, .i .i64 12, .s 13, .s 14]], [.rw 9 true 15, .rw 9 true 16, .rw 90 true 17, .rw 156 true 18, .rw 158 true 19, .rw 9 true 20, .rw 9 true 21]⟩, sh := false, cuts := [] }
noncomputable def Lqcr : Option Nat → Lv → Option Lv := Lim Tryz.prog [dqbn.sig (Lqbn none), dqk.sig (Lqk none)] dqcr Tryz.f61
theorem eqcr_i (a0 a1 : Int) (a2 a3 : Rw) (a4 a5 a6 a7 : Int) (a8 a9 a10 : Rw) (a11 : Int) (a12 a13 : Rw) (a14 a15 a16 : Int) (a17 : ByteArray) (a18 : Rw) (a19 : Int) : Lqcr none [.i a0, .i a1, .l a2, .l a3, .i a4, .i a5, .i a6, .i a7, .l a8, .l a9, .l a10, .i a11, .l a12, .l a13, .i a14, .i a15, .i a16, .s a17, .l a18, .i a19] =
 (Lqbn none [.s a17, .l a18]).bind fun y1 =>
 (Lqk none [.i a0, .i a1, .l a2, .l a3, .i a4, .i a5, .i a6, .i a7, .l a8, .l a9, .l a10, .i a11, .l a12, .l a13, .i a14, .i a15, .i a16, .i 1, .s (⟨#[]⟩ : ByteArray), .s (⟨#[]⟩ : ByteArray), .i a19, .s ((g y1 0).str), .l ((g y1 1).list)]).bind fun y2 =>
 some [.i ((g y2 0).int), .i ((g y2 1).int), .i ((g y2 2).int), .i ((g y2 3).int), .i ((g y2 4).int), .i ((g y2 5).int), .i ((g y2 6).int), .i ((g y2 7).int), .i ((g y2 8).int), .i ((g y2 9).int), .i ((g y2 10).int), .s ((g y2 11).str), .i ((g y2 12).int), .s ((g y2 13).str), .s ((g y2 14).str), .l ((g y2 15).list), .l ((g y2 16).list), .l ((g y2 17).list), .l ((g y2 18).list), .l ((g y2 19).list), .l ((g y2 20).list), .l ((g y2 21).list)] := (zd _ _).trans (by kernel_rfl)
theorem kqcr : SigOk Tryz.prog (dqcr.sig (Lqcr none)) ∧ (dqcr.sig (Lqcr none)).ok = true := zf (zb kqbn (by kernel_rfl) (zb kqk (by kernel_rfl) ze)) (by kernel_rfl) (by kernel_rfl) (by kernel_rfl)
end KV
end
section
set_option maxRecDepth 100000
namespace KV
open Go Go.Eng Go.Proofs
def dqcs : FD := { fn := 63, nb := 0, pre := ⟨[.ag [.i .i64 0, .i .i64 1, .fz 9 false 2, .fz 9 false 3, .i .i64 4, .i .i64 5, .i .i64 6, .i .i64 7, .fz 90 false 8, .fz 156 false 9, .fz 158 false 10, .i .i64 11, .fz 9 false 12, .fz 9 false 13, .i .i64 14, .i .i64 15, .i .i64 16], .sc (.s 17), .sc (.s 18)], []⟩, post := ⟨[.ag [.i .i64 0, .i .i64 1, .i .i64 2, .ow 0, .ow 1, .i .i64 3, .i .i64 4, .i .i64 5, .i .i64 6, .ow 2, .ow 3, .ow 4, .i .i64 7, .ow 5, .ow 6, .i .i64 8, .i .i64 9, .i .i64 10, .s 11, .i .i64 12, .s 13, .s 14]], [.rw 9 true 15, .rw 9 true 16, .rw 90 true 17, .rw 156 true 18, .rw 158 true 19, .rw 9 true 20, .rw 9 true 21]⟩, sh := false, cuts := [] }
noncomputable def Lqcs : Option Nat → Lv → Option Lv := Lim Tryz.prog [dqk.sig (Lqk none)] dqcs Tryz.f63
theorem eqcs_i (a0 a1 : Int) (a2 a3 : Rw) (a4 a5 a6 a7 : Int) (a8 a9 a10 : Rw) (a11 : Int) (a12 a13 : Rw) (a14 a15 a16 : Int) (a17 a18 : ByteArray) : Lqcs none [.i a0, .i a1, .l a2, .l a3, .i a4, .i a5, .i a6, .i a7, .l a8, .l a9, .l a10, .i a11, .l a12, .l a13, .i a14, .i a15, .i a16, .s a17, .s a18] =
 (Lqk none [.i a0, .i a1, .l a2, .l a3, .i a4, .i a5, .i a6, .i a7, .l a8, .l a9, .l a10, .i a11, .l a12, .l a13, .i a14, .i a15, .i a16, .i 2, .s a18, .s a17, .i 0, .s (⟨#[]⟩ : ByteArray), .l ([])]).bind fun y1 =>
 some [.i ((g y1 0).int), .i ((g y1 1).int), .i ((g y1 2).int), .i ((g y1 3).int), .i ((g y1 4).int), .i ((g y1 5).int), .i ((g y1 6).int), .i ((g y1 7).int), .i ((g y1 8).int), .i ((g y1 9).int), .i ((g y1 10).int), .s ((g y1 11).str), .i ((g y1 12).int), .s ((g y1 13).str), .s ((g y1 14).str), .l ((g y1 15).list), .l ((g y1 16).list), .l ((g y1 17).list), .l ((g y1 18).list), .l ((g y1 19).list), .l ((g y1 20).list), .l ((g y1 21).list)] := (zd _ _).trans (by kernel_rfl)
theorem kqcs : SigOk Tryz.prog (dqcs.sig (Lqcs none)) ∧ (dqcs.sig (Lqcs none)).ok = true := zf (zb kqk (by kernel_rfl) ze) (by kernel_rfl) (by kernel_rfl) (by kernel_rfl)
def dqct : FD := { fn := 82, nb := 0, pre := ⟨[.ag [.i .i64 0, .i .i64 1, .fz 9 false 2, .fz 9 false 3, .i .i64 4, .i .i64 5, .i .i64 6, .i .i64 7, .fz 90 false 8, .fz 156 false 9, .fz 158 false 10, .i .i64 11, .fz 9 false 12, .fz 9 false 13, .i .i64 14, .i .i64 15, .i .i64 16], .sc (.s 17)], []⟩, post := ⟨[.ag [.i .i64 0, .i .i64 1, .i .i64 2, .ow 0, .ow 1, .i .i64 3, .i .i64 4, .i .i64 5, .i .i64 6, .ow 2, .ow 3, .ow 4, .i .i64 7, .ow 5, .ow 6, .i .i64 8, .i .i64 9, .i .i64 10, .s 11, .i .i64 12, .s 13, .s 14]], [.rw 9 true 15, .rw 9 true 16, .rw 90 true 17, .rw 156 true 18, .rw 158 true 19, .rw 9 true 20, .rw 9 true 21]⟩, sh := false, cuts := [] }
noncomputable def Lqct : Option Nat → Lv → Option Lv := Lim Tryz.prog [dqk.sig (Lqk none)] dqct Tryz.f82
theorem eqct_i (a0 a1 : Int) (a2 a3 : Rw) (a4 a5 a6 a7 : Int) (a8 a9 a10 : Rw) (a11 : Int) (a12 a13 : Rw) (a14 a15 a16 : Int) (a17 : ByteArray) : Lqct none [.i a0, .i a1, .l a2, .l a3, .i a4, .i a5, .i a6, .i a7, .l a8, .l a9, .l a10, .i a11, .l a12, .l a13, .i a14, .i a15, .i a16, .s a17] =
 (Lqk none [.i a0, .i a1, .l a2, .l a3, .i a4, .i a5, .i a6, .i a7, .l a8, .l a9, .l a10, .i a11, .l a12, .l a13, .i a14, .i a15, .i a16, .i 3, .s (⟨#[]⟩ : ByteArray), .s a17, .i 0, .s (⟨#[]⟩ : ByteArray), .l ([])]).bind fun y1 =>
 some [.i ((g y1 0).int), .i ((g y1 1).int), .i ((g y1 2).int), .i ((g y1 3).int), .i ((g y1 4).int), .i ((g y1 5).int), .i ((g y1 6).int), .i ((g y1 7).int), .i ((g y1 8).int), .i ((g y1 9).int), .i ((g y1 10).int), .s ((g y1 11).str), .i ((g y1 12).int), .s ((g y1 13).str), .s ((g y1 14).str), .l ((g y1 15).list), .l ((g y1 16).list), .l ((g y1 17).list), .l ((g y1 18).list), .l ((g y1 19).list), .l ((g y1 20).list), .l ((g y1 21).list)] := (zd _ _).trans (by kernel_rfl)
theorem kqct : SigOk Tryz.prog (dqct.sig (Lqct none)) ∧ (dqct.sig (Lqct none)).ok = true := zf (zb kqk (by kernel_rfl) ze) (by kernel_rfl) (by kernel_rfl) (by kernel_rfl)
def dqcu : FD := { fn := 83, nb := 0, pre := ⟨[.ag [.i .i64 0, .i .i64 1, .fz 9 false 2, .fz 9 false 3, .i .i64 4, .i .i64 5, .i .i64 6, .i .i64 7, .fz 90 false 8, .fz 156 false 9, .fz 158 false 10, .i .i64 11, .fz 9 false 12, .fz 9 false 13, .i .i64 14, .i .i64 15, .i .i64 16], .sc (.s 17), .sc (.i .i64 18)], []⟩, post := ⟨[.ag [.i .i64 0, .i .i64 1, .i .i64 2, .ow 0, .ow 1, .i .i64 3, .i .i64 4, .i .i64 5, .i .i64 6, .ow 2, .ow 3, .ow 4, .i .i64 7, .ow 5, .ow 6, .i .i64 8, .i .i64 9, .i .i64 10, .s 11, .i .i64 12, .s 13, .s 14]], [.rw 9 true 15, .rw 9 true 16, .rw 90 true 17, .rw 156 true 18, .rw 158 true 19, .rw 9 true 20, .rw 9 true 21]⟩, sh := false, cuts := [] }
noncomputable def Lqcu : Option Nat → Lv → Option Lv := Lim Tryz.prog [dqk.sig (Lqk none)] dqcu Tryz.f83
theorem eqcu_i (a0 a1 : Int) (a2 a3 : Rw) (a4 a5 a6 a7 : Int) (a8 a9 a10 : Rw) (a11 : Int) (a12 a13 : Rw) (a14 a15 a16 : Int) (a17 : ByteArray) (a18 : Int) : Lqcu none [.i a0, .i a1, .l a2, .l a3, .i a4, .i a5, .i a6, .i a7, .l a8, .l a9, .l a10, .i a11, .l a12, .l a13, .i a14, .i a15, .i a16, .s a17, .i a18] =
 (Lqk none [.i a0, .i a1, .l a2, .l a3, .i a4, .i a5, .i a6, .i a7, .l a8, .l a9, .l a10, .i a11, .l a12, .l a13, .i a14, .i a15, .i a16, .i 4, .s a17, .s (⟨#[]⟩ : ByteArray), .i a18, .s (⟨#[]⟩ : ByteArray), .l ([])]).bind fun y1 =>
 some [.i ((g y1 0).int), .i ((g y1 1).int), .i ((g y1 2).int), .i ((g y1 3).int), .i ((g y1 4).int), .i ((g y1 5).int), .i ((g y1 6).int), .i ((g y1 7).int), .i ((g y1 8).int), .i ((g y1 9).int), .i ((g y1 10).int), .s ((g y1 11).str), .i ((g y1 12).int), .s ((g y1 13).str), .s ((g y1 14).str), .l ((g y1 15).list), .l ((g y1 16).list), .l ((g y1 17).list), .l ((g y1 18).list), .l ((g y1 19).list), .l ((g y1 20).list), .l ((g y1 21).list)] := (zd _ _).trans (by kernel_rfl)
theorem kqcu : SigOk Tryz.prog (dqcu.sig (Lqcu none)) ∧ (dqcu.sig (Lqcu none)).ok = true := zf (zb kqk (by kernel_rfl) ze) (by kernel_rfl) (by kernel_rfl) (by kernel_rfl)
def dqcv : FD := { fn := 84, nb := 0, pre := ⟨[.ag [.i .i64 0, .i .i64 1, .fz 9 false 2, .fz 9 false 3, .i .i64 4, .i .i64 5, .i .i64 6, .i .i64 7, .fz 90 false 8, .fz 156 false 9, .fz 158 false 10, .i .i64 11, .fz 9 false 12, .fz 9 false 13, .i .i64 14, .i .i64 15, .i .i64 16], .sc (.i .i64 17)], []⟩, post := ⟨[.ag [.i .i64 0, .i .i64 1, .i .i64 2, .ow 0, .ow 1, .i .i64 3, .i .i64 4, .i .i64 5, .i .i64 6, .ow 2, .ow 3, .ow 4, .i .i64 7, .ow 5, .ow 6, .i .i64 8, .i .i64 9, .i .i64 10, .s 11, .i .i64 12, .s 13, .s 14]], [.rw 9 true 15, .rw 9 true 16, .rw 90 true 17, .rw 156 true 18, .rw 158 true 19, .rw 9 true 20, .rw 9 true 21]⟩, sh := false, cuts := [] }
noncomputable def Lqcv : Option Nat → Lv → Option Lv := Lim Tryz.prog [dqk.sig (Lqk none)] dqcv Tryz.f84
theorem eqcv_i (a0 a1 : Int) (a2 a3 : Rw) (a4 a5 a6 a7 : Int) (a8 a9 a10 : Rw) (a11 : Int) (a12 a13 : Rw) (a14 a15 a16 a17 : Int) : Lqcv none [.i a0, .i a1, .l a2, .l a3, .i a4, .i a5, .i a6, .i a7, .l a8, .l a9, .l a10, .i a11, .l a12, .l a13, .i a14, .i a15, .i a16, .i a17] =
 (Lqk none [.i a0, .i a1, .l a2, .l a3, .i a4, .i a5, .i a6, .i a7, .l a8, .l a9, .l a10, .i a11, .l a12, .l a13, .i a14, .i a15, .i a16, .i 5, .s (⟨#[]⟩ : ByteArray), .s (⟨#[]⟩ : ByteArray), .i a17, .s (⟨#[]⟩ : ByteArray), .l ([])]).bind fun y1 =>
 some [.i ((g y1 0).int), .i ((g y1 1).int), .i ((g y1 2).int), .i ((g y1 3).int), .i ((g y1 4).int), .i ((g y1 5).int), .i ((g y1 6).int), .i ((g y1 7).int), .i ((g y1 8).int), .i ((g y1 9).int), .i ((g y1 10).int), .s ((g y1 11).str), .i ((g y1 12).int), .s ((g y1 13).str), .s ((g y1 14).str), .l ((g y1 15).list), .l ((g y1 16).list), .l ((g y1 17).list), .l ((g y1 18).list), .l ((g y1 19).list), .l ((g y1 20).list), .l ((g y1 21).list)] := (zd _ _).trans (by kernel_rfl)
theorem kqcv : SigOk Tryz.prog (dqcv.sig (Lqcv none)) ∧ (dqcv.sig (Lqcv none)).ok = true := zf (zb kqk (by kernel_rfl) ze) (by kernel_rfl) (by kernel_rfl) (by kernel_rfl)
def dqcw : FD := { fn := 85, nb := 0, pre := ⟨[.ag [.i .i64 0, .i .i64 1, .fz 9 false 2, .fz 9 false 3, .i .i64 4, .i .i64 5, .i .i64 6, .i .i64 7, .fz 90 false 8, .fz 156 false 9, .fz 158 false 10, .i .i64 11, .fz 9 false 12, .fz 9 false 13, .i .i64 14, .i .i64 15, .i .i64 16], .sc (.i .i64 17)], []⟩, post := ⟨[.ag [.i .i64 0, .i .i64 1, .i .i64 2, .ow 0, .ow 1, .i .i64 3, .i .i64 4, .i .i64 5, .i .i64 6, .ow 2, .ow 3, .ow 4, .i .i64 7, .ow 5, .ow 6, .i .i64 8, .i .i64 9, .i .i64 10, .s 11, .i .i64 12, .s 13, .s 14]], [.rw 9 true 15, .rw 9 true 16, .rw 90 true 17, .rw 156 true 18, .rw 158 true 19, .rw 9 true 20, .rw 9 true 21]⟩, sh := false, cuts := [] }
noncomputable def Lqcw : Option Nat → Lv → Option Lv := Lim Tryz.prog [dqk.sig (Lqk none)] dqcw Tryz.f85
theorem eqcw_i (a0 a1 : Int) (a2 a3 : Rw) (a4 a5 a6 a7 : Int) (a8 a9 a10 : Rw) (a11 : Int) (a12 a13 : Rw) (a14 a15 a16 a17 : Int) : Lqcw none [.i a0, .i a1, .l a2, .l a3, .i a4, .i a5, .i a6, .i a7, .l a8, .l a9, .l a10, .i a11, .l a12, .l a13, .i a14, .i a15, .i a16, .i a17] =
 (Lqk none [.i a0, .i a1, .l a2, .l a3, .i a4, .i a5, .i a6, .i a7, .l a8, .l a9, .l a10, .i a11, .l a12, .l a13, .i a14, .i a15, .i a16, .i 6, .s (⟨#[]⟩ : ByteArray), .s (⟨#[]⟩ : ByteArray), .i a17, .s (⟨#[]⟩ : ByteArray), .l ([])]).bind fun y1 =>
 some [.i ((g y1 0).int), .i ((g y1 1).int), .i ((g y1 2).int), .i ((g y1 3).int), .i ((g y1 4).int), .i ((g y1 5).int), .i ((g y1 6).int), .i ((g y1 7).int), .i ((g y1 8).int), .i ((g y1 9).int), .i ((g y1 10).int), .s ((g y1 11).str), .i ((g y1 12).int), .s ((g y1 13).str), .s ((g y1 14).str), .l ((g y1 15).list), .l ((g y1 16).list), .l ((g y1 17).list), .l ((g y1 18).list), .l ((g y1 19).list), .l ((g y1 20).list), .l ((g y1 21).list)] := (zd _ _).trans (by kernel_rfl)
theorem kqcw : SigOk Tryz.prog (dqcw.sig (Lqcw none)) ∧ (dqcw.sig (Lqcw none)).ok = true := zf (zb kqk (by kernel_rfl) ze) (by kernel_rfl) (by kernel_rfl) (by kernel_rfl)
def dq4 : FD := { fn := 95, nb := 0, pre := ⟨[.ag [.i .i64 0, .i .i64 1, .i .i64 2, .i .i64 3, .fz 90 false 4, .fz 156 false 5, .fz 158 false 6]], []⟩, post := ⟨[.sc (.ow 0)], [.rw 9 true 0]⟩, sh := false, cuts := [⟨3, [1, 3, 4], ⟨[.sc (.pt 0 0), .sc (.ow 1), .sc (.i .i64 0)], [.bx [.i .i64 1, .i .i64 2, .i .i64 3, .i .i64 4, .fz 90 false 5, .fz 156 false 6, .fz 158 false 7], .rw 9 true 8]⟩⟩, ⟨8, [1, 3, 5], ⟨[.sc (.pt 0 0), .sc (.ow 1), .sc (.i .i64 0)], [.bx [.i .i64 1, .i .i64 2, .i .i64 3, .i .i64 4, .fz 90 false 5, .fz 156 false 6, .fz 158 false 7], .rw 9 true 8]⟩⟩] }
noncomputable def Lq4 : Option Nat → Lv → Option Lv := Lim Tryz.prog [dqp.sig (Lqp none)] dq4 Tryz.f95
theorem eq4_i (a0 a1 a2 a3 : Int) (a4 a5 a6 : Rw) : Lq4 none [.i a0, .i a1, .i a2, .i a3, .l a4, .l a5, .l a6] =
 Lq4 (some 3) [.i 0, .i a0, .i a1, .i a2, .i a3, .l a4, .l a5, .l a6, .l ([] : Rw)] := (zd _ _).trans (by kernel_rfl)
theorem eq4_3 (a0 a1 a2 a3 a4 : Int) (a5 a6 a7 a8 : Rw) : Lq4 (some 3) [.i a0, .i a1, .i a2, .i a3, .i a4, .l a5, .l a6, .l a7, .l a8] =
 cond (decide (a0 < (a6.length : Int))) (
 cond (inb a0 a6.length) (
 (Lqp none [.l a8, .s ((rd a6 a0.toNat 1).str)]).bind fun y1 =>
 cond (!(g y1 0).bool) (
 cond (inb a0 a6.length) (
 cond (decide (a8.length + ([[.s ((rd a6 a0.toNat 1).str)]] : Rw).length ≤ most)) (
 Lq4 (some 3) [.i (IntKind.i64.wrap (a0 + 1)), .i a1, .i a2, .i a3, .i a4, .l a5, .l a6, .l a7, .l (a8 ++ ([[.s ((rd a6 a0.toNat 1).str)]] : Rw))]) (
 none)) (
 none)) (
 Lq4 (some 3) [.i (IntKind.i64.wrap (a0 + 1)), .i a1, .i a2, .i a3, .i a4, .l a5, .l a6, .l a7, .l a8])) (
 none)) (
 Lq4 (some 8) [.i 0, .i a1, .i a2, .i a3, .i a4, .l a5, .l a6, .l a7, .l a8]) := (zd _ _).trans (by kernel_rfl)
theorem eq4_8 (a0 a1 a2 a3 a4 : Int) (a5 a6 a7 a8 : Rw) : Lq4 (some 8) [.i a0, .i a1, .i a2, .i a3, .i a4, .l a5, .l a6, .l a7, .l a8] =
 cond (decide (a0 < (a7.length : Int))) (
 cond (inb a0 a7.length) (
 (Lqp none [.l a8, .s ((rd a7 a0.toNat 1).str)]).bind fun y1 =>
 cond (!(g y1 0).bool) (
 cond (inb a0 a7.length) (
 cond (decide (a8.length + ([[.s ((rd a7 a0.toNat 1).str)]] : Rw).length ≤ most)) (
 Lq4 (some 8) [.i (IntKind.i64.wrap (a0 + 1)), .i a1, .i a2, .i a3, .i a4, .l a5, .l a6, .l a7, .l (a8 ++ ([[.s ((rd a7 a0.toNat 1).str)]] : Rw))]) (
 none)) (
 none)) (
 Lq4 (some 8) [.i (IntKind.i64.wrap (a0 + 1)), .i a1, .i a2, .i a3, .i a4, .l a5, .l a6, .l a7, .l a8])) (
 none)) (
 some [.l a8]) := (zd _ _).trans (by kernel_rfl)
theorem kq4 : SigOk Tryz.prog (dq4.sig (Lq4 none)) ∧ (dq4.sig (Lq4 none)).ok = true := zf (zb kqp (by kernel_rfl) ze) (by kernel_rfl) (by kernel_rfl) (by kernel_rfl)
def dqbb : FD := { fn := 208, nb := 0, pre := ⟨[.ag [.i .i64 0, .i .i64 1, .i .i64 2, .i .i64 3, .fz 90 false 4, .fz 156 false 5, .fz 158 false 6], .sc (.i .i64 7)], []⟩, post := ⟨[.sc (.i .i64 0)], []⟩, sh := false, cuts := [⟨3, [1, 2, 5, 6], ⟨[.sc (.i .i64 0), .sc (.pt 0 0), .sc (.i .i64 1), .sc (.i .i64 2)], [.bx [.i .i64 3, .i .i64 4, .i .i64 5, .i .i64 6, .fz 90 false 7, .fz 156 false 8, .fz 158 false 9]]⟩⟩] }
noncomputable def Lqbb : Option Nat → Lv → Option Lv := Lim Tryz.prog [] dqbb Tryz.f208
theorem eqbb_i (a0 a1 a2 a3 : Int) (a4 a5 a6 : Rw) (a7 : Int) : Lqbb none [.i a0, .i a1, .i a2, .i a3, .l a4, .l a5, .l a6, .i a7] =
 Lqbb (some 3) [.i a7, .i (-1), .i 0, .i a0, .i a1, .i a2, .i a3, .l a4, .l a5, .l a6] := (zd _ _).trans (by kernel_rfl)
theorem eqbb_3 (a0 a1 a2 a3 a4 a5 a6 : Int) (a7 a8 a9 : Rw) : Lqbb (some 3) [.i a0, .i a1, .i a2, .i a3, .i a4, .i a5, .i a6, .l a7, .l a8, .l a9] =
 cond (decide (a2 < (a7.length : Int))) (
 cond (inb a2 a7.length) (
 cond (decide ((rd a7 a2.toNat 1).int < a0)) (
 cond (decide (a1 < 0)) (
 Lqbb (some 3) [.i a0, .i a2, .i (IntKind.i64.wrap (a2 + 1)), .i a3, .i a4, .i a5, .i a6, .l a7, .l a8, .l a9]) (
 cond (inb a2 a7.length) (
 cond (inb a1 a7.length) (
 cond (decide ((rd a7 a1.toNat 1).int < (rd a7 a2.toNat 1).int)) (
 Lqbb (some 3) [.i a0, .i a2, .i (IntKind.i64.wrap (a2 + 1)), .i a3, .i a4, .i a5, .i a6, .l a7, .l a8, .l a9]) (
 Lqbb (some 3) [.i a0, .i a1, .i (IntKind.i64.wrap (a2 + 1)), .i a3, .i a4, .i a5, .i a6, .l a7, .l a8, .l a9])) (
 none)) (
 none))) (
 Lqbb (some 3) [.i a0, .i a1, .i (IntKind.i64.wrap (a2 + 1)), .i a3, .i a4, .i a5, .i a6, .l a7, .l a8, .l a9])) (
 none)) (
 some [.i a1]) := (zd _ _).trans (by kernel_rfl)
theorem kqbb : SigOk Tryz.prog (dqbb.sig (Lqbb none)) ∧ (dqbb.sig (Lqbb none)).ok = true := zf ze (by kernel_rfl) (by kernel_rfl) (by kernel_rfl)
def dq2 : FD := { fn := 183, nb := 0, pre := ⟨[.ag [.i .i64 0, .i .i64 1, .i .i64 2, .i .i64 3, .fz 90 false 4, .fz 156 false 5, .fz 158 false 6], .sc (.s 7)], []⟩, post := ⟨[.ag [.i .i64 0, .i .i64 1, .i .i64 2, .i .i64 3, .i .i64 4, .ow 0, .fz 156 false 5, .fz 158 false 6, .s 7, .i .i64 8, .s 9, .s 10]], [.rw 90 false 11]⟩, sh := true, cuts := [⟨7, [1, 2, 4, 5, 6], ⟨[.sc (.s 0), .sc (.pt 0 0), .sc (.pt 1 0), .sc (.ow 2), .sc (.i .i64 1)], [.bx [.i .i64 2, .i .i64 3, .i .i64 4, .i .i64 5, .fz 90 false 6, .fz 156 false 7, .fz 158 false 8], .bx [.i .i64 9, .i .i64 10, .i .i64 11, .i .i64 12, .i .i64 13, .ow 3, .ow 4, .ow 5, .s 14, .i .i64 15, .s 16, .s 17], .rw 90 false 18, .rw 90 true 19, .rw 156 true 20, .rw 158 true 21]⟩⟩] }
noncomputable def Lq2 : Option Nat → Lv → Option Lv := Lim Tryz.prog [dqe.sig (Lqe none), dqp.sig (Lqp none), dqs.sig (Lqs none)] dq2 Tryz.f183
theorem eq2_i (a0 a1 a2 a3 : Int) (a4 a5 a6 : Rw) (a7 : ByteArray) : Lq2 none [.i a0, .i a1, .i a2, .i a3, .l a4, .l a5, .l a6, .s a7] =
 (Lqe none [.i a0, .i a1, .i a2, .i a3, .l a4, .l a5, .l a6, .s a7]).bind fun y1 =>
 cond (decide ((g y1 0).int < 0)) (
 some [.i 2, .i 0, .i 0, .i 0, .i 0, .l ([]), .l ([]), .s (⟨#[]⟩ : ByteArray), .i 0, .s (⟨#[]⟩ : ByteArray), .s (⟨#[]⟩ : ByteArray), .l []]) (
 (Lqs none [.i a0, .i a1, .i a2, .i a3, .l a4, .l a5, .l a6, .s a7]).bind fun y2 =>
 cond ((g y2 0).bool) (
 some [.i 6, .i 0, .i 0, .i 0, .i 0, .l ([]), .l ([]), .s (⟨#[]⟩ : ByteArray), .i 0, .s (⟨#[]⟩ : ByteArray), .s (⟨#[]⟩ : ByteArray), .l []]) (
 Lq2 (some 7) [.s a7, .i 0, .i a0, .i a1, .i a2, .i a3, .l a4, .l a5, .l a6, .i 0, .i 0, .i 0, .i 0, .i 0, .s (⟨#[]⟩ : ByteArray), .i 0, .s (⟨#[]⟩ : ByteArray), .s (⟨#[]⟩ : ByteArray), .l ([] : Rw), .l [], .l [], .l []])) := (zd _ _).trans (by kernel_rfl)
theorem eq2_7 (a0 : ByteArray) (a1 a2 a3 a4 a5 : Int) (a6 a7 a8 : Rw) (a9 a10 a11 a12 a13 : Int) (a14 : ByteArray) (a15 : Int) (a16 a17 : ByteArray) (a18 a19 a20 a21 : Rw) : Lq2 (some 7) [.s a0, .i a1, .i a2, .i a3, .i a4, .i a5, .l a6, .l a7, .l a8, .i a9, .i a10, .i a11, .i a12, .i a13, .s a14, .i a15, .s a16, .s a17, .l a18, .l a19, .l a20, .l a21] =
 cond (decide (a1 < (a6.length : Int))) (
 cond (inb a1 a6.length) (
 (Lqp none [.l ((rd a6 a1.toNat 3).list), .s a0]).bind fun y1 =>
 cond ((g y1 0).bool) (
 some [.i 6, .i 0, .i 0, .i 0, .i 0, .l ([]), .l ([]), .s (⟨#[]⟩ : ByteArray), .i 0, .s (⟨#[]⟩ : ByteArray), .s (⟨#[]⟩ : ByteArray), .l []]) (
 cond (inb a1 a6.length) (
 cond (!Eng.seq ((rd a6 a1.toNat 0).str) a0) (
 cond (inb a1 a6.length) (
 cond (decide (a18.length + ([[.s ((rd a6 a1.toNat 0).str), .i ((rd a6 a1.toNat 1).int), .s ((rd a6 a1.toNat 2).str), .l ((rd a6 a1.toNat 3).list)]] : Rw).length ≤ most)) (
 Lq2 (some 7) [.s a0, .i (IntKind.i64.wrap (a1 + 1)), .i a2, .i a3, .i a4, .i a5, .l a6, .l a7, .l a8, .i a9, .i a10, .i a11, .i a12, .i a13, .s a14, .i a15, .s a16, .s a17, .l (a18 ++ ([[.s ((rd a6 a1.toNat 0).str), .i ((rd a6 a1.toNat 1).int), .s ((rd a6 a1.toNat 2).str), .l ((rd a6 a1.toNat 3).list)]] : Rw)), .l a19, .l a20, .l a21]) (
 none)) (
 none)) (
 Lq2 (some 7) [.s a0, .i (IntKind.i64.wrap (a1 + 1)), .i a2, .i a3, .i a4, .i a5, .l a6, .l a7, .l a8, .i a9, .i a10, .i a11, .i a12, .i a13, .s a14, .i a15, .s a16, .s a17, .l a18, .l a19, .l a20, .l a21])) (
 none))) (
 none)) (
 some [.i 0, .i a2, .i a3, .i a4, .i a5, .l a7, .l a8, .s (⟨#[]⟩ : ByteArray), .i 0, .s (⟨#[]⟩ : ByteArray), .s (⟨#[]⟩ : ByteArray), .l a18]) := (zd _ _).trans (by kernel_rfl)
theorem kq2 : SigOk Tryz.prog (dq2.sig (Lq2 none)) ∧ (dq2.sig (Lq2 none)).ok = true := zf (zb kqe (by kernel_rfl) (zb kqp (by kernel_rfl) (zb kqs (by kernel_rfl) ze))) (by kernel_rfl) (by kernel_rfl) (by kernel_rfl)
def dqbj : FD := { fn := 157, nb := 0, pre := ⟨[.ag [.i .i64 0, .i .i64 1, .i .i64 2, .i .i64 3, .fz 90 false 4, .fz 156 false 5, .fz 158 false 6], .ag [.i .i64 7, .fz 9 false 8, .fz 9 false 9, .i .i64 10, .i .i64 11, .i .i64 12]], []⟩, post := ⟨[.ag [.i .i64 0, .i .i64 1, .i .i64 2, .i .i64 3, .i .i64 4, .fz 90 false 5, .fz 156 false 6, .fz 158 false 7, .i .i64 8, .fz 9 false 9, .fz 9 false 10, .i .i64 11, .i .i64 12, .i .i64 13, .ow 0]], [.rw 9 true 14]⟩, sh := true, cuts := [⟨15, [2, 3, 4, 6, 8, 9], ⟨[.sc (.pt 0 0), .sc (.pt 1 0), .sc (.pt 2 0), .sc (.ow 3), .sc (.fz 9 false 0), .sc (.i .i64 1)], [.bx [.i .i64 2, .i .i64 3, .i .i64 4, .i .i64 5, .fz 90 false 6, .fz 156 false 7, .fz 158 false 8], .bx [.i .i64 9, .fz 9 false 10, .ow 4, .i .i64 11, .i .i64 12, .i .i64 13], .bx [.i .i64 14, .i .i64 15, .i .i64 16, .i .i64 17, .i .i64 18, .ow 5, .ow 6, .ow 7, .i .i64 19, .ow 8, .ow 9, .i .i64 20, .i .i64 21, .i .i64 22, .ow 10], .rw 9 true 23, .rw 9 true 24, .rw 90 true 25, .rw 156 true 26, .rw 158 true 27, .rw 9 true 28, .rw 9 true 29, .rw 9 true 30]⟩⟩] }
noncomputable def Lqbj : Option Nat → Lv → Option Lv := Lim Tryz.prog [dqe.sig (Lqe none), dqp.sig (Lqp none), dq4.sig (Lq4 none), dqbb.sig (Lqbb none), dq2.sig (Lq2 none)] dqbj Tryz.f157
theorem eqbj_i (a0 a1 a2 a3 : Int) (a4 a5 a6 : Rw) (a7 : Int) (a8 a9 : Rw) (a10 a11 a12 : Int) : Lqbj none [.i a0, .i a1, .i a2, .i a3, .l a4, .l a5, .l a6, .i a7, .l a8, .l a9, .i a10, .i a11, .i a12] =
 cond (a7 == 0) (
 (Lq4 none [.i a0, .i a1, .i a2, .i a3, .l a4, .l a5, .l a6]).bind fun y1 =>
 some [.i 0, .i a0, .i a1, .i a2, .i a3, .l a4, .l a5, .l a6, .i 1, .l ((g y1 0).list), .l a9, .i a3, .i (IntKind.i64.wrap (a3 + 1)), .i a12, .l []]) (
 cond (decide (0 < (a8.length : Int))) (
 cond (inb 0 a8.length) (
 cond (decide (1 ≤ (a8.length : Int))) (
 cond (decide (([] : Rw).length + (Eng.sub a8 1 a8.length).length ≤ most)) (
 (Lqe none [.i a0, .i a1, .i a2, .i a3, .l a4, .l a5, .l a6, .s ((rd a8 0 0).str)]).bind fun y2 =>
 cond (decide (0 ≤ (g y2 0).int)) (
 (Lqp none [.l a9, .s ((rd a8 0 0).str)]).bind fun y3 =>
 cond (!(g y3 0).bool) (
 cond (decide (([] : Rw).length + a9.length ≤ most)) (
 cond (decide ((([] : Rw) ++ a9).length + ([[.s ((rd a8 0 0).str)]] : Rw).length ≤ most)) (
 cond (inb ((g y2 0).int) a4.length) (
 Lqbj (some 15) [.l ((rd a4 (((g y2 0).int).toNat) 3).list), .i 0, .i a0, .i a1, .i a2, .i a3, .l a4, .l a5, .l a6, .i a7, .l a8, .i a10, .i a11, .i a12, .i 0, .i 0, .i 0, .i 0, .i 0, .i 0, .i 0, .i 0, .i 0, .l (([] : Rw) ++ (Eng.sub a8 1 a8.length)), .l ((([] : Rw) ++ a9) ++ ([[.s ((rd a8 0 0).str)]] : Rw)), .l [], .l [], .l [], .l [], .l [], .l []]) (
 none)) (
 none)) (
 none)) (
 some [.i 0, .i a0, .i a1, .i a2, .i a3, .l a4, .l a5, .l a6, .i a7, .l (([] : Rw) ++ (Eng.sub a8 1 a8.length)), .l a9, .i a10, .i a11, .i a12, .l []])) (
 some [.i 0, .i a0, .i a1, .i a2, .i a3, .l a4, .l a5, .l a6, .i a7, .l (([] : Rw) ++ (Eng.sub a8 1 a8.length)), .l a9, .i a10, .i a11, .i a12, .l []])) (
 none)) (
 none)) (
 none)) (
 (Lqbb none [.i a0, .i a1, .i a2, .i a3, .l a4, .l a5, .l a6, .i a11]).bind fun y4 =>
 cond (decide ((g y4 0).int < 0)) (
 some [.i 0, .i a0, .i a1, .i a2, .i a3, .l a4, .l a5, .l a6, .i 0, .l ([]), .l ([]), .i 0, .i 0, .i (IntKind.i64.wrap (a12 + 1)), .l []]) (
 cond (inb ((g y4 0).int) a4.length) (
 cond (inb ((g y4 0).int) a4.length) (
 (Lqp none [.l a9, .s ((rd a4 (((g y4 0).int).toNat) 0).str)]).bind fun y5 =>
 cond ((g y5 0).bool) (
 some [.i 0, .i a0, .i a1, .i a2, .i a3, .l a4, .l a5, .l a6, .i 2, .l a8, .l a9, .i a10, .i ((rd a4 (((g y4 0).int).toNat) 1).int), .i a12, .l []]) (
 (Lq2 none [.i a0, .i a1, .i a2, .i a3, .l a4, .l a5, .l a6, .s ((rd a4 (((g y4 0).int).toNat) 0).str)]).bind fun y6 =>
 cond ((g y6 0).int != 0) (
 some [.i 0, .i a0, .i a1, .i a2, .i a3, .l a4, .l a5, .l a6, .i 2, .l a8, .l a9, .i a10, .i ((rd a4 (((g y4 0).int).toNat) 1).int), .i a12, .l []]) (
 some [.i 0, .i ((g y6 1).int), .i ((g y6 2).int), .i ((g y6 3).int), .i ((g y6 4).int), .l ((g y6 11).list), .l ((g y6 5).list), .l ((g y6 6).list), .i 2, .l a8, .l a9, .i a10, .i ((rd a4 (((g y4 0).int).toNat) 1).int), .i a12, .l ([[.s ((rd a4 (((g y4 0).int).toNat) 0).str)]] : Rw)]))) (
 none)) (
 none)))) := (zd _ _).trans (by kernel_rfl)
theorem eqbj_15 (a0 : Rw) (a1 a2 a3 a4 a5 : Int) (a6 a7 a8 : Rw) (a9 : Int) (a10 : Rw) (a11 a12 a13 a14 a15 a16 a17 a18 a19 a20 a21 a22 : Int) (a23 a24 a25 a26 a27 a28 a29 a30 : Rw) : Lqbj (some 15) [.l a0, .i a1, .i a2, .i a3, .i a4, .i a5, .l a6, .l a7, .l a8, .i a9, .l a10, .i a11, .i a12, .i a13, .i a14, .i a15, .i a16, .i a17, .i a18, .i a19, .i a20, .i a21, .i a22, .l a23, .l a24, .l a25, .l a26, .l a27, .l a28, .l a29, .l a30] =
 cond (decide (a1 < (a0.length : Int))) (
 cond (inb a1 a0.length) (
 (Lqp none [.l a24, .s ((rd a0 a1.toNat 0).str)]).bind fun y1 =>
 cond (!(g y1 0).bool) (
 cond (inb a1 a0.length) (
 cond (decide (a23.length + ([[.s ((rd a0 a1.toNat 0).str)]] : Rw).length ≤ most)) (
 Lqbj (some 15) [.l a0, .i (IntKind.i64.wrap (a1 + 1)), .i a2, .i a3, .i a4, .i a5, .l a6, .l a7, .l a8, .i a9, .l a10, .i a11, .i a12, .i a13, .i a14, .i a15, .i a16, .i a17, .i a18, .i a19, .i a20, .i a21, .i a22, .l (a23 ++ ([[.s ((rd a0 a1.toNat 0).str)]] : Rw)), .l a24, .l a25, .l a26, .l a27, .l a28, .l a29, .l a30]) (
 none)) (
 none)) (
 Lqbj (some 15) [.l a0, .i (IntKind.i64.wrap (a1 + 1)), .i a2, .i a3, .i a4, .i a5, .l a6, .l a7, .l a8, .i a9, .l a10, .i a11, .i a12, .i a13, .i a14, .i a15, .i a16, .i a17, .i a18, .i a19, .i a20, .i a21, .i a22, .l a23, .l a24, .l a25, .l a26, .l a27, .l a28, .l a29, .l a30])) (
 none)) (
 some [.i 0, .i a2, .i a3, .i a4, .i a5, .l a6, .l a7, .l a8, .i a9, .l a23, .l a24, .i a11, .i a12, .i a13, .l []]) := (zd _ _).trans (by kernel_rfl)
theorem kqbj : SigOk Tryz.prog (dqbj.sig (Lqbj none)) ∧ (dqbj.sig (Lqbj none)).ok = true := zf (zb kqe (by kernel_rfl) (zb kqp (by kernel_rfl) (zb kq4 (by kernel_rfl) (zb kqbb (by kernel_rfl) (zb kq2 (by kernel_rfl) ze))))) (by kernel_rfl) (by kernel_rfl) (by kernel_rfl)
def dqb6 : FD := { fn := 93, nb := 0, pre := ⟨[.ag [.i .i64 0, .i .i64 1, .fz 9 false 2, .fz 9 false 3, .i .i64 4, .i .i64 5, .i .i64 6, .i .i64 7, .fz 90 false 8, .fz 156 false 9, .fz 158 false 10, .i .i64 11, .fz 9 false 12, .fz 9 false 13, .i .i64 14, .i .i64 15, .i .i64 16], .sc (.i .i64 17)], []⟩, post := ⟨[.ag [.i .i64 0, .i .i64 1, .i .i64 2, .ow 0, .ow 1, .i .i64 3, .i .i64 4, .i .i64 5, .i .i64 6, .ow 2, .ow 3, .ow 4, .i .i64 7, .ow 5, .ow 6, .i .i64 8, .i .i64 9, .i .i64 10, .i .i64 11, .ow 7]], [.rw 9 true 12, .rw 9 true 13, .rw 90 true 14, .rw 156 true 15, .rw 158 true 16, .rw 9 true 17, .rw 9 true 18, .rw 9 true 19]⟩, sh := false, cuts := [⟨4, [1, 2, 4, 5], ⟨[.sc (.i .i64 0), .sc (.pt 0 0), .sc (.pt 1 0), .sc (.pt 2 0)], [.bx [.i .i64 1, .i .i64 2, .fz 9 false 3, .fz 9 false 4, .i .i64 5, .i .i64 6, .i .i64 7, .i .i64 8, .fz 90 false 9, .fz 156 false 10, .fz 158 false 11, .i .i64 12, .fz 9 false 13, .fz 9 false 14, .i .i64 15, .i .i64 16, .i .i64 17], .bx [.i .i64 18, .i .i64 19, .i .i64 20, .ow 3, .ow 4, .i .i64 21, .i .i64 22, .i .i64 23, .i .i64 24, .ow 5, .ow 6, .ow 7, .i .i64 25, .ow 8, .ow 9, .i .i64 26, .i .i64 27, .i .i64 28, .i .i64 29, .ow 10], .bx [.i .i64 30, .i .i64 31, .i .i64 32, .ow 11, .ow 12, .i .i64 33, .i .i64 34, .i .i64 35, .i .i64 36, .fz 90 true 37, .fz 156 true 38, .fz 158 true 39, .i .i64 40, .fz 9 true 41, .fz 9 true 42, .i .i64 43, .i .i64 44, .i .i64 45, .i .i64 46, .ow 13], .rw 9 true 47, .rw 9 true 48, .rw 90 true 49, .rw 156 true 50, .rw 158 true 51, .rw 9 true 52, .rw 9 true 53, .rw 9 true 54, .rw 9 true 55, .rw 9 true 56, .rw 9 true 57]⟩⟩] }
noncomputable def Lqb6 : Option Nat → Lv → Option Lv := Lim Tryz.prog [dqbi.sig (Lqbi none), dqu.sig (Lqu none), dqbo.sig (Lqbo none), dqbp.sig (Lqbp none), dqbj.sig (Lqbj none)] dqb6 Tryz.f93
theorem eqb6_i (a0 a1 : Int) (a2 a3 : Rw) (a4 a5 a6 a7 : Int) (a8 a9 a10 : Rw) (a11 : Int) (a12 a13 : Rw) (a14 a15 a16 a17 : Int) : Lqb6 none [.i a0, .i a1, .l a2, .l a3, .i a4, .i a5, .i a6, .i a7, .l a8, .l a9, .l a10, .i a11, .l a12, .l a13, .i a14, .i a15, .i a16, .i a17] =
 (Lqbo none [.i a0, .i a1, .l a2, .l a3, .i a4, .i a5, .i a6, .i a7, .l a8, .l a9, .l a10, .i a11, .l a12, .l a13, .i a14, .i a15, .i a16]).bind fun y1 =>
 cond (!(g y1 0).bool) (
 some [.i 1, .i 0, .i 0, .i 0, .i 0, .i 0, .i 0, .i 0, .i 0, .i 0, .i 0, .i 0, .l [], .l [], .l [], .l [], .l [], .l [], .l [], .l []]) (
 (Lqu none [.i a17, .i 0, .i 10000]).bind fun y2 =>
 cond (!(g y2 0).bool) (
 some [.i 1, .i 0, .i 0, .i 0, .i 0, .i 0, .i 0, .i 0, .i 0, .i 0, .i 0, .i 0, .l [], .l [], .l [], .l [], .l [], .l [], .l [], .l []]) (
 (Lqbp none [.i a0, .i a1, .l a2, .l a3, .i a4, .i a5, .i a6, .i a7, .l a8, .l a9, .l a10, .i a11, .l a12, .l a13, .i a14, .i a15, .i a16]).bind fun y3 =>
 Lqb6 (some 4) [.i a17, .i a0, .i a1, .l a2, .l a3, .i a4, .i a5, .i a6, .i a7, .l a8, .l a9, .l a10, .i a11, .l a12, .l a13, .i a14, .i a15, .i a16, .i 0, .i 0, .i 0, .i 0, .i 0, .i 0, .i 0, .i 0, .i 0, .i 0, .i 0, .i 0, .i 0, .i ((g y3 0).int), .i ((g y3 1).int), .i ((g y3 2).int), .i ((g y3 3).int), .i ((g y3 4).int), .i ((g y3 5).int), .l ((g y3 12).list), .l ((g y3 13).list), .l ((g y3 14).list), .i ((g y3 6).int), .l ((g y3 15).list), .l ((g y3 16).list), .i ((g y3 7).int), .i ((g y3 8).int), .i ((g y3 9).int), .i 0, .l [], .l [], .l [], .l [], .l [], .l [], .l [], .l [], .l ((g y3 10).list), .l ((g y3 11).list), .l []])) := (zd _ _).trans (by kernel_rfl)
theorem eqb6_4 (a0 a1 a2 : Int) (a3 a4 : Rw) (a5 a6 a7 a8 : Int) (a9 a10 a11 : Rw) (a12 : Int) (a13 a14 : Rw) (a15 a16 a17 a18 a19 a20 a21 a22 a23 a24 a25 a26 a27 a28 a29 a30 a31 a32 a33 a34 a35 a36 : Int) (a37 a38 a39 : Rw) (a40 : Int) (a41 a42 : Rw) (a43 a44 a45 a46 : Int) (a47 a48 a49 a50 a51 a52 a53 a54 a55 a56 a57 : Rw) : Lqb6 (some 4) [.i a0, .i a1, .i a2, .l a3, .l a4, .i a5, .i a6, .i a7, .i a8, .l a9, .l a10, .l a11, .i a12, .l a13, .l a14, .i a15, .i a16, .i a17, .i a18, .i a19, .i a20, .i a21, .i a22, .i a23, .i a24, .i a25, .i a26, .i a27, .i a28, .i a29, .i a30, .i a31, .i a32, .i a33, .i a34, .i a35, .i a36, .l a37, .l a38, .l a39, .i a40, .l a41, .l a42, .i a43, .i a44, .i a45, .i a46, .l a47, .l a48, .l a49, .l a50, .l a51, .l a52, .l a53, .l a54, .l a55, .l a56, .l a57] =
 cond (decide (a46 < a0)) (
 cond (decide (1000000000 ≤ a45)) (
 some [.i 1, .i 0, .i 0, .i 0, .i 0, .i 0, .i 0, .i 0, .i 0, .i 0, .i 0, .i 0, .l [], .l [], .l [], .l [], .l [], .l [], .l [], .l []]) (
 (Lqbj none [.i a33, .i a34, .i a35, .i a36, .l a37, .l a38, .l a39, .i a40, .l a41, .l a42, .i a43, .i a44, .i a45]).bind fun y1 =>
 cond (decide (23200 < (((g y1 9).list).length : Int))) (
 some [.i 1, .i 0, .i 0, .i 0, .i 0, .i 0, .i 0, .i 0, .i 0, .i 0, .i 0, .i 0, .l [], .l [], .l [], .l [], .l [], .l [], .l [], .l []]) (
 cond (decide (600 < (((g y1 10).list).length : Int))) (
 some [.i 1, .i 0, .i 0, .i 0, .i 0, .i 0, .i 0, .i 0, .i 0, .i 0, .i 0, .i 0, .l [], .l [], .l [], .l [], .l [], .l [], .l [], .l []]) (
 cond (decide (0 < (((g y1 14).list).length : Int))) (
 cond (decide (4000 ≤ (IntKind.i64.wrap ((a55.length : Int) + (a56.length : Int))))) (
 (Lqbp none [.i a31, .i a32, .l a55, .l a56, .i a33, .i a34, .i a35, .i a36, .l a37, .l a38, .l a39, .i a40, .l a41, .l a42, .i a43, .i a44, .i a45]).bind fun y2 =>
 some [.i a30, .i ((g y2 0).int), .i ((g y2 1).int), .i ((g y2 2).int), .i ((g y2 3).int), .i ((g y2 4).int), .i ((g y2 5).int), .i ((g y2 6).int), .i ((g y2 7).int), .i ((g y2 8).int), .i ((g y2 9).int), .i a46, .l ((g y2 10).list), .l ((g y2 11).list), .l ((g y2 12).list), .l ((g y2 13).list), .l ((g y2 14).list), .l ((g y2 15).list), .l ((g y2 16).list), .l a57]) (
 cond (inb 0 (((g y1 14).list).length)) (
 (Lqbi none [.i 7, .s ((rd ((g y1 14).list) 0 0).str), .s (⟨#[]⟩ : ByteArray), .i 0, .s (⟨#[]⟩ : ByteArray), .l ([]), .i a1]).bind fun y3 =>
 cond (decide (a56.length + ([[.s ((g y3 0).str)]] : Rw).length ≤ most)) (
 cond (inb 0 (((g y1 14).list).length)) (
 cond (decide (a57.length + ([[.s ((rd ((g y1 14).list) 0 0).str)]] : Rw).length ≤ most)) (
 Lqb6 (some 4) [.i a0, .i a1, .i a2, .l a3, .l a4, .i a5, .i a6, .i a7, .i a8, .l a9, .l a10, .l a11, .i a12, .l a13, .l a14, .i a15, .i a16, .i a17, .i a18, .i a19, .i a20, .i a21, .i a22, .i a23, .i a24, .i a25, .i a26, .i a27, .i a28, .i a29, .i a30, .i a31, .i a32, .i ((g y1 1).int), .i ((g y1 2).int), .i ((g y1 3).int), .i ((g y1 4).int), .l ((g y1 5).list), .l ((g y1 6).list), .l ((g y1 7).list), .i ((g y1 8).int), .l ((g y1 9).list), .l ((g y1 10).list), .i ((g y1 11).int), .i ((g y1 12).int), .i ((g y1 13).int), .i (IntKind.i64.wrap (a46 + 1)), .l a47, .l a48, .l a49, .l a50, .l a51, .l a52, .l a53, .l a54, .l a55, .l (a56 ++ ([[.s ((g y3 0).str)]] : Rw)), .l (a57 ++ ([[.s ((rd ((g y1 14).list) 0 0).str)]] : Rw))]) (
 none)) (
 none)) (
 none)) (
 none))) (
 Lqb6 (some 4) [.i a0, .i a1, .i a2, .l a3, .l a4, .i a5, .i a6, .i a7, .i a8, .l a9, .l a10, .l a11, .i a12, .l a13, .l a14, .i a15, .i a16, .i a17, .i a18, .i a19, .i a20, .i a21, .i a22, .i a23, .i a24, .i a25, .i a26, .i a27, .i a28, .i a29, .i a30, .i a31, .i a32, .i ((g y1 1).int), .i ((g y1 2).int), .i ((g y1 3).int), .i ((g y1 4).int), .l ((g y1 5).list), .l ((g y1 6).list), .l ((g y1 7).list), .i ((g y1 8).int), .l ((g y1 9).list), .l ((g y1 10).list), .i ((g y1 11).int), .i ((g y1 12).int), .i ((g y1 13).int), .i (IntKind.i64.wrap (a46 + 1)), .l a47, .l a48, .l a49, .l a50, .l a51, .l a52, .l a53, .l a54, .l a55, .l a56, .l a57]))))) (
 (Lqbp none [.i a31, .i a32, .l a55, .l a56, .i a33, .i a34, .i a35, .i a36, .l a37, .l a38, .l a39, .i a40, .l a41, .l a42, .i a43, .i a44, .i a45]).bind fun y4 =>
 some [.i a30, .i ((g y4 0).int), .i ((g y4 1).int), .i ((g y4 2).int), .i ((g y4 3).int), .i ((g y4 4).int), .i ((g y4 5).int), .i ((g y4 6).int), .i ((g y4 7).int), .i ((g y4 8).int), .i ((g y4 9).int), .i a46, .l ((g y4 10).list), .l ((g y4 11).list), .l ((g y4 12).list), .l ((g y4 13).list), .l ((g y4 14).list), .l ((g y4 15).list), .l ((g y4 16).list), .l a57]) := (zd _ _).trans (by kernel_rfl)
theorem kqb6 : SigOk Tryz.prog (dqb6.sig (Lqb6 none)) ∧ (dqb6.sig (Lqb6 none)).ok = true := zf (zb kqbi (by kernel_rfl) (zb kqu (by kernel_rfl) (zb kqbo (by kernel_rfl) (zb kqbp (by kernel_rfl) (zb kqbj (by kernel_rfl) ze))))) (by kernel_rfl) (by kernel_rfl) (by kernel_rfl)
def dqc5 : FD := { fn := 230, nb := 0, pre := ⟨[.ag [.fz 9 false 0, .fz 9 false 1]], []⟩, post := ⟨[.ag [.ow 0, .ow 1]], [.rw 9 true 0, .rw 9 true 1]⟩, sh := false, cuts := [] }
noncomputable def Lqc5 : Option Nat → Lv → Option Lv := Lim Tryz.prog [dql.sig (Lql none)] dqc5 Tryz.f230
theorem eqc5_i (a0 a1 : Rw) : Lqc5 none [.l a0, .l a1] =
 (Lql none [.l a0, .l a1]).bind fun y1 =>
 cond (!(g y1 0).bool) (
 some [.l [], .l []]) (
 cond (decide (([] : Rw).length + a0.length ≤ most)) (
 cond (decide ((([] : Rw) ++ a0).length + a1.length ≤ most)) (
 some [.l ((([] : Rw) ++ a0) ++ a1), .l []]) (
 none)) (
 none)) := (zd _ _).trans (by kernel_rfl)
theorem kqc5 : SigOk Tryz.prog (dqc5.sig (Lqc5 none)) ∧ (dqc5.sig (Lqc5 none)).ok = true := zf (zb kql (by kernel_rfl) ze) (by kernel_rfl) (by kernel_rfl) (by kernel_rfl)
def dqc6 : FD := { fn := 218, nb := 0, pre := ⟨[.ag [.i .i64 0, .i .i64 1, .fz 9 false 2, .fz 9 false 3, .i .i64 4, .i .i64 5, .i .i64 6, .i .i64 7, .fz 90 false 8, .fz 156 false 9, .fz 158 false 10, .i .i64 11, .fz 9 false 12, .fz 9 false 13, .i .i64 14, .i .i64 15, .i .i64 16]], []⟩, post := ⟨[.ag [.i .i64 0, .i .i64 1, .ow 0, .ow 1, .i .i64 2, .i .i64 3, .i .i64 4, .i .i64 5, .ow 2, .ow 3, .ow 4, .i .i64 6, .ow 5, .ow 6, .i .i64 7, .i .i64 8, .i .i64 9]], [.rw 9 true 10, .rw 9 true 11, .rw 90 true 12, .rw 156 true 13, .rw 158 true 14, .rw 9 true 15, .rw 9 true 16]⟩, sh := false, cuts := [] }
noncomputable def Lqc6 : Option Nat → Lv → Option Lv := Lim Tryz.prog [dqbo.sig (Lqbo none), dqbp.sig (Lqbp none), dqc5.sig (Lqc5 none)] dqc6 Tryz.f218
theorem eqc6_i (a0 a1 : Int) (a2 a3 : Rw) (a4 a5 a6 a7 : Int) (a8 a9 a10 : Rw) (a11 : Int) (a12 a13 : Rw) (a14 a15 a16 : Int) : Lqc6 none [.i a0, .i a1, .l a2, .l a3, .i a4, .i a5, .i a6, .i a7, .l a8, .l a9, .l a10, .i a11, .l a12, .l a13, .i a14, .i a15, .i a16] =
 (Lqbo none [.i a0, .i a1, .l a2, .l a3, .i a4, .i a5, .i a6, .i a7, .l a8, .l a9, .l a10, .i a11, .l a12, .l a13, .i a14, .i a15, .i a16]).bind fun y1 =>
 cond (!(g y1 0).bool) (
 some [.i 0, .i 0, .i 0, .i 0, .i 0, .i 0, .i 0, .i 0, .i 0, .i 0, .l [], .l [], .l [], .l [], .l [], .l [], .l []]) (
 (Lqbp none [.i a0, .i a1, .l a2, .l a3, .i a4, .i a5, .i a6, .i a7, .l a8, .l a9, .l a10, .i a11, .l a12, .l a13, .i a14, .i a15, .i a16]).bind fun y2 =>
 (Lqc5 none [.l a2, .l a3]).bind fun y3 =>
 some [.i ((g y2 0).int), .i ((g y2 1).int), .i ((g y2 2).int), .i ((g y2 3).int), .i ((g y2 4).int), .i ((g y2 5).int), .i ((g y2 6).int), .i ((g y2 7).int), .i ((g y2 8).int), .i ((g y2 9).int), .l ((g y3 0).list), .l ((g y3 1).list), .l ((g y2 12).list), .l ((g y2 13).list), .l ((g y2 14).list), .l ((g y2 15).list), .l ((g y2 16).list)]) := (zd _ _).trans (by kernel_rfl)
theorem kqc6 : SigOk Tryz.prog (dqc6.sig (Lqc6 none)) ∧ (dqc6.sig (Lqc6 none)).ok = true := zf (zb kqbo (by kernel_rfl) (zb kqbp (by kernel_rfl) (zb kqc5 (by kernel_rfl) ze))) (by kernel_rfl) (by kernel_rfl) (by kernel_rfl)
def dqc7 : FD := { fn := 231, nb := 0, pre := ⟨[.ag [.fz 9 false 0, .fz 9 false 1], .sc (.i .i64 2)], []⟩, post := ⟨[.ag [.ow 0, .fz 9 true 0]], [.rw 9 true 1]⟩, sh := false, cuts := [] }
noncomputable def Lqc7 : Option Nat → Lv → Option Lv := Lim Tryz.prog [dql.sig (Lql none)] dqc7 Tryz.f231
theorem eqc7_i (a0 a1 : Rw) (a2 : Int) : Lqc7 none [.l a0, .l a1, .i a2] =
 (Lql none [.l a0, .l a1]).bind fun y1 =>
 cond (!(g y1 0).bool) (
 some [.l ([]), .l []]) (
 cond (decide (a2 < 0)) (
 cond (decide ((a1.length : Int) < 0)) (
 cond (decide (([] : Rw).length + a0.length ≤ most)) (
 cond (decide (0 ≤ (a1.length : Int))) (
 cond (decide ((a1.length : Int) ≤ (a1.length : Int))) (
 cond (decide ((([] : Rw) ++ a0).length + (Eng.sub a1 0 ((a1.length : Int).toNat)).length ≤ most)) (
 some [.l ([]), .l ((([] : Rw) ++ a0) ++ (Eng.sub a1 0 ((a1.length : Int).toNat)))]) (
 none)) (
 none)) (
 none)) (
 none)) (
 cond (decide (([] : Rw).length + a0.length ≤ most)) (
 cond (decide (0 ≤ (a1.length : Int))) (
 cond (decide ((([] : Rw) ++ a0).length + (Eng.sub a1 0 0).length ≤ most)) (
 some [.l ([]), .l ((([] : Rw) ++ a0) ++ (Eng.sub a1 0 0))]) (
 none)) (
 none)) (
 none))) (
 cond (decide ((a1.length : Int) < a2)) (
 cond (decide (([] : Rw).length + a0.length ≤ most)) (
 cond (decide (0 ≤ (a1.length : Int))) (
 cond (decide ((a1.length : Int) ≤ (a1.length : Int))) (
 cond (decide ((([] : Rw) ++ a0).length + (Eng.sub a1 0 ((a1.length : Int).toNat)).length ≤ most)) (
 some [.l ([]), .l ((([] : Rw) ++ a0) ++ (Eng.sub a1 0 ((a1.length : Int).toNat)))]) (
 none)) (
 none)) (
 none)) (
 none)) (
 cond (decide (([] : Rw).length + a0.length ≤ most)) (
 cond (decide (0 ≤ a2)) (
 cond (decide (a2 ≤ (a1.length : Int))) (
 cond (decide ((([] : Rw) ++ a0).length + (Eng.sub a1 0 a2.toNat).length ≤ most)) (
 some [.l ([]), .l ((([] : Rw) ++ a0) ++ (Eng.sub a1 0 a2.toNat))]) (
 none)) (
 none)) (
 none)) (
 none)))) := (zd _ _).trans (by kernel_rfl)
theorem kqc7 : SigOk Tryz.prog (dqc7.sig (Lqc7 none)) ∧ (dqc7.sig (Lqc7 none)).ok = true := zf (zb kql (by kernel_rfl) ze) (by kernel_rfl) (by kernel_rfl) (by kernel_rfl)
def dqcx : FD := { fn := 219, nb := 0, pre := ⟨[.ag [.i .i64 0, .i .i64 1, .fz 9 false 2, .fz 9 false 3, .i .i64 4, .i .i64 5, .i .i64 6, .i .i64 7, .fz 90 false 8, .fz 156 false 9, .fz 158 false 10, .i .i64 11, .fz 9 false 12, .fz 9 false 13, .i .i64 14, .i .i64 15, .i .i64 16], .sc (.i .i64 17)], []⟩, post := ⟨[.ag [.i .i64 0, .i .i64 1, .ow 0, .ow 1, .i .i64 2, .i .i64 3, .i .i64 4, .i .i64 5, .ow 2, .ow 3, .ow 4, .i .i64 6, .fz 9 true 7, .fz 9 true 8, .i .i64 9, .i .i64 10, .i .i64 11]], [.rw 9 true 12, .rw 9 true 13, .rw 90 true 14, .rw 156 true 15, .rw 158 true 16]⟩, sh := false, cuts := [] }
noncomputable def Lqcx : Option Nat → Lv → Option Lv := Lim Tryz.prog [dqbo.sig (Lqbo none), dqce.sig (Lqce none), dqc7.sig (Lqc7 none)] dqcx Tryz.f219
theorem eqcx_i (a0 a1 : Int) (a2 a3 : Rw) (a4 a5 a6 a7 : Int) (a8 a9 a10 : Rw) (a11 : Int) (a12 a13 : Rw) (a14 a15 a16 a17 : Int) : Lqcx none [.i a0, .i a1, .l a2, .l a3, .i a4, .i a5, .i a6, .i a7, .l a8, .l a9, .l a10, .i a11, .l a12, .l a13, .i a14, .i a15, .i a16, .i a17] =
 (Lqbo none [.i a0, .i a1, .l a2, .l a3, .i a4, .i a5, .i a6, .i a7, .l a8, .l a9, .l a10, .i a11, .l a12, .l a13, .i a14, .i a15, .i a16]).bind fun y1 =>
 cond (!(g y1 0).bool) (
 some [.i 0, .i 0, .i 0, .i 0, .i 0, .i 0, .i 0, .l ([]), .l ([]), .i 0, .i 0, .i 0, .l [], .l [], .l [], .l [], .l []]) (
 (Lqc7 none [.l a2, .l a3, .i a17]).bind fun y2 =>
 (Lqce none [.i a0, .i a1, .l ((g y2 1).list), .l ((g y2 0).list)]).bind fun y3 =>
 some [.i ((g y3 0).int), .i ((g y3 1).int), .i ((g y3 2).int), .i ((g y3 3).int), .i ((g y3 4).int), .i ((g y3 5).int), .i ((g y3 6).int), .l ((g y3 7).list), .l ((g y3 8).list), .i ((g y3 9).int), .i ((g y3 10).int), .i ((g y3 11).int), .l ((g y3 13).list), .l ((g y3 14).list), .l ((g y3 15).list), .l ((g y3 16).list), .l ((g y3 17).list)]) := (zd _ _).trans (by kernel_rfl)
theorem kqcx : SigOk Tryz.prog (dqcx.sig (Lqcx none)) ∧ (dqcx.sig (Lqcx none)).ok = true := zf (zb kqbo (by kernel_rfl) (zb kqce (by kernel_rfl) (zb kqc7 (by kernel_rfl) ze))) (by kernel_rfl) (by kernel_rfl) (by kernel_rfl)
end KV
end
