/- Walks of Go functions, printed by a program of ours. -/
import Derived.Test.YtbgmclgeikflaaaGreatProg
import Derived.Test.YtbgmclgeikflaaaGreatM1
import Derived.Test.YtbgmclgeikflaaaGreatM2
import Derived.Test.YtbgmclgeikflaaaGreatM3
set_option linter.unusedSimpArgs false
set_option linter.unusedVariables false
set_option linter.unusedSectionVars false
section
set_option maxRecDepth 100000
namespace KV
open Go Go.Eng Go.Proofs
def dqb2 : FD := { fn := 145, nb := 1, pre := ⟨[.sc (.pt 0 0), .ag [.s 0, .fz 9 false 1]], [.bx [.fz 5 false 2, .i .i64 3]]⟩, post := ⟨[.ag [.s 0, .ow 1]], [.bx [.fz 5 false 1, .i .i64 2], .rw 9 true 3]⟩, sh := true, cuts := [⟨15, [4, 5, 6, 7], ⟨[.sc (.pt 1 0), .sc (.pt 2 0), .sc (.i .i64 0), .sc (.i .i64 1)], [.bx [.fz 5 false 2, .i .i64 3], .bx [.s 4, .ow 3], .bx [.s 5, .ow 4], .rw 9 true 6, .rw 9 true 7]⟩⟩] }
noncomputable def Lqb2 : Option Nat → Lv → Option Lv := Lim Tryz.prog [dqb.sig (Lqb none), dqbu.sig (Lqbu none), dqcf.sig (Lqcf none)] dqb2 Tryz.f145
theorem eqb2_i (a0 : ByteArray) (a1 : Rw) (a2 : Rw) (a3 : Int) : Lqb2 none [.s a0, .l a1, .l a2, .i a3] =
 (Lqbu none [.s a0, .l a1]).bind fun y1 =>
 (Lqb none [.i 5, .l a2, .i a3]).bind fun y2 =>
 cond ((g y2 0).int == 0) (
 (Lqb none [.i 2, .l ((g y2 1).list), .i ((g y2 2).int)]).bind fun y3 =>
 (Lqcf none [.s (⟨#[116]⟩ : ByteArray), .i (IntKind.i64.wrap (2000 + (g y3 0).int))]).bind fun y4 =>
 some [.s ((g y4 0).str), .l ((g y3 1).list), .i ((g y3 2).int), .l ((g y1 1).list)]) (
 cond ((g y2 0).int == 1) (
 cond (decide (((g y1 1).list).length + ([[.s (⟨#[120]⟩ : ByteArray)]] : Rw).length ≤ most)) (
 some [.s ((g y1 0).str), .l ((g y2 1).list), .i ((g y2 2).int), .l ((g y1 1).list ++ ([[.s (⟨#[120]⟩ : ByteArray)]] : Rw))]) (
 none)) (
 cond ((g y2 0).int == 2) (
 cond (decide (0 < (((g y1 1).list).length : Int))) (
 cond (inb 0 (((g y1 1).list).length)) (
 cond (decide (((g y1 1).list).length + ([[.s ((rd ((g y1 1).list) 0 0).str)]] : Rw).length ≤ most)) (
 some [.s ((g y1 0).str), .l ((g y2 1).list), .i ((g y2 2).int), .l ((g y1 1).list ++ ([[.s ((rd ((g y1 1).list) 0 0).str)]] : Rw))]) (
 none)) (
 none)) (
 some [.s ((g y1 0).str), .l ((g y2 1).list), .i ((g y2 2).int), .l ((g y1 1).list)])) (
 cond ((g y2 0).int == 3) (
 (Lqb none [.i 2, .l ((g y2 1).list), .i ((g y2 2).int)]).bind fun y5 =>
 Lqb2 (some 15) [.i (IntKind.i64.wrap (30 + (g y5 0).int)), .i 0, .l ((g y5 1).list), .i ((g y5 2).int), .s (⟨#[]⟩ : ByteArray), .s ((g y1 0).str), .l [], .l ([] : Rw)]) (
 cond (decide (((g y1 0).str).size + (⟨#[122]⟩ : ByteArray).size ≤ most)) (
 some [.s (((g y1 0).str) ++ (⟨#[122]⟩ : ByteArray)), .l ((g y2 1).list), .i ((g y2 2).int), .l ((g y1 1).list)]) (
 none))))) := (Lim_eq _ _).trans (by kernel_rfl)
theorem eqb2_15 (a0 : Int) (a1 : Int) (a2 : Rw) (a3 : Int) (a4 : ByteArray) (a5 : ByteArray) (a6 : Rw) (a7 : Rw) : Lqb2 (some 15) [.i a0, .i a1, .l a2, .i a3, .s a4, .s a5, .l a6, .l a7] =
 cond (decide (a1 < a0)) (
 cond (decide (a7.length + ([[.s (bytesOf ([[.i (IntKind.u8.wrap (IntKind.i64.wrap (33 + a1)))]] : Rw))]] : Rw).length ≤ most)) (
 Lqb2 (some 15) [.i a0, .i (IntKind.i64.wrap (a1 + 1)), .l a2, .i a3, .s a4, .s a5, .l a6, .l (a7 ++ ([[.s (bytesOf ([[.i (IntKind.u8.wrap (IntKind.i64.wrap (33 + a1)))]] : Rw))]] : Rw))]) (
 none)) (
 some [.s a5, .l a2, .i a3, .l a7]) := (Lim_eq _ _).trans (by kernel_rfl)
theorem kqb2 : SigOk Tryz.prog (dqb2.sig (Lqb2 none)) ∧ (dqb2.sig (Lqb2 none)).ok = true := sound_lim (known_cons kqb (by kernel_rfl) (known_cons kqbu (by kernel_rfl) (known_cons kqcf (by kernel_rfl) known_nil))) (by kernel_rfl) (by kernel_rfl) (by kernel_rfl)
def dqcn : FD := { fn := 154, nb := 1, pre := ⟨[.sc (.pt 0 0)], [.bx [.fz 5 false 0, .i .i64 1]]⟩, post := ⟨[.sc (.s 0)], [.bx [.fz 5 false 1, .i .i64 2]]⟩, sh := true, cuts := [⟨13, [0, 3, 4, 5], ⟨[.sc (.pt 0 0), .sc (.i .i64 0), .sc (.ow 1), .sc (.i .i64 1)], [.bx [.fz 5 false 2, .i .i64 3], .rw 5 true 4]⟩⟩] }
noncomputable def Lqcn : Option Nat → Lv → Option Lv := Lim Tryz.prog [dqb.sig (Lqb none)] dqcn Tryz.f154
theorem eqcn_i (a0 : Rw) (a1 : Int) : Lqcn none [.l a0, .i a1] =
 (Lqb none [.i 9, .l a0, .i a1]).bind fun y1 =>
 cond ((g y1 0).int == 0) (
 some [.s (⟨#[]⟩ : ByteArray), .l ((g y1 1).list), .i ((g y1 2).int)]) (
 cond ((g y1 0).int == 1) (
 some [.s (⟨#[97, 32, 98]⟩ : ByteArray), .l ((g y1 1).list), .i ((g y1 2).int)]) (
 cond ((g y1 0).int == 2) (
 some [.s (⟨#[37, 45, 10]⟩ : ByteArray), .l ((g y1 1).list), .i ((g y1 2).int)]) (
 cond ((g y1 0).int == 3) (
 some [.s (⟨#[255, 0]⟩ : ByteArray), .l ((g y1 1).list), .i ((g y1 2).int)]) (
 (Lqb none [.i 4, .l ((g y1 1).list), .i ((g y1 2).int)]).bind fun y2 =>
 Lqcn (some 13) [.i ((g y2 0).int), .i 0, .l ((g y2 1).list), .i ((g y2 2).int), .l ([] : Rw)])))) := (Lim_eq _ _).trans (by kernel_rfl)
theorem eqcn_13 (a0 : Int) (a1 : Int) (a2 : Rw) (a3 : Int) (a4 : Rw) : Lqcn (some 13) [.i a0, .i a1, .l a2, .i a3, .l a4] =
 cond (decide (a1 ≤ a0)) (
 (Lqb none [.i 6, .l a2, .i a3]).bind fun y1 =>
 cond (decide (a4.length + ([[.i (IntKind.u8.wrap (IntKind.i64.wrap (97 + (g y1 0).int)))]] : Rw).length ≤ most)) (
 Lqcn (some 13) [.i a0, .i (IntKind.i64.wrap (a1 + 1)), .l ((g y1 1).list), .i ((g y1 2).int), .l (a4 ++ ([[.i (IntKind.u8.wrap (IntKind.i64.wrap (97 + (g y1 0).int)))]] : Rw))]) (
 none)) (
 some [.s (bytesOf a4), .l a2, .i a3]) := (Lim_eq _ _).trans (by kernel_rfl)
theorem kqcn : SigOk Tryz.prog (dqcn.sig (Lqcn none)) ∧ (dqcn.sig (Lqcn none)).ok = true := sound_lim (known_cons kqb (by kernel_rfl) known_nil) (by kernel_rfl) (by kernel_rfl) (by kernel_rfl)
def dqcg : FD := { fn := 75, nb := 1, pre := ⟨[.sc (.pt 0 0)], [.bx [.fz 5 false 0, .i .i64 1]]⟩, post := ⟨[.ag [.i .i64 0, .s 1, .i .i64 2, .s 3, .i .i64 4, .i .i64 5]], [.bx [.fz 5 false 6, .i .i64 7]]⟩, sh := true, cuts := [] }
noncomputable def Lqcg : Option Nat → Lv → Option Lv := Lim Tryz.prog [dqb.sig (Lqb none), dqcn.sig (Lqcn none)] dqcg Tryz.f75
theorem eqcg_i (a0 : Rw) (a1 : Int) : Lqcg none [.l a0, .i a1] =
 (Lqcn none [.l a0, .i a1]).bind fun y1 =>
 (Lqb none [.i 8, .l ((g y1 1).list), .i ((g y1 2).int)]).bind fun y2 =>
 (Lqb none [.i 3, .l ((g y2 1).list), .i ((g y2 2).int)]).bind fun y3 =>
 cond (inb ((g y3 0).int) (([[.s (⟨#[112]⟩ : ByteArray)], [.s (⟨#[113]⟩ : ByteArray)], [.s (⟨#[114]⟩ : ByteArray)]] : Rw).length)) (
 (Lqb none [.i 40, .l ((g y3 1).list), .i ((g y3 2).int)]).bind fun y4 =>
 (Lqb none [.i 5, .l ((g y4 1).list), .i ((g y4 2).int)]).bind fun y5 =>
 cond (inb ((g y5 0).int) (([[.i 1], [.i 3], [.i 10], [.i 40], [.i 200]] : Rw).length)) (
 (Lqb none [.i 20, .l ((g y5 1).list), .i ((g y5 2).int)]).bind fun y6 =>
 cond (decide ((g y6 0).int < 7)) (
 some [.i 1, .s ((g y1 0).str), .i ((g y2 0).int), .s ((rd ([[.s (⟨#[112]⟩ : ByteArray)], [.s (⟨#[113]⟩ : ByteArray)], [.s (⟨#[114]⟩ : ByteArray)]] : Rw) (((g y3 0).int).toNat) 0).str), .i ((g y4 0).int), .i ((rd ([[.i 1], [.i 3], [.i 10], [.i 40], [.i 200]] : Rw) (((g y5 0).int).toNat) 0).int), .l ((g y6 1).list), .i ((g y6 2).int)]) (
 cond (decide ((g y6 0).int < 10)) (
 some [.i 2, .s ((g y1 0).str), .i ((g y2 0).int), .s ((rd ([[.s (⟨#[112]⟩ : ByteArray)], [.s (⟨#[113]⟩ : ByteArray)], [.s (⟨#[114]⟩ : ByteArray)]] : Rw) (((g y3 0).int).toNat) 0).str), .i ((g y4 0).int), .i ((rd ([[.i 1], [.i 3], [.i 10], [.i 40], [.i 200]] : Rw) (((g y5 0).int).toNat) 0).int), .l ((g y6 1).list), .i ((g y6 2).int)]) (
 cond ((g y6 0).int == 10) (
 some [.i 3, .s ((g y1 0).str), .i ((g y2 0).int), .s ((rd ([[.s (⟨#[112]⟩ : ByteArray)], [.s (⟨#[113]⟩ : ByteArray)], [.s (⟨#[114]⟩ : ByteArray)]] : Rw) (((g y3 0).int).toNat) 0).str), .i ((g y4 0).int), .i ((rd ([[.i 1], [.i 3], [.i 10], [.i 40], [.i 200]] : Rw) (((g y5 0).int).toNat) 0).int), .l ((g y6 1).list), .i ((g y6 2).int)]) (
 cond ((g y6 0).int == 11) (
 some [.i 4, .s ((g y1 0).str), .i ((g y2 0).int), .s ((rd ([[.s (⟨#[112]⟩ : ByteArray)], [.s (⟨#[113]⟩ : ByteArray)], [.s (⟨#[114]⟩ : ByteArray)]] : Rw) (((g y3 0).int).toNat) 0).str), .i ((g y4 0).int), .i ((rd ([[.i 1], [.i 3], [.i 10], [.i 40], [.i 200]] : Rw) (((g y5 0).int).toNat) 0).int), .l ((g y6 1).list), .i ((g y6 2).int)]) (
 cond ((g y6 0).int == 12) (
 some [.i 5, .s ((g y1 0).str), .i ((g y2 0).int), .s ((rd ([[.s (⟨#[112]⟩ : ByteArray)], [.s (⟨#[113]⟩ : ByteArray)], [.s (⟨#[114]⟩ : ByteArray)]] : Rw) (((g y3 0).int).toNat) 0).str), .i ((g y4 0).int), .i ((rd ([[.i 1], [.i 3], [.i 10], [.i 40], [.i 200]] : Rw) (((g y5 0).int).toNat) 0).int), .l ((g y6 1).list), .i ((g y6 2).int)]) (
 cond (decide ((g y6 0).int < 15)) (
 some [.i 6, .s ((g y1 0).str), .i ((g y2 0).int), .s ((rd ([[.s (⟨#[112]⟩ : ByteArray)], [.s (⟨#[113]⟩ : ByteArray)], [.s (⟨#[114]⟩ : ByteArray)]] : Rw) (((g y3 0).int).toNat) 0).str), .i ((g y4 0).int), .i ((rd ([[.i 1], [.i 3], [.i 10], [.i 40], [.i 200]] : Rw) (((g y5 0).int).toNat) 0).int), .l ((g y6 1).list), .i ((g y6 2).int)]) (
 cond ((g y6 0).int == 15) (
 some [.i 8, .s ((g y1 0).str), .i ((g y2 0).int), .s ((rd ([[.s (⟨#[112]⟩ : ByteArray)], [.s (⟨#[113]⟩ : ByteArray)], [.s (⟨#[114]⟩ : ByteArray)]] : Rw) (((g y3 0).int).toNat) 0).str), .i ((g y4 0).int), .i ((rd ([[.i 1], [.i 3], [.i 10], [.i 40], [.i 200]] : Rw) (((g y5 0).int).toNat) 0).int), .l ((g y6 1).list), .i ((g y6 2).int)]) (
 cond ((g y6 0).int == 16) (
 some [.i 9, .s ((g y1 0).str), .i ((g y2 0).int), .s ((rd ([[.s (⟨#[112]⟩ : ByteArray)], [.s (⟨#[113]⟩ : ByteArray)], [.s (⟨#[114]⟩ : ByteArray)]] : Rw) (((g y3 0).int).toNat) 0).str), .i ((g y4 0).int), .i ((rd ([[.i 1], [.i 3], [.i 10], [.i 40], [.i 200]] : Rw) (((g y5 0).int).toNat) 0).int), .l ((g y6 1).list), .i ((g y6 2).int)]) (
 some [.i 10, .s ((g y1 0).str), .i ((g y2 0).int), .s ((rd ([[.s (⟨#[112]⟩ : ByteArray)], [.s (⟨#[113]⟩ : ByteArray)], [.s (⟨#[114]⟩ : ByteArray)]] : Rw) (((g y3 0).int).toNat) 0).str), .i ((g y4 0).int), .i ((rd ([[.i 1], [.i 3], [.i 10], [.i 40], [.i 200]] : Rw) (((g y5 0).int).toNat) 0).int), .l ((g y6 1).list), .i ((g y6 2).int)]))))))))) (
 none)) (
 none) := (Lim_eq _ _).trans (by kernel_rfl)
theorem kqcg : SigOk Tryz.prog (dqcg.sig (Lqcg none)) ∧ (dqcg.sig (Lqcg none)).ok = true := sound_lim (known_cons kqb (by kernel_rfl) (known_cons kqcn (by kernel_rfl) known_nil)) (by kernel_rfl) (by kernel_rfl) (by kernel_rfl)
def dqq : FD := { fn := 76, nb := 0, pre := ⟨[.sc (.fz 9 false 0)], []⟩, post := ⟨[.sc (.ow 0)], [.rw 9 true 0]⟩, sh := false, cuts := [⟨3, [0, 3, 4], ⟨[.sc (.fz 9 false 0), .sc (.ow 0), .sc (.i .i64 1)], [.rw 9 true 2]⟩⟩, ⟨6, [0, 3, 4, 5], ⟨[.sc (.fz 9 false 0), .sc (.ow 0), .sc (.i .i64 1), .sc (.i .i64 2)], [.rw 9 true 3]⟩⟩, ⟨9, [0, 3, 4, 5], ⟨[.sc (.fz 9 false 0), .sc (.ow 0), .sc (.i .i64 1), .sc (.i .i64 2)], [.rw 9 true 3]⟩⟩] }
noncomputable def Lqq : Option Nat → Lv → Option Lv := Lim Tryz.prog [] dqq Tryz.f76
theorem eqq_i (a0 : Rw) : Lqq none [.l a0] =
 Lqq (some 3) [.l a0, .i 0, .l ([] : Rw)] := (Lim_eq _ _).trans (by kernel_rfl)
theorem eqq_3 (a0 : Rw) (a1 : Int) (a2 : Rw) : Lqq (some 3) [.l a0, .i a1, .l a2] =
 cond (decide (a1 < (a0.length : Int))) (
 Lqq (some 6) [.l a0, .i a1, .i 0, .l a2]) (
 some [.l a2]) := (Lim_eq _ _).trans (by kernel_rfl)
theorem eqq_6 (a0 : Rw) (a1 : Int) (a2 : Int) (a3 : Rw) : Lqq (some 6) [.l a0, .i a1, .i a2, .l a3] =
 cond (decide (a2 < (a3.length : Int))) (
 cond (inb a2 a3.length) (
 cond (inb a1 a0.length) (
 cond (slt ((rd a3 a2.toNat 0).str) ((rd a0 a1.toNat 0).str)) (
 Lqq (some 6) [.l a0, .i a1, .i (IntKind.i64.wrap (a2 + 1)), .l a3]) (
 cond (decide (a2 < (a3.length : Int))) (
 cond (inb a2 a3.length) (
 cond (inb a1 a0.length) (
 cond (Eng.seq ((rd a3 a2.toNat 0).str) ((rd a0 a1.toNat 0).str)) (
 Lqq (some 3) [.l a0, .i (IntKind.i64.wrap (a1 + 1)), .l a3]) (
 Lqq (some 9) [.l a0, .i a1, .i a2, .l a3])) (
 none)) (
 none)) (
 Lqq (some 9) [.l a0, .i a1, .i a2, .l a3]))) (
 none)) (
 none)) (
 cond (decide (a2 < (a3.length : Int))) (
 cond (inb a2 a3.length) (
 cond (inb a1 a0.length) (
 cond (Eng.seq ((rd a3 a2.toNat 0).str) ((rd a0 a1.toNat 0).str)) (
 Lqq (some 3) [.l a0, .i (IntKind.i64.wrap (a1 + 1)), .l a3]) (
 Lqq (some 9) [.l a0, .i a1, .i a2, .l a3])) (
 none)) (
 none)) (
 Lqq (some 9) [.l a0, .i a1, .i a2, .l a3])) := (Lim_eq _ _).trans (by kernel_rfl)
theorem eqq_9 (a0 : Rw) (a1 : Int) (a2 : Int) (a3 : Rw) : Lqq (some 9) [.l a0, .i a1, .i a2, .l a3] =
 cond (decide (0 ≤ a2)) (
 cond (decide (a2 ≤ (a3.length : Int))) (
 cond (decide (([] : Rw).length + (Eng.sub a3 0 a2.toNat).length ≤ most)) (
 cond (inb a1 a0.length) (
 cond (decide ((([] : Rw) ++ (Eng.sub a3 0 a2.toNat)).length + ([[.s ((rd a0 a1.toNat 0).str)]] : Rw).length ≤ most)) (
 cond (decide (0 ≤ a2)) (
 cond (decide (a2 ≤ (a3.length : Int))) (
 cond (decide (((([] : Rw) ++ (Eng.sub a3 0 a2.toNat)) ++ ([[.s ((rd a0 a1.toNat 0).str)]] : Rw)).length + (Eng.sub a3 a2.toNat a3.length).length ≤ most)) (
 Lqq (some 3) [.l a0, .i (IntKind.i64.wrap (a1 + 1)), .l (((([] : Rw) ++ (Eng.sub a3 0 a2.toNat)) ++ ([[.s ((rd a0 a1.toNat 0).str)]] : Rw)) ++ (Eng.sub a3 a2.toNat a3.length))]) (
 none)) (
 none)) (
 none)) (
 none)) (
 none)) (
 none)) (
 none)) (
 none) := (Lim_eq _ _).trans (by kernel_rfl)
theorem kqq : SigOk Tryz.prog (dqq.sig (Lqq none)) ∧ (dqq.sig (Lqq none)).ok = true := sound_lim known_nil (by kernel_rfl) (by kernel_rfl) (by kernel_rfl)
def dqbm : FD := { fn := 16, nb := 0, pre := ⟨[.ag [.i .i64 0, .s 1, .i .i64 2, .s 3, .i .i64 4, .i .i64 5], .ag [.i .i64 6, .i .i64 7, .i .i64 8, .i .i64 9, .fz 90 false 10, .fz 156 false 11, .fz 158 false 12]], []⟩, post := ⟨[.ag [.s 0, .ow 0]], [.rw 9 true 1]⟩, sh := false, cuts := [⟨5, [2, 3, 4, 5, 6, 7], ⟨[.sc (.pt 0 0), .sc (.pt 1 0), .sc (.pt 2 0), .sc (.pt 3 0), .sc (.ow 4), .sc (.i .i64 0)], [.bx [.i .i64 1, .s 2, .i .i64 3, .s 4, .i .i64 5, .i .i64 6], .bx [.i .i64 7, .i .i64 8, .i .i64 9, .i .i64 10, .fz 90 false 11, .fz 156 false 12, .fz 158 false 13], .bx [.s 14, .ow 5], .bx [.s 15, .ow 6], .rw 9 true 16, .rw 9 true 17, .rw 9 true 18]⟩⟩] }
noncomputable def Lqbm : Option Nat → Lv → Option Lv := Lim Tryz.prog [dqq.sig (Lqq none)] dqbm Tryz.f16
theorem eqbm_i (a0 : Int) (a1 : ByteArray) (a2 : Int) (a3 : ByteArray) (a4 : Int) (a5 : Int) (a6 : Int) (a7 : Int) (a8 : Int) (a9 : Int) (a10 : Rw) (a11 : Rw) (a12 : Rw) : Lqbm none [.i a0, .s a1, .i a2, .s a3, .i a4, .i a5, .i a6, .i a7, .i a8, .i a9, .l a10, .l a11, .l a12] =
 cond (decide (0 < (a10.length : Int))) (
 Lqbm (some 5) [.i 0, .i a0, .s a1, .i a2, .s a3, .i a4, .i a5, .i a6, .i a7, .i a8, .i a9, .l a10, .l a11, .l a12, .s (⟨#[]⟩ : ByteArray), .s a1, .l ([] : Rw), .l [], .l []]) (
 (Lqq none [.l ([] : Rw)]).bind fun y1 =>
 some [.s a1, .l ((g y1 0).list)]) := (Lim_eq _ _).trans (by kernel_rfl)
theorem eqbm_5 (a0 : Int) (a1 : Int) (a2 : ByteArray) (a3 : Int) (a4 : ByteArray) (a5 : Int) (a6 : Int) (a7 : Int) (a8 : Int) (a9 : Int) (a10 : Int) (a11 : Rw) (a12 : Rw) (a13 : Rw) (a14 : ByteArray) (a15 : ByteArray) (a16 : Rw) (a17 : Rw) (a18 : Rw) : Lqbm (some 5) [.i a0, .i a1, .s a2, .i a3, .s a4, .i a5, .i a6, .i a7, .i a8, .i a9, .i a10, .l a11, .l a12, .l a13, .s a14, .s a15, .l a16, .l a17, .l a18] =
 cond (decide (a0 < (IntKind.i64.wrap (a3.tdiv 2)))) (
 cond (decide (a0 < 4)) (
 cond ((a11.length : Int) != 0) (
 cond (inb ((IntKind.i64.wrap (a5 + (IntKind.i64.wrap (5 * a0)))).tmod (a11.length : Int)) a11.length) (
 cond (decide (a16.length + ([[.s ((rd a11 (((IntKind.i64.wrap (a5 + (IntKind.i64.wrap (5 * a0)))).tmod (a11.length : Int)).toNat) 0).str)]] : Rw).length ≤ most)) (
 Lqbm (some 5) [.i (IntKind.i64.wrap (a0 + 1)), .i a1, .s a2, .i a3, .s a4, .i a5, .i a6, .i a7, .i a8, .i a9, .i a10, .l a11, .l a12, .l a13, .s a14, .s a15, .l (a16 ++ ([[.s ((rd a11 (((IntKind.i64.wrap (a5 + (IntKind.i64.wrap (5 * a0)))).tmod (a11.length : Int)).toNat) 0).str)]] : Rw)), .l a17, .l a18]) (
 none)) (
 none)) (
 none)) (
 (Lqq none [.l a16]).bind fun y1 =>
 some [.s a15, .l ((g y1 0).list)])) (
 (Lqq none [.l a16]).bind fun y2 =>
 some [.s a15, .l ((g y2 0).list)]) := (Lim_eq _ _).trans (by kernel_rfl)
theorem kqbm : SigOk Tryz.prog (dqbm.sig (Lqbm none)) ∧ (dqbm.sig (Lqbm none)).ok = true := sound_lim (known_cons kqq (by kernel_rfl) known_nil) (by kernel_rfl) (by kernel_rfl) (by kernel_rfl)
def dqc9 : FD := { fn := 174, nb := 1, pre := ⟨[.sc (.pt 0 0)], [.bx [.fz 5 false 0, .i .i64 1]]⟩, post := ⟨[.sc (.i .i64 0)], [.bx [.fz 5 false 1, .i .i64 2]]⟩, sh := true, cuts := [] }
noncomputable def Lqc9 : Option Nat → Lv → Option Lv := Lim Tryz.prog [dqb.sig (Lqb none)] dqc9 Tryz.f174
theorem eqc9_i (a0 : Rw) (a1 : Int) : Lqc9 none [.l a0, .i a1] =
 (Lqb none [.i 8, .l a0, .i a1]).bind fun y1 =>
 cond (decide ((g y1 0).int < 2)) (
 some [.i 1, .l ((g y1 1).list), .i ((g y1 2).int)]) (
 cond ((g y1 0).int == 2) (
 some [.i 2, .l ((g y1 1).list), .i ((g y1 2).int)]) (
 some [.i 8, .l ((g y1 1).list), .i ((g y1 2).int)])) := (Lim_eq _ _).trans (by kernel_rfl)
theorem kqc9 : SigOk Tryz.prog (dqc9.sig (Lqc9 none)) ∧ (dqc9.sig (Lqc9 none)).ok = true := sound_lim (known_cons kqb (by kernel_rfl) known_nil) (by kernel_rfl) (by kernel_rfl) (by kernel_rfl)
def dqbw : FD := { fn := 173, nb := 0, pre := ⟨[.sc (.i .i64 0), .sc (.i .i64 1), .ag [.fz 9 false 2, .fz 9 false 3]], []⟩, post := ⟨[.tu [(true, [.i .i64 0, .i .i64 1, .ow 0, .ow 1, .i .i64 2, .i .i64 3, .i .i64 4, .i .i64 5, .ow 2, .ow 3, .ow 4, .i .i64 6, .fz 9 true 7, .fz 9 true 8, .i .i64 9, .i .i64 10, .i .i64 11]), (false, [.i .i64 12])]], [.rw 9 true 13, .rw 9 true 14, .rw 90 true 15, .rw 156 true 16, .rw 158 true 17]⟩, sh := false, cuts := [] }
noncomputable def Lqbw : Option Nat → Lv → Option Lv := Lim Tryz.prog [dqh.sig (Lqh none), dqb1.sig (Lqb1 none), dqy.sig (Lqy none), dqn.sig (Lqn none), dqcz.sig (Lqcz none), dqc0.sig (Lqc0 none)] dqbw Tryz.f173
theorem eqbw_i (a0 : Int) (a1 : Int) (a2 : Rw) (a3 : Rw) : Lqbw none [.i a0, .i a1, .l a2, .l a3] =
 (Lqh none [.i a0]).bind fun y1 =>
 cond (!(g y1 0).bool) (
 some [.i 0, .i 0, .i 0, .i 0, .i 0, .i 0, .i 0, .l ([]), .l ([]), .i 0, .i 0, .i 0, .i 1, .l [], .l [], .l [], .l [], .l []]) (
 (Lqy none [.i a1, .i 0, .i 1000000]).bind fun y2 =>
 cond (!(g y2 0).bool) (
 some [.i 0, .i 0, .i 0, .i 0, .i 0, .i 0, .i 0, .l ([]), .l ([]), .i 0, .i 0, .i 0, .i 1, .l [], .l [], .l [], .l [], .l []]) (
 (Lqn none [.l a2, .l a3]).bind fun y3 =>
 cond (!(g y3 0).bool) (
 some [.i 0, .i 0, .i 0, .i 0, .i 0, .i 0, .i 0, .l ([]), .l ([]), .i 0, .i 0, .i 0, .i 1, .l [], .l [], .l [], .l [], .l []]) (
 (Lqcz none [.l a2, .l a3]).bind fun y4 =>
 (Lqb1 none [.i a0, .l ((g y4 0).list)]).bind fun y5 =>
 cond ((g y5 0).int != 0) (
 some [.i 0, .i 0, .i 0, .i 0, .i 0, .i 0, .i 0, .l ([]), .l ([]), .i 0, .i 0, .i 0, .i 2, .l [], .l [], .l [], .l [], .l []]) (
 (Lqc0 none [.l a2, .l a3]).bind fun y6 =>
 some [.i a0, .i a1, .i ((g y5 1).int), .i ((g y5 2).int), .i ((g y5 3).int), .i ((g y5 4).int), .i 0, .l ([]), .l ([]), .i 0, .i 0, .i 0, .i 0, .l ((g y6 0).list), .l ((g y6 1).list), .l ((g y5 9).list), .l ((g y5 10).list), .l ((g y5 11).list)])))) := (Lim_eq _ _).trans (by kernel_rfl)
theorem kqbw : SigOk Tryz.prog (dqbw.sig (Lqbw none)) ∧ (dqbw.sig (Lqbw none)).ok = true := sound_lim (known_cons kqh (by kernel_rfl) (known_cons kqb1 (by kernel_rfl) (known_cons kqy (by kernel_rfl) (known_cons kqn (by kernel_rfl) (known_cons kqcz (by kernel_rfl) (known_cons kqc0 (by kernel_rfl) known_nil)))))) (by kernel_rfl) (by kernel_rfl) (by kernel_rfl)
def dqcc : FD := { fn := 77, nb := 0, pre := ⟨[.ag [.i .i64 0, .s 1, .i .i64 2, .s 3, .i .i64 4, .i .i64 5], .ag [.i .i64 6, .i .i64 7, .i .i64 8, .i .i64 9, .fz 90 false 10, .fz 156 false 11, .fz 158 false 12]], []⟩, post := ⟨[.sc (.s 0)], []⟩, sh := false, cuts := [] }
noncomputable def Lqcc : Option Nat → Lv → Option Lv := Lim Tryz.prog [dqe.sig (Lqe none)] dqcc Tryz.f77
theorem eqcc_i (a0 : Int) (a1 : ByteArray) (a2 : Int) (a3 : ByteArray) (a4 : Int) (a5 : Int) (a6 : Int) (a7 : Int) (a8 : Int) (a9 : Int) (a10 : Rw) (a11 : Rw) (a12 : Rw) : Lqcc none [.i a0, .s a1, .i a2, .s a3, .i a4, .i a5, .i a6, .i a7, .i a8, .i a9, .l a10, .l a11, .l a12] =
 cond ((a10.length : Int) == 0) (
 (Lqe none [.s (⟨#[110, 111, 110, 101]⟩ : ByteArray), .i a6]).bind fun y1 =>
 some [.s ((g y1 0).str)]) (
 cond ((a10.length : Int) != 0) (
 cond (inb (a4.tmod (a10.length : Int)) a10.length) (
 some [.s ((rd a10 ((a4.tmod (a10.length : Int)).toNat) 0).str)]) (
 none)) (
 none)) := (Lim_eq _ _).trans (by kernel_rfl)
theorem kqcc : SigOk Tryz.prog (dqcc.sig (Lqcc none)) ∧ (dqcc.sig (Lqcc none)).ok = true := sound_lim (known_cons kqe (by kernel_rfl) known_nil) (by kernel_rfl) (by kernel_rfl) (by kernel_rfl)
def dqda : FD := { fn := 81, nb := 0, pre := ⟨[.ag [.i .i64 0, .s 1, .i .i64 2, .s 3, .i .i64 4, .i .i64 5], .ag [.i .i64 6, .i .i64 7, .i .i64 8, .i .i64 9, .fz 90 false 10, .fz 156 false 11, .fz 158 false 12]], []⟩, post := ⟨[.sc (.i .i64 0)], []⟩, sh := false, cuts := [] }
noncomputable def Lqda : Option Nat → Lv → Option Lv := Lim Tryz.prog [] dqda Tryz.f81
theorem eqda_i (a0 : Int) (a1 : ByteArray) (a2 : Int) (a3 : ByteArray) (a4 : Int) (a5 : Int) (a6 : Int) (a7 : Int) (a8 : Int) (a9 : Int) (a10 : Rw) (a11 : Rw) (a12 : Rw) : Lqda none [.i a0, .s a1, .i a2, .s a3, .i a4, .i a5, .i a6, .i a7, .i a8, .i a9, .l a10, .l a11, .l a12] =
 cond ((a12.length : Int) == 0) (
 some [.i (IntKind.i64.wrap (1 + a4))]) (
 cond ((a12.length : Int) != 0) (
 cond (inb (a4.tmod (a12.length : Int)) a12.length) (
 some [.i ((rd a12 ((a4.tmod (a12.length : Int)).toNat) 0).int)]) (
 none)) (
 none)) := (Lim_eq _ _).trans (by kernel_rfl)
theorem kqda : SigOk Tryz.prog (dqda.sig (Lqda none)) ∧ (dqda.sig (Lqda none)).ok = true := sound_lim known_nil (by kernel_rfl) (by kernel_rfl) (by kernel_rfl)
def dqdb : FD := { fn := 82, nb := 0, pre := ⟨[.ag [.i .i64 0, .i .i64 1, .fz 9 false 2, .fz 9 false 3, .i .i64 4, .i .i64 5, .i .i64 6, .i .i64 7, .fz 90 false 8, .fz 156 false 9, .fz 158 false 10, .i .i64 11, .fz 9 false 12, .fz 9 false 13, .i .i64 14, .i .i64 15, .i .i64 16], .sc (.s 17)], []⟩, post := ⟨[.ag [.i .i64 0, .i .i64 1, .i .i64 2, .ow 0, .ow 1, .i .i64 3, .i .i64 4, .i .i64 5, .i .i64 6, .ow 2, .ow 3, .ow 4, .i .i64 7, .ow 5, .ow 6, .i .i64 8, .i .i64 9, .i .i64 10, .s 11, .i .i64 12, .s 13, .s 14]], [.rw 9 true 15, .rw 9 true 16, .rw 90 true 17, .rw 156 true 18, .rw 158 true 19, .rw 9 true 20, .rw 9 true 21]⟩, sh := false, cuts := [] }
noncomputable def Lqdb : Option Nat → Lv → Option Lv := Lim Tryz.prog [dql.sig (Lql none)] dqdb Tryz.f82
theorem eqdb_i (a0 : Int) (a1 : Int) (a2 : Rw) (a3 : Rw) (a4 : Int) (a5 : Int) (a6 : Int) (a7 : Int) (a8 : Rw) (a9 : Rw) (a10 : Rw) (a11 : Int) (a12 : Rw) (a13 : Rw) (a14 : Int) (a15 : Int) (a16 : Int) (a17 : ByteArray) : Lqdb none [.i a0, .i a1, .l a2, .l a3, .i a4, .i a5, .i a6, .i a7, .l a8, .l a9, .l a10, .i a11, .l a12, .l a13, .i a14, .i a15, .i a16, .s a17] =
 (Lql none [.i a0, .i a1, .l a2, .l a3, .i a4, .i a5, .i a6, .i a7, .l a8, .l a9, .l a10, .i a11, .l a12, .l a13, .i a14, .i a15, .i a16, .i 3, .s (⟨#[]⟩ : ByteArray), .s a17, .i 0, .s (⟨#[]⟩ : ByteArray), .l ([])]).bind fun y1 =>
 some [.i ((g y1 0).int), .i ((g y1 1).int), .i ((g y1 2).int), .i ((g y1 3).int), .i ((g y1 4).int), .i ((g y1 5).int), .i ((g y1 6).int), .i ((g y1 7).int), .i ((g y1 8).int), .i ((g y1 9).int), .i ((g y1 10).int), .s ((g y1 11).str), .i ((g y1 12).int), .s ((g y1 13).str), .s ((g y1 14).str), .l ((g y1 15).list), .l ((g y1 16).list), .l ((g y1 17).list), .l ((g y1 18).list), .l ((g y1 19).list), .l ((g y1 20).list), .l ((g y1 21).list)] := (Lim_eq _ _).trans (by kernel_rfl)
theorem kqdb : SigOk Tryz.prog (dqdb.sig (Lqdb none)) ∧ (dqdb.sig (Lqdb none)).ok = true := sound_lim (known_cons kql (by kernel_rfl) known_nil) (by kernel_rfl) (by kernel_rfl) (by kernel_rfl)
def dqdc : FD := { fn := 83, nb := 0, pre := ⟨[.ag [.i .i64 0, .i .i64 1, .fz 9 false 2, .fz 9 false 3, .i .i64 4, .i .i64 5, .i .i64 6, .i .i64 7, .fz 90 false 8, .fz 156 false 9, .fz 158 false 10, .i .i64 11, .fz 9 false 12, .fz 9 false 13, .i .i64 14, .i .i64 15, .i .i64 16], .sc (.s 17), .sc (.i .i64 18)], []⟩, post := ⟨[.ag [.i .i64 0, .i .i64 1, .i .i64 2, .ow 0, .ow 1, .i .i64 3, .i .i64 4, .i .i64 5, .i .i64 6, .ow 2, .ow 3, .ow 4, .i .i64 7, .ow 5, .ow 6, .i .i64 8, .i .i64 9, .i .i64 10, .s 11, .i .i64 12, .s 13, .s 14]], [.rw 9 true 15, .rw 9 true 16, .rw 90 true 17, .rw 156 true 18, .rw 158 true 19, .rw 9 true 20, .rw 9 true 21]⟩, sh := false, cuts := [] }
noncomputable def Lqdc : Option Nat → Lv → Option Lv := Lim Tryz.prog [dql.sig (Lql none)] dqdc Tryz.f83
theorem eqdc_i (a0 : Int) (a1 : Int) (a2 : Rw) (a3 : Rw) (a4 : Int) (a5 : Int) (a6 : Int) (a7 : Int) (a8 : Rw) (a9 : Rw) (a10 : Rw) (a11 : Int) (a12 : Rw) (a13 : Rw) (a14 : Int) (a15 : Int) (a16 : Int) (a17 : ByteArray) (a18 : Int) : Lqdc none [.i a0, .i a1, .l a2, .l a3, .i a4, .i a5, .i a6, .i a7, .l a8, .l a9, .l a10, .i a11, .l a12, .l a13, .i a14, .i a15, .i a16, .s a17, .i a18] =
 (Lql none [.i a0, .i a1, .l a2, .l a3, .i a4, .i a5, .i a6, .i a7, .l a8, .l a9, .l a10, .i a11, .l a12, .l a13, .i a14, .i a15, .i a16, .i 4, .s a17, .s (⟨#[]⟩ : ByteArray), .i a18, .s (⟨#[]⟩ : ByteArray), .l ([])]).bind fun y1 =>
 some [.i ((g y1 0).int), .i ((g y1 1).int), .i ((g y1 2).int), .i ((g y1 3).int), .i ((g y1 4).int), .i ((g y1 5).int), .i ((g y1 6).int), .i ((g y1 7).int), .i ((g y1 8).int), .i ((g y1 9).int), .i ((g y1 10).int), .s ((g y1 11).str), .i ((g y1 12).int), .s ((g y1 13).str), .s ((g y1 14).str), .l ((g y1 15).list), .l ((g y1 16).list), .l ((g y1 17).list), .l ((g y1 18).list), .l ((g y1 19).list), .l ((g y1 20).list), .l ((g y1 21).list)] := (Lim_eq _ _).trans (by kernel_rfl)
theorem kqdc : SigOk Tryz.prog (dqdc.sig (Lqdc none)) ∧ (dqdc.sig (Lqdc none)).ok = true := sound_lim (known_cons kql (by kernel_rfl) known_nil) (by kernel_rfl) (by kernel_rfl) (by kernel_rfl)
def dqdd : FD := { fn := 84, nb := 0, pre := ⟨[.ag [.i .i64 0, .i .i64 1, .fz 9 false 2, .fz 9 false 3, .i .i64 4, .i .i64 5, .i .i64 6, .i .i64 7, .fz 90 false 8, .fz 156 false 9, .fz 158 false 10, .i .i64 11, .fz 9 false 12, .fz 9 false 13, .i .i64 14, .i .i64 15, .i .i64 16], .sc (.i .i64 17)], []⟩, post := ⟨[.ag [.i .i64 0, .i .i64 1, .i .i64 2, .ow 0, .ow 1, .i .i64 3, .i .i64 4, .i .i64 5, .i .i64 6, .ow 2, .ow 3, .ow 4, .i .i64 7, .ow 5, .ow 6, .i .i64 8, .i .i64 9, .i .i64 10, .s 11, .i .i64 12, .s 13, .s 14]], [.rw 9 true 15, .rw 9 true 16, .rw 90 true 17, .rw 156 true 18, .rw 158 true 19, .rw 9 true 20, .rw 9 true 21]⟩, sh := false, cuts := [] }
noncomputable def Lqdd : Option Nat → Lv → Option Lv := Lim Tryz.prog [dql.sig (Lql none)] dqdd Tryz.f84
theorem eqdd_i (a0 : Int) (a1 : Int) (a2 : Rw) (a3 : Rw) (a4 : Int) (a5 : Int) (a6 : Int) (a7 : Int) (a8 : Rw) (a9 : Rw) (a10 : Rw) (a11 : Int) (a12 : Rw) (a13 : Rw) (a14 : Int) (a15 : Int) (a16 : Int) (a17 : Int) : Lqdd none [.i a0, .i a1, .l a2, .l a3, .i a4, .i a5, .i a6, .i a7, .l a8, .l a9, .l a10, .i a11, .l a12, .l a13, .i a14, .i a15, .i a16, .i a17] =
 (Lql none [.i a0, .i a1, .l a2, .l a3, .i a4, .i a5, .i a6, .i a7, .l a8, .l a9, .l a10, .i a11, .l a12, .l a13, .i a14, .i a15, .i a16, .i 5, .s (⟨#[]⟩ : ByteArray), .s (⟨#[]⟩ : ByteArray), .i a17, .s (⟨#[]⟩ : ByteArray), .l ([])]).bind fun y1 =>
 some [.i ((g y1 0).int), .i ((g y1 1).int), .i ((g y1 2).int), .i ((g y1 3).int), .i ((g y1 4).int), .i ((g y1 5).int), .i ((g y1 6).int), .i ((g y1 7).int), .i ((g y1 8).int), .i ((g y1 9).int), .i ((g y1 10).int), .s ((g y1 11).str), .i ((g y1 12).int), .s ((g y1 13).str), .s ((g y1 14).str), .l ((g y1 15).list), .l ((g y1 16).list), .l ((g y1 17).list), .l ((g y1 18).list), .l ((g y1 19).list), .l ((g y1 20).list), .l ((g y1 21).list)] := (Lim_eq _ _).trans (by kernel_rfl)
theorem kqdd : SigOk Tryz.prog (dqdd.sig (Lqdd none)) ∧ (dqdd.sig (Lqdd none)).ok = true := sound_lim (known_cons kql (by kernel_rfl) known_nil) (by kernel_rfl) (by kernel_rfl) (by kernel_rfl)
def dqde : FD := { fn := 85, nb := 0, pre := ⟨[.ag [.i .i64 0, .i .i64 1, .fz 9 false 2, .fz 9 false 3, .i .i64 4, .i .i64 5, .i .i64 6, .i .i64 7, .fz 90 false 8, .fz 156 false 9, .fz 158 false 10, .i .i64 11, .fz 9 false 12, .fz 9 false 13, .i .i64 14, .i .i64 15, .i .i64 16], .sc (.i .i64 17)], []⟩, post := ⟨[.ag [.i .i64 0, .i .i64 1, .i .i64 2, .ow 0, .ow 1, .i .i64 3, .i .i64 4, .i .i64 5, .i .i64 6, .ow 2, .ow 3, .ow 4, .i .i64 7, .ow 5, .ow 6, .i .i64 8, .i .i64 9, .i .i64 10, .s 11, .i .i64 12, .s 13, .s 14]], [.rw 9 true 15, .rw 9 true 16, .rw 90 true 17, .rw 156 true 18, .rw 158 true 19, .rw 9 true 20, .rw 9 true 21]⟩, sh := false, cuts := [] }
noncomputable def Lqde : Option Nat → Lv → Option Lv := Lim Tryz.prog [dql.sig (Lql none)] dqde Tryz.f85
theorem eqde_i (a0 : Int) (a1 : Int) (a2 : Rw) (a3 : Rw) (a4 : Int) (a5 : Int) (a6 : Int) (a7 : Int) (a8 : Rw) (a9 : Rw) (a10 : Rw) (a11 : Int) (a12 : Rw) (a13 : Rw) (a14 : Int) (a15 : Int) (a16 : Int) (a17 : Int) : Lqde none [.i a0, .i a1, .l a2, .l a3, .i a4, .i a5, .i a6, .i a7, .l a8, .l a9, .l a10, .i a11, .l a12, .l a13, .i a14, .i a15, .i a16, .i a17] =
 (Lql none [.i a0, .i a1, .l a2, .l a3, .i a4, .i a5, .i a6, .i a7, .l a8, .l a9, .l a10, .i a11, .l a12, .l a13, .i a14, .i a15, .i a16, .i 6, .s (⟨#[]⟩ : ByteArray), .s (⟨#[]⟩ : ByteArray), .i a17, .s (⟨#[]⟩ : ByteArray), .l ([])]).bind fun y1 =>
 some [.i ((g y1 0).int), .i ((g y1 1).int), .i ((g y1 2).int), .i ((g y1 3).int), .i ((g y1 4).int), .i ((g y1 5).int), .i ((g y1 6).int), .i ((g y1 7).int), .i ((g y1 8).int), .i ((g y1 9).int), .i ((g y1 10).int), .s ((g y1 11).str), .i ((g y1 12).int), .s ((g y1 13).str), .s ((g y1 14).str), .l ((g y1 15).list), .l ((g y1 16).list), .l ((g y1 17).list), .l ((g y1 18).list), .l ((g y1 19).list), .l ((g y1 20).list), .l ((g y1 21).list)] := (Lim_eq _ _).trans (by kernel_rfl)
theorem kqde : SigOk Tryz.prog (dqde.sig (Lqde none)) ∧ (dqde.sig (Lqde none)).ok = true := sound_lim (known_cons kql (by kernel_rfl) known_nil) (by kernel_rfl) (by kernel_rfl) (by kernel_rfl)
def dq9 : FD := { fn := 95, nb := 0, pre := ⟨[.ag [.i .i64 0, .i .i64 1, .i .i64 2, .i .i64 3, .fz 90 false 4, .fz 156 false 5, .fz 158 false 6]], []⟩, post := ⟨[.sc (.ow 0)], [.rw 9 true 0]⟩, sh := false, cuts := [⟨3, [1, 3, 4], ⟨[.sc (.pt 0 0), .sc (.ow 1), .sc (.i .i64 0)], [.bx [.i .i64 1, .i .i64 2, .i .i64 3, .i .i64 4, .fz 90 false 5, .fz 156 false 6, .fz 158 false 7], .rw 9 true 8]⟩⟩, ⟨8, [1, 3, 5], ⟨[.sc (.pt 0 0), .sc (.ow 1), .sc (.i .i64 0)], [.bx [.i .i64 1, .i .i64 2, .i .i64 3, .i .i64 4, .fz 90 false 5, .fz 156 false 6, .fz 158 false 7], .rw 9 true 8]⟩⟩] }
noncomputable def Lq9 : Option Nat → Lv → Option Lv := Lim Tryz.prog [dqp.sig (Lqp none)] dq9 Tryz.f95
theorem eq9_i (a0 : Int) (a1 : Int) (a2 : Int) (a3 : Int) (a4 : Rw) (a5 : Rw) (a6 : Rw) : Lq9 none [.i a0, .i a1, .i a2, .i a3, .l a4, .l a5, .l a6] =
 Lq9 (some 3) [.i 0, .i a0, .i a1, .i a2, .i a3, .l a4, .l a5, .l a6, .l ([] : Rw)] := (Lim_eq _ _).trans (by kernel_rfl)
theorem eq9_3 (a0 : Int) (a1 : Int) (a2 : Int) (a3 : Int) (a4 : Int) (a5 : Rw) (a6 : Rw) (a7 : Rw) (a8 : Rw) : Lq9 (some 3) [.i a0, .i a1, .i a2, .i a3, .i a4, .l a5, .l a6, .l a7, .l a8] =
 cond (decide (a0 < (a6.length : Int))) (
 cond (inb a0 a6.length) (
 (Lqp none [.l a8, .s ((rd a6 a0.toNat 1).str)]).bind fun y1 =>
 cond (!(g y1 0).bool) (
 cond (inb a0 a6.length) (
 cond (decide (a8.length + ([[.s ((rd a6 a0.toNat 1).str)]] : Rw).length ≤ most)) (
 Lq9 (some 3) [.i (IntKind.i64.wrap (a0 + 1)), .i a1, .i a2, .i a3, .i a4, .l a5, .l a6, .l a7, .l (a8 ++ ([[.s ((rd a6 a0.toNat 1).str)]] : Rw))]) (
 none)) (
 none)) (
 Lq9 (some 3) [.i (IntKind.i64.wrap (a0 + 1)), .i a1, .i a2, .i a3, .i a4, .l a5, .l a6, .l a7, .l a8])) (
 none)) (
 Lq9 (some 8) [.i 0, .i a1, .i a2, .i a3, .i a4, .l a5, .l a6, .l a7, .l a8]) := (Lim_eq _ _).trans (by kernel_rfl)
theorem eq9_8 (a0 : Int) (a1 : Int) (a2 : Int) (a3 : Int) (a4 : Int) (a5 : Rw) (a6 : Rw) (a7 : Rw) (a8 : Rw) : Lq9 (some 8) [.i a0, .i a1, .i a2, .i a3, .i a4, .l a5, .l a6, .l a7, .l a8] =
 cond (decide (a0 < (a7.length : Int))) (
 cond (inb a0 a7.length) (
 (Lqp none [.l a8, .s ((rd a7 a0.toNat 1).str)]).bind fun y1 =>
 cond (!(g y1 0).bool) (
 cond (inb a0 a7.length) (
 cond (decide (a8.length + ([[.s ((rd a7 a0.toNat 1).str)]] : Rw).length ≤ most)) (
 Lq9 (some 8) [.i (IntKind.i64.wrap (a0 + 1)), .i a1, .i a2, .i a3, .i a4, .l a5, .l a6, .l a7, .l (a8 ++ ([[.s ((rd a7 a0.toNat 1).str)]] : Rw))]) (
 none)) (
 none)) (
 Lq9 (some 8) [.i (IntKind.i64.wrap (a0 + 1)), .i a1, .i a2, .i a3, .i a4, .l a5, .l a6, .l a7, .l a8])) (
 none)) (
 some [.l a8]) := (Lim_eq _ _).trans (by kernel_rfl)
theorem kq9 : SigOk Tryz.prog (dq9.sig (Lq9 none)) ∧ (dq9.sig (Lq9 none)).ok = true := sound_lim (known_cons kqp (by kernel_rfl) known_nil) (by kernel_rfl) (by kernel_rfl) (by kernel_rfl)
end KV
end
section
set_option maxRecDepth 100000
namespace KV
open Go Go.Eng Go.Proofs
def dqbn : FD := { fn := 208, nb := 0, pre := ⟨[.ag [.i .i64 0, .i .i64 1, .i .i64 2, .i .i64 3, .fz 90 false 4, .fz 156 false 5, .fz 158 false 6], .sc (.i .i64 7)], []⟩, post := ⟨[.sc (.i .i64 0)], []⟩, sh := false, cuts := [⟨3, [1, 2, 5, 6], ⟨[.sc (.i .i64 0), .sc (.pt 0 0), .sc (.i .i64 1), .sc (.i .i64 2)], [.bx [.i .i64 3, .i .i64 4, .i .i64 5, .i .i64 6, .fz 90 false 7, .fz 156 false 8, .fz 158 false 9]]⟩⟩] }
noncomputable def Lqbn : Option Nat → Lv → Option Lv := Lim Tryz.prog [] dqbn Tryz.f208
theorem eqbn_i (a0 : Int) (a1 : Int) (a2 : Int) (a3 : Int) (a4 : Rw) (a5 : Rw) (a6 : Rw) (a7 : Int) : Lqbn none [.i a0, .i a1, .i a2, .i a3, .l a4, .l a5, .l a6, .i a7] =
 Lqbn (some 3) [.i a7, .i (-1), .i 0, .i a0, .i a1, .i a2, .i a3, .l a4, .l a5, .l a6] := (Lim_eq _ _).trans (by kernel_rfl)
theorem eqbn_3 (a0 : Int) (a1 : Int) (a2 : Int) (a3 : Int) (a4 : Int) (a5 : Int) (a6 : Int) (a7 : Rw) (a8 : Rw) (a9 : Rw) : Lqbn (some 3) [.i a0, .i a1, .i a2, .i a3, .i a4, .i a5, .i a6, .l a7, .l a8, .l a9] =
 cond (decide (a2 < (a7.length : Int))) (
 cond (inb a2 a7.length) (
 cond (decide ((rd a7 a2.toNat 1).int < a0)) (
 cond (decide (a1 < 0)) (
 Lqbn (some 3) [.i a0, .i a2, .i (IntKind.i64.wrap (a2 + 1)), .i a3, .i a4, .i a5, .i a6, .l a7, .l a8, .l a9]) (
 cond (inb a2 a7.length) (
 cond (inb a1 a7.length) (
 cond (decide ((rd a7 a1.toNat 1).int < (rd a7 a2.toNat 1).int)) (
 Lqbn (some 3) [.i a0, .i a2, .i (IntKind.i64.wrap (a2 + 1)), .i a3, .i a4, .i a5, .i a6, .l a7, .l a8, .l a9]) (
 Lqbn (some 3) [.i a0, .i a1, .i (IntKind.i64.wrap (a2 + 1)), .i a3, .i a4, .i a5, .i a6, .l a7, .l a8, .l a9])) (
 none)) (
 none))) (
 Lqbn (some 3) [.i a0, .i a1, .i (IntKind.i64.wrap (a2 + 1)), .i a3, .i a4, .i a5, .i a6, .l a7, .l a8, .l a9])) (
 none)) (
 some [.i a1]) := (Lim_eq _ _).trans (by kernel_rfl)
theorem kqbn : SigOk Tryz.prog (dqbn.sig (Lqbn none)) ∧ (dqbn.sig (Lqbn none)).ok = true := sound_lim known_nil (by kernel_rfl) (by kernel_rfl) (by kernel_rfl)
def dq7 : FD := { fn := 183, nb := 0, pre := ⟨[.ag [.i .i64 0, .i .i64 1, .i .i64 2, .i .i64 3, .fz 90 false 4, .fz 156 false 5, .fz 158 false 6], .sc (.s 7)], []⟩, post := ⟨[.ag [.i .i64 0, .i .i64 1, .i .i64 2, .i .i64 3, .i .i64 4, .ow 0, .fz 156 false 5, .fz 158 false 6, .s 7, .i .i64 8, .s 9, .s 10]], [.rw 90 false 11]⟩, sh := true, cuts := [⟨7, [1, 2, 4, 5, 6], ⟨[.sc (.s 0), .sc (.pt 0 0), .sc (.pt 1 0), .sc (.ow 2), .sc (.i .i64 1)], [.bx [.i .i64 2, .i .i64 3, .i .i64 4, .i .i64 5, .fz 90 false 6, .fz 156 false 7, .fz 158 false 8], .bx [.i .i64 9, .i .i64 10, .i .i64 11, .i .i64 12, .i .i64 13, .ow 3, .ow 4, .ow 5, .s 14, .i .i64 15, .s 16, .s 17], .rw 90 false 18, .rw 90 true 19, .rw 156 true 20, .rw 158 true 21]⟩⟩] }
noncomputable def Lq7 : Option Nat → Lv → Option Lv := Lim Tryz.prog [dqg.sig (Lqg none), dqp.sig (Lqp none), dqx.sig (Lqx none)] dq7 Tryz.f183
theorem eq7_i (a0 : Int) (a1 : Int) (a2 : Int) (a3 : Int) (a4 : Rw) (a5 : Rw) (a6 : Rw) (a7 : ByteArray) : Lq7 none [.i a0, .i a1, .i a2, .i a3, .l a4, .l a5, .l a6, .s a7] =
 (Lqg none [.i a0, .i a1, .i a2, .i a3, .l a4, .l a5, .l a6, .s a7]).bind fun y1 =>
 cond (decide ((g y1 0).int < 0)) (
 some [.i 2, .i 0, .i 0, .i 0, .i 0, .l ([]), .l ([]), .s (⟨#[]⟩ : ByteArray), .i 0, .s (⟨#[]⟩ : ByteArray), .s (⟨#[]⟩ : ByteArray), .l []]) (
 (Lqx none [.i a0, .i a1, .i a2, .i a3, .l a4, .l a5, .l a6, .s a7]).bind fun y2 =>
 cond ((g y2 0).bool) (
 some [.i 6, .i 0, .i 0, .i 0, .i 0, .l ([]), .l ([]), .s (⟨#[]⟩ : ByteArray), .i 0, .s (⟨#[]⟩ : ByteArray), .s (⟨#[]⟩ : ByteArray), .l []]) (
 Lq7 (some 7) [.s a7, .i 0, .i a0, .i a1, .i a2, .i a3, .l a4, .l a5, .l a6, .i 0, .i 0, .i 0, .i 0, .i 0, .s (⟨#[]⟩ : ByteArray), .i 0, .s (⟨#[]⟩ : ByteArray), .s (⟨#[]⟩ : ByteArray), .l ([] : Rw), .l [], .l [], .l []])) := (Lim_eq _ _).trans (by kernel_rfl)
theorem eq7_7 (a0 : ByteArray) (a1 : Int) (a2 : Int) (a3 : Int) (a4 : Int) (a5 : Int) (a6 : Rw) (a7 : Rw) (a8 : Rw) (a9 : Int) (a10 : Int) (a11 : Int) (a12 : Int) (a13 : Int) (a14 : ByteArray) (a15 : Int) (a16 : ByteArray) (a17 : ByteArray) (a18 : Rw) (a19 : Rw) (a20 : Rw) (a21 : Rw) : Lq7 (some 7) [.s a0, .i a1, .i a2, .i a3, .i a4, .i a5, .l a6, .l a7, .l a8, .i a9, .i a10, .i a11, .i a12, .i a13, .s a14, .i a15, .s a16, .s a17, .l a18, .l a19, .l a20, .l a21] =
 cond (decide (a1 < (a6.length : Int))) (
 cond (inb a1 a6.length) (
 (Lqp none [.l ((rd a6 a1.toNat 3).list), .s a0]).bind fun y1 =>
 cond ((g y1 0).bool) (
 some [.i 6, .i 0, .i 0, .i 0, .i 0, .l ([]), .l ([]), .s (⟨#[]⟩ : ByteArray), .i 0, .s (⟨#[]⟩ : ByteArray), .s (⟨#[]⟩ : ByteArray), .l []]) (
 cond (inb a1 a6.length) (
 cond (!Eng.seq ((rd a6 a1.toNat 0).str) a0) (
 cond (inb a1 a6.length) (
 cond (decide (a18.length + ([[.s ((rd a6 a1.toNat 0).str), .i ((rd a6 a1.toNat 1).int), .s ((rd a6 a1.toNat 2).str), .l ((rd a6 a1.toNat 3).list)]] : Rw).length ≤ most)) (
 Lq7 (some 7) [.s a0, .i (IntKind.i64.wrap (a1 + 1)), .i a2, .i a3, .i a4, .i a5, .l a6, .l a7, .l a8, .i a9, .i a10, .i a11, .i a12, .i a13, .s a14, .i a15, .s a16, .s a17, .l (a18 ++ ([[.s ((rd a6 a1.toNat 0).str), .i ((rd a6 a1.toNat 1).int), .s ((rd a6 a1.toNat 2).str), .l ((rd a6 a1.toNat 3).list)]] : Rw)), .l a19, .l a20, .l a21]) (
 none)) (
 none)) (
 Lq7 (some 7) [.s a0, .i (IntKind.i64.wrap (a1 + 1)), .i a2, .i a3, .i a4, .i a5, .l a6, .l a7, .l a8, .i a9, .i a10, .i a11, .i a12, .i a13, .s a14, .i a15, .s a16, .s a17, .l a18, .l a19, .l a20, .l a21])) (
 none))) (
 none)) (
 some [.i 0, .i a2, .i a3, .i a4, .i a5, .l a7, .l a8, .s (⟨#[]⟩ : ByteArray), .i 0, .s (⟨#[]⟩ : ByteArray), .s (⟨#[]⟩ : ByteArray), .l a18]) := (Lim_eq _ _).trans (by kernel_rfl)
theorem kq7 : SigOk Tryz.prog (dq7.sig (Lq7 none)) ∧ (dq7.sig (Lq7 none)).ok = true := sound_lim (known_cons kqg (by kernel_rfl) (known_cons kqp (by kernel_rfl) (known_cons kqx (by kernel_rfl) known_nil))) (by kernel_rfl) (by kernel_rfl) (by kernel_rfl)
def dqbk : FD := { fn := 157, nb := 0, pre := ⟨[.ag [.i .i64 0, .i .i64 1, .i .i64 2, .i .i64 3, .fz 90 false 4, .fz 156 false 5, .fz 158 false 6], .ag [.i .i64 7, .fz 9 false 8, .fz 9 false 9, .i .i64 10, .i .i64 11, .i .i64 12]], []⟩, post := ⟨[.ag [.i .i64 0, .i .i64 1, .i .i64 2, .i .i64 3, .i .i64 4, .fz 90 false 5, .fz 156 false 6, .fz 158 false 7, .i .i64 8, .fz 9 false 9, .fz 9 false 10, .i .i64 11, .i .i64 12, .i .i64 13, .ow 0]], [.rw 9 true 14]⟩, sh := true, cuts := [⟨15, [2, 3, 4, 6, 8, 9], ⟨[.sc (.pt 0 0), .sc (.pt 1 0), .sc (.pt 2 0), .sc (.ow 3), .sc (.fz 9 false 0), .sc (.i .i64 1)], [.bx [.i .i64 2, .i .i64 3, .i .i64 4, .i .i64 5, .fz 90 false 6, .fz 156 false 7, .fz 158 false 8], .bx [.i .i64 9, .fz 9 false 10, .ow 4, .i .i64 11, .i .i64 12, .i .i64 13], .bx [.i .i64 14, .i .i64 15, .i .i64 16, .i .i64 17, .i .i64 18, .ow 5, .ow 6, .ow 7, .i .i64 19, .ow 8, .ow 9, .i .i64 20, .i .i64 21, .i .i64 22, .ow 10], .rw 9 true 23, .rw 9 true 24, .rw 90 true 25, .rw 156 true 26, .rw 158 true 27, .rw 9 true 28, .rw 9 true 29, .rw 9 true 30]⟩⟩] }
noncomputable def Lqbk : Option Nat → Lv → Option Lv := Lim Tryz.prog [dqg.sig (Lqg none), dqp.sig (Lqp none), dq9.sig (Lq9 none), dqbn.sig (Lqbn none), dq7.sig (Lq7 none)] dqbk Tryz.f157
theorem eqbk_i (a0 : Int) (a1 : Int) (a2 : Int) (a3 : Int) (a4 : Rw) (a5 : Rw) (a6 : Rw) (a7 : Int) (a8 : Rw) (a9 : Rw) (a10 : Int) (a11 : Int) (a12 : Int) : Lqbk none [.i a0, .i a1, .i a2, .i a3, .l a4, .l a5, .l a6, .i a7, .l a8, .l a9, .i a10, .i a11, .i a12] =
 cond (a7 == 0) (
 (Lq9 none [.i a0, .i a1, .i a2, .i a3, .l a4, .l a5, .l a6]).bind fun y1 =>
 some [.i 0, .i a0, .i a1, .i a2, .i a3, .l a4, .l a5, .l a6, .i 1, .l ((g y1 0).list), .l a9, .i a3, .i (IntKind.i64.wrap (a3 + 1)), .i a12, .l []]) (
 cond (decide (0 < (a8.length : Int))) (
 cond (inb 0 a8.length) (
 cond (decide (1 ≤ (a8.length : Int))) (
 cond (decide (([] : Rw).length + (Eng.sub a8 1 a8.length).length ≤ most)) (
 (Lqg none [.i a0, .i a1, .i a2, .i a3, .l a4, .l a5, .l a6, .s ((rd a8 0 0).str)]).bind fun y2 =>
 cond (decide (0 ≤ (g y2 0).int)) (
 (Lqp none [.l a9, .s ((rd a8 0 0).str)]).bind fun y3 =>
 cond (!(g y3 0).bool) (
 cond (decide (([] : Rw).length + a9.length ≤ most)) (
 cond (decide ((([] : Rw) ++ a9).length + ([[.s ((rd a8 0 0).str)]] : Rw).length ≤ most)) (
 cond (inb ((g y2 0).int) a4.length) (
 Lqbk (some 15) [.l ((rd a4 (((g y2 0).int).toNat) 3).list), .i 0, .i a0, .i a1, .i a2, .i a3, .l a4, .l a5, .l a6, .i a7, .l a8, .i a10, .i a11, .i a12, .i 0, .i 0, .i 0, .i 0, .i 0, .i 0, .i 0, .i 0, .i 0, .l (([] : Rw) ++ (Eng.sub a8 1 a8.length)), .l ((([] : Rw) ++ a9) ++ ([[.s ((rd a8 0 0).str)]] : Rw)), .l [], .l [], .l [], .l [], .l [], .l []]) (
 none)) (
 none)) (
 none)) (
 some [.i 0, .i a0, .i a1, .i a2, .i a3, .l a4, .l a5, .l a6, .i a7, .l (([] : Rw) ++ (Eng.sub a8 1 a8.length)), .l a9, .i a10, .i a11, .i a12, .l []])) (
 some [.i 0, .i a0, .i a1, .i a2, .i a3, .l a4, .l a5, .l a6, .i a7, .l (([] : Rw) ++ (Eng.sub a8 1 a8.length)), .l a9, .i a10, .i a11, .i a12, .l []])) (
 none)) (
 none)) (
 none)) (
 (Lqbn none [.i a0, .i a1, .i a2, .i a3, .l a4, .l a5, .l a6, .i a11]).bind fun y4 =>
 cond (decide ((g y4 0).int < 0)) (
 some [.i 0, .i a0, .i a1, .i a2, .i a3, .l a4, .l a5, .l a6, .i 0, .l ([]), .l ([]), .i 0, .i 0, .i (IntKind.i64.wrap (a12 + 1)), .l []]) (
 cond (inb ((g y4 0).int) a4.length) (
 cond (inb ((g y4 0).int) a4.length) (
 (Lqp none [.l a9, .s ((rd a4 (((g y4 0).int).toNat) 0).str)]).bind fun y5 =>
 cond ((g y5 0).bool) (
 some [.i 0, .i a0, .i a1, .i a2, .i a3, .l a4, .l a5, .l a6, .i 2, .l a8, .l a9, .i a10, .i ((rd a4 (((g y4 0).int).toNat) 1).int), .i a12, .l []]) (
 (Lq7 none [.i a0, .i a1, .i a2, .i a3, .l a4, .l a5, .l a6, .s ((rd a4 (((g y4 0).int).toNat) 0).str)]).bind fun y6 =>
 cond ((g y6 0).int != 0) (
 some [.i 0, .i a0, .i a1, .i a2, .i a3, .l a4, .l a5, .l a6, .i 2, .l a8, .l a9, .i a10, .i ((rd a4 (((g y4 0).int).toNat) 1).int), .i a12, .l []]) (
 some [.i 0, .i ((g y6 1).int), .i ((g y6 2).int), .i ((g y6 3).int), .i ((g y6 4).int), .l ((g y6 11).list), .l ((g y6 5).list), .l ((g y6 6).list), .i 2, .l a8, .l a9, .i a10, .i ((rd a4 (((g y4 0).int).toNat) 1).int), .i a12, .l ([[.s ((rd a4 (((g y4 0).int).toNat) 0).str)]] : Rw)]))) (
 none)) (
 none)))) := (Lim_eq _ _).trans (by kernel_rfl)
theorem eqbk_15 (a0 : Rw) (a1 : Int) (a2 : Int) (a3 : Int) (a4 : Int) (a5 : Int) (a6 : Rw) (a7 : Rw) (a8 : Rw) (a9 : Int) (a10 : Rw) (a11 : Int) (a12 : Int) (a13 : Int) (a14 : Int) (a15 : Int) (a16 : Int) (a17 : Int) (a18 : Int) (a19 : Int) (a20 : Int) (a21 : Int) (a22 : Int) (a23 : Rw) (a24 : Rw) (a25 : Rw) (a26 : Rw) (a27 : Rw) (a28 : Rw) (a29 : Rw) (a30 : Rw) : Lqbk (some 15) [.l a0, .i a1, .i a2, .i a3, .i a4, .i a5, .l a6, .l a7, .l a8, .i a9, .l a10, .i a11, .i a12, .i a13, .i a14, .i a15, .i a16, .i a17, .i a18, .i a19, .i a20, .i a21, .i a22, .l a23, .l a24, .l a25, .l a26, .l a27, .l a28, .l a29, .l a30] =
 cond (decide (a1 < (a0.length : Int))) (
 cond (inb a1 a0.length) (
 (Lqp none [.l a24, .s ((rd a0 a1.toNat 0).str)]).bind fun y1 =>
 cond (!(g y1 0).bool) (
 cond (inb a1 a0.length) (
 cond (decide (a23.length + ([[.s ((rd a0 a1.toNat 0).str)]] : Rw).length ≤ most)) (
 Lqbk (some 15) [.l a0, .i (IntKind.i64.wrap (a1 + 1)), .i a2, .i a3, .i a4, .i a5, .l a6, .l a7, .l a8, .i a9, .l a10, .i a11, .i a12, .i a13, .i a14, .i a15, .i a16, .i a17, .i a18, .i a19, .i a20, .i a21, .i a22, .l (a23 ++ ([[.s ((rd a0 a1.toNat 0).str)]] : Rw)), .l a24, .l a25, .l a26, .l a27, .l a28, .l a29, .l a30]) (
 none)) (
 none)) (
 Lqbk (some 15) [.l a0, .i (IntKind.i64.wrap (a1 + 1)), .i a2, .i a3, .i a4, .i a5, .l a6, .l a7, .l a8, .i a9, .l a10, .i a11, .i a12, .i a13, .i a14, .i a15, .i a16, .i a17, .i a18, .i a19, .i a20, .i a21, .i a22, .l a23, .l a24, .l a25, .l a26, .l a27, .l a28, .l a29, .l a30])) (
 none)) (
 some [.i 0, .i a2, .i a3, .i a4, .i a5, .l a6, .l a7, .l a8, .i a9, .l a23, .l a24, .i a11, .i a12, .i a13, .l []]) := (Lim_eq _ _).trans (by kernel_rfl)
theorem kqbk : SigOk Tryz.prog (dqbk.sig (Lqbk none)) ∧ (dqbk.sig (Lqbk none)).ok = true := sound_lim (known_cons kqg (by kernel_rfl) (known_cons kqp (by kernel_rfl) (known_cons kq9 (by kernel_rfl) (known_cons kqbn (by kernel_rfl) (known_cons kq7 (by kernel_rfl) known_nil))))) (by kernel_rfl) (by kernel_rfl) (by kernel_rfl)
def dqcd : FD := { fn := 93, nb := 0, pre := ⟨[.ag [.i .i64 0, .i .i64 1, .fz 9 false 2, .fz 9 false 3, .i .i64 4, .i .i64 5, .i .i64 6, .i .i64 7, .fz 90 false 8, .fz 156 false 9, .fz 158 false 10, .i .i64 11, .fz 9 false 12, .fz 9 false 13, .i .i64 14, .i .i64 15, .i .i64 16], .sc (.i .i64 17)], []⟩, post := ⟨[.ag [.i .i64 0, .i .i64 1, .i .i64 2, .ow 0, .ow 1, .i .i64 3, .i .i64 4, .i .i64 5, .i .i64 6, .ow 2, .ow 3, .ow 4, .i .i64 7, .ow 5, .ow 6, .i .i64 8, .i .i64 9, .i .i64 10, .i .i64 11, .ow 7]], [.rw 9 true 12, .rw 9 true 13, .rw 90 true 14, .rw 156 true 15, .rw 158 true 16, .rw 9 true 17, .rw 9 true 18, .rw 9 true 19]⟩, sh := false, cuts := [⟨4, [1, 2, 4, 5], ⟨[.sc (.i .i64 0), .sc (.pt 0 0), .sc (.pt 1 0), .sc (.pt 2 0)], [.bx [.i .i64 1, .i .i64 2, .fz 9 false 3, .fz 9 false 4, .i .i64 5, .i .i64 6, .i .i64 7, .i .i64 8, .fz 90 false 9, .fz 156 false 10, .fz 158 false 11, .i .i64 12, .fz 9 false 13, .fz 9 false 14, .i .i64 15, .i .i64 16, .i .i64 17], .bx [.i .i64 18, .i .i64 19, .i .i64 20, .ow 3, .ow 4, .i .i64 21, .i .i64 22, .i .i64 23, .i .i64 24, .ow 5, .ow 6, .ow 7, .i .i64 25, .ow 8, .ow 9, .i .i64 26, .i .i64 27, .i .i64 28, .i .i64 29, .ow 10], .bx [.i .i64 30, .i .i64 31, .i .i64 32, .ow 11, .ow 12, .i .i64 33, .i .i64 34, .i .i64 35, .i .i64 36, .fz 90 true 37, .fz 156 true 38, .fz 158 true 39, .i .i64 40, .fz 9 true 41, .fz 9 true 42, .i .i64 43, .i .i64 44, .i .i64 45, .i .i64 46, .ow 13], .rw 9 true 47, .rw 9 true 48, .rw 90 true 49, .rw 156 true 50, .rw 158 true 51, .rw 9 true 52, .rw 9 true 53, .rw 9 true 54, .rw 9 true 55, .rw 9 true 56, .rw 9 true 57]⟩⟩] }
noncomputable def Lqcd : Option Nat → Lv → Option Lv := Lim Tryz.prog [dqw.sig (Lqw none), dqy.sig (Lqy none), dqbh.sig (Lqbh none), dqbv.sig (Lqbv none), dqbk.sig (Lqbk none)] dqcd Tryz.f93
theorem eqcd_i (a0 : Int) (a1 : Int) (a2 : Rw) (a3 : Rw) (a4 : Int) (a5 : Int) (a6 : Int) (a7 : Int) (a8 : Rw) (a9 : Rw) (a10 : Rw) (a11 : Int) (a12 : Rw) (a13 : Rw) (a14 : Int) (a15 : Int) (a16 : Int) (a17 : Int) : Lqcd none [.i a0, .i a1, .l a2, .l a3, .i a4, .i a5, .i a6, .i a7, .l a8, .l a9, .l a10, .i a11, .l a12, .l a13, .i a14, .i a15, .i a16, .i a17] =
 (Lqbh none [.i a0, .i a1, .l a2, .l a3, .i a4, .i a5, .i a6, .i a7, .l a8, .l a9, .l a10, .i a11, .l a12, .l a13, .i a14, .i a15, .i a16]).bind fun y1 =>
 cond (!(g y1 0).bool) (
 some [.i 1, .i 0, .i 0, .i 0, .i 0, .i 0, .i 0, .i 0, .i 0, .i 0, .i 0, .i 0, .l [], .l [], .l [], .l [], .l [], .l [], .l [], .l []]) (
 (Lqy none [.i a17, .i 0, .i 10000]).bind fun y2 =>
 cond (!(g y2 0).bool) (
 some [.i 1, .i 0, .i 0, .i 0, .i 0, .i 0, .i 0, .i 0, .i 0, .i 0, .i 0, .i 0, .l [], .l [], .l [], .l [], .l [], .l [], .l [], .l []]) (
 (Lqbv none [.i a0, .i a1, .l a2, .l a3, .i a4, .i a5, .i a6, .i a7, .l a8, .l a9, .l a10, .i a11, .l a12, .l a13, .i a14, .i a15, .i a16]).bind fun y3 =>
 Lqcd (some 4) [.i a17, .i a0, .i a1, .l a2, .l a3, .i a4, .i a5, .i a6, .i a7, .l a8, .l a9, .l a10, .i a11, .l a12, .l a13, .i a14, .i a15, .i a16, .i 0, .i 0, .i 0, .i 0, .i 0, .i 0, .i 0, .i 0, .i 0, .i 0, .i 0, .i 0, .i 0, .i ((g y3 0).int), .i ((g y3 1).int), .i ((g y3 2).int), .i ((g y3 3).int), .i ((g y3 4).int), .i ((g y3 5).int), .l ((g y3 12).list), .l ((g y3 13).list), .l ((g y3 14).list), .i ((g y3 6).int), .l ((g y3 15).list), .l ((g y3 16).list), .i ((g y3 7).int), .i ((g y3 8).int), .i ((g y3 9).int), .i 0, .l [], .l [], .l [], .l [], .l [], .l [], .l [], .l [], .l ((g y3 10).list), .l ((g y3 11).list), .l []])) := (Lim_eq _ _).trans (by kernel_rfl)
theorem eqcd_4 (a0 : Int) (a1 : Int) (a2 : Int) (a3 : Rw) (a4 : Rw) (a5 : Int) (a6 : Int) (a7 : Int) (a8 : Int) (a9 : Rw) (a10 : Rw) (a11 : Rw) (a12 : Int) (a13 : Rw) (a14 : Rw) (a15 : Int) (a16 : Int) (a17 : Int) (a18 : Int) (a19 : Int) (a20 : Int) (a21 : Int) (a22 : Int) (a23 : Int) (a24 : Int) (a25 : Int) (a26 : Int) (a27 : Int) (a28 : Int) (a29 : Int) (a30 : Int) (a31 : Int) (a32 : Int) (a33 : Int) (a34 : Int) (a35 : Int) (a36 : Int) (a37 : Rw) (a38 : Rw) (a39 : Rw) (a40 : Int) (a41 : Rw) (a42 : Rw) (a43 : Int) (a44 : Int) (a45 : Int) (a46 : Int) (a47 : Rw) (a48 : Rw) (a49 : Rw) (a50 : Rw) (a51 : Rw) (a52 : Rw) (a53 : Rw) (a54 : Rw) (a55 : Rw) (a56 : Rw) (a57 : Rw) : Lqcd (some 4) [.i a0, .i a1, .i a2, .l a3, .l a4, .i a5, .i a6, .i a7, .i a8, .l a9, .l a10, .l a11, .i a12, .l a13, .l a14, .i a15, .i a16, .i a17, .i a18, .i a19, .i a20, .i a21, .i a22, .i a23, .i a24, .i a25, .i a26, .i a27, .i a28, .i a29, .i a30, .i a31, .i a32, .i a33, .i a34, .i a35, .i a36, .l a37, .l a38, .l a39, .i a40, .l a41, .l a42, .i a43, .i a44, .i a45, .i a46, .l a47, .l a48, .l a49, .l a50, .l a51, .l a52, .l a53, .l a54, .l a55, .l a56, .l a57] =
 cond (decide (a46 < a0)) (
 cond (decide (1000000000 ≤ a45)) (
 some [.i 1, .i 0, .i 0, .i 0, .i 0, .i 0, .i 0, .i 0, .i 0, .i 0, .i 0, .i 0, .l [], .l [], .l [], .l [], .l [], .l [], .l [], .l []]) (
 (Lqbk none [.i a33, .i a34, .i a35, .i a36, .l a37, .l a38, .l a39, .i a40, .l a41, .l a42, .i a43, .i a44, .i a45]).bind fun y1 =>
 cond (decide (23200 < (((g y1 9).list).length : Int))) (
 some [.i 1, .i 0, .i 0, .i 0, .i 0, .i 0, .i 0, .i 0, .i 0, .i 0, .i 0, .i 0, .l [], .l [], .l [], .l [], .l [], .l [], .l [], .l []]) (
 cond (decide (600 < (((g y1 10).list).length : Int))) (
 some [.i 1, .i 0, .i 0, .i 0, .i 0, .i 0, .i 0, .i 0, .i 0, .i 0, .i 0, .i 0, .l [], .l [], .l [], .l [], .l [], .l [], .l [], .l []]) (
 cond (decide (0 < (((g y1 14).list).length : Int))) (
 cond (decide (4000 ≤ (IntKind.i64.wrap ((a55.length : Int) + (a56.length : Int))))) (
 (Lqbv none [.i a31, .i a32, .l a55, .l a56, .i a33, .i a34, .i a35, .i a36, .l a37, .l a38, .l a39, .i a40, .l a41, .l a42, .i a43, .i a44, .i a45]).bind fun y2 =>
 some [.i a30, .i ((g y2 0).int), .i ((g y2 1).int), .i ((g y2 2).int), .i ((g y2 3).int), .i ((g y2 4).int), .i ((g y2 5).int), .i ((g y2 6).int), .i ((g y2 7).int), .i ((g y2 8).int), .i ((g y2 9).int), .i a46, .l ((g y2 10).list), .l ((g y2 11).list), .l ((g y2 12).list), .l ((g y2 13).list), .l ((g y2 14).list), .l ((g y2 15).list), .l ((g y2 16).list), .l a57]) (
 cond (inb 0 (((g y1 14).list).length)) (
 (Lqw none [.i 7, .s ((rd ((g y1 14).list) 0 0).str), .s (⟨#[]⟩ : ByteArray), .i 0, .s (⟨#[]⟩ : ByteArray), .l ([]), .i a1]).bind fun y3 =>
 cond (decide (a56.length + ([[.s ((g y3 0).str)]] : Rw).length ≤ most)) (
 cond (inb 0 (((g y1 14).list).length)) (
 cond (decide (a57.length + ([[.s ((rd ((g y1 14).list) 0 0).str)]] : Rw).length ≤ most)) (
 Lqcd (some 4) [.i a0, .i a1, .i a2, .l a3, .l a4, .i a5, .i a6, .i a7, .i a8, .l a9, .l a10, .l a11, .i a12, .l a13, .l a14, .i a15, .i a16, .i a17, .i a18, .i a19, .i a20, .i a21, .i a22, .i a23, .i a24, .i a25, .i a26, .i a27, .i a28, .i a29, .i a30, .i a31, .i a32, .i ((g y1 1).int), .i ((g y1 2).int), .i ((g y1 3).int), .i ((g y1 4).int), .l ((g y1 5).list), .l ((g y1 6).list), .l ((g y1 7).list), .i ((g y1 8).int), .l ((g y1 9).list), .l ((g y1 10).list), .i ((g y1 11).int), .i ((g y1 12).int), .i ((g y1 13).int), .i (IntKind.i64.wrap (a46 + 1)), .l a47, .l a48, .l a49, .l a50, .l a51, .l a52, .l a53, .l a54, .l a55, .l (a56 ++ ([[.s ((g y3 0).str)]] : Rw)), .l (a57 ++ ([[.s ((rd ((g y1 14).list) 0 0).str)]] : Rw))]) (
 none)) (
 none)) (
 none)) (
 none))) (
 Lqcd (some 4) [.i a0, .i a1, .i a2, .l a3, .l a4, .i a5, .i a6, .i a7, .i a8, .l a9, .l a10, .l a11, .i a12, .l a13, .l a14, .i a15, .i a16, .i a17, .i a18, .i a19, .i a20, .i a21, .i a22, .i a23, .i a24, .i a25, .i a26, .i a27, .i a28, .i a29, .i a30, .i a31, .i a32, .i ((g y1 1).int), .i ((g y1 2).int), .i ((g y1 3).int), .i ((g y1 4).int), .l ((g y1 5).list), .l ((g y1 6).list), .l ((g y1 7).list), .i ((g y1 8).int), .l ((g y1 9).list), .l ((g y1 10).list), .i ((g y1 11).int), .i ((g y1 12).int), .i ((g y1 13).int), .i (IntKind.i64.wrap (a46 + 1)), .l a47, .l a48, .l a49, .l a50, .l a51, .l a52, .l a53, .l a54, .l a55, .l a56, .l a57]))))) (
 (Lqbv none [.i a31, .i a32, .l a55, .l a56, .i a33, .i a34, .i a35, .i a36, .l a37, .l a38, .l a39, .i a40, .l a41, .l a42, .i a43, .i a44, .i a45]).bind fun y4 =>
 some [.i a30, .i ((g y4 0).int), .i ((g y4 1).int), .i ((g y4 2).int), .i ((g y4 3).int), .i ((g y4 4).int), .i ((g y4 5).int), .i ((g y4 6).int), .i ((g y4 7).int), .i ((g y4 8).int), .i ((g y4 9).int), .i a46, .l ((g y4 10).list), .l ((g y4 11).list), .l ((g y4 12).list), .l ((g y4 13).list), .l ((g y4 14).list), .l ((g y4 15).list), .l ((g y4 16).list), .l a57]) := (Lim_eq _ _).trans (by kernel_rfl)
theorem kqcd : SigOk Tryz.prog (dqcd.sig (Lqcd none)) ∧ (dqcd.sig (Lqcd none)).ok = true := sound_lim (known_cons kqw (by kernel_rfl) (known_cons kqy (by kernel_rfl) (known_cons kqbh (by kernel_rfl) (known_cons kqbv (by kernel_rfl) (known_cons kqbk (by kernel_rfl) known_nil))))) (by kernel_rfl) (by kernel_rfl) (by kernel_rfl)
def dqdu : FD := { fn := 230, nb := 0, pre := ⟨[.ag [.fz 9 false 0, .fz 9 false 1]], []⟩, post := ⟨[.ag [.ow 0, .ow 1]], [.rw 9 true 0, .rw 9 true 1]⟩, sh := false, cuts := [] }
noncomputable def Lqdu : Option Nat → Lv → Option Lv := Lim Tryz.prog [dqn.sig (Lqn none)] dqdu Tryz.f230
theorem eqdu_i (a0 : Rw) (a1 : Rw) : Lqdu none [.l a0, .l a1] =
 (Lqn none [.l a0, .l a1]).bind fun y1 =>
 cond (!(g y1 0).bool) (
 some [.l [], .l []]) (
 cond (decide (([] : Rw).length + a0.length ≤ most)) (
 cond (decide ((([] : Rw) ++ a0).length + a1.length ≤ most)) (
 some [.l ((([] : Rw) ++ a0) ++ a1), .l []]) (
 none)) (
 none)) := (Lim_eq _ _).trans (by kernel_rfl)
theorem kqdu : SigOk Tryz.prog (dqdu.sig (Lqdu none)) ∧ (dqdu.sig (Lqdu none)).ok = true := sound_lim (known_cons kqn (by kernel_rfl) known_nil) (by kernel_rfl) (by kernel_rfl) (by kernel_rfl)
def dqdv : FD := { fn := 218, nb := 0, pre := ⟨[.ag [.i .i64 0, .i .i64 1, .fz 9 false 2, .fz 9 false 3, .i .i64 4, .i .i64 5, .i .i64 6, .i .i64 7, .fz 90 false 8, .fz 156 false 9, .fz 158 false 10, .i .i64 11, .fz 9 false 12, .fz 9 false 13, .i .i64 14, .i .i64 15, .i .i64 16]], []⟩, post := ⟨[.ag [.i .i64 0, .i .i64 1, .ow 0, .ow 1, .i .i64 2, .i .i64 3, .i .i64 4, .i .i64 5, .ow 2, .ow 3, .ow 4, .i .i64 6, .ow 5, .ow 6, .i .i64 7, .i .i64 8, .i .i64 9]], [.rw 9 true 10, .rw 9 true 11, .rw 90 true 12, .rw 156 true 13, .rw 158 true 14, .rw 9 true 15, .rw 9 true 16]⟩, sh := false, cuts := [] }
noncomputable def Lqdv : Option Nat → Lv → Option Lv := Lim Tryz.prog [dqbh.sig (Lqbh none), dqbv.sig (Lqbv none), dqdu.sig (Lqdu none)] dqdv Tryz.f218
theorem eqdv_i (a0 : Int) (a1 : Int) (a2 : Rw) (a3 : Rw) (a4 : Int) (a5 : Int) (a6 : Int) (a7 : Int) (a8 : Rw) (a9 : Rw) (a10 : Rw) (a11 : Int) (a12 : Rw) (a13 : Rw) (a14 : Int) (a15 : Int) (a16 : Int) : Lqdv none [.i a0, .i a1, .l a2, .l a3, .i a4, .i a5, .i a6, .i a7, .l a8, .l a9, .l a10, .i a11, .l a12, .l a13, .i a14, .i a15, .i a16] =
 (Lqbh none [.i a0, .i a1, .l a2, .l a3, .i a4, .i a5, .i a6, .i a7, .l a8, .l a9, .l a10, .i a11, .l a12, .l a13, .i a14, .i a15, .i a16]).bind fun y1 =>
 cond (!(g y1 0).bool) (
 some [.i 0, .i 0, .i 0, .i 0, .i 0, .i 0, .i 0, .i 0, .i 0, .i 0, .l [], .l [], .l [], .l [], .l [], .l [], .l []]) (
 (Lqbv none [.i a0, .i a1, .l a2, .l a3, .i a4, .i a5, .i a6, .i a7, .l a8, .l a9, .l a10, .i a11, .l a12, .l a13, .i a14, .i a15, .i a16]).bind fun y2 =>
 (Lqdu none [.l a2, .l a3]).bind fun y3 =>
 some [.i ((g y2 0).int), .i ((g y2 1).int), .i ((g y2 2).int), .i ((g y2 3).int), .i ((g y2 4).int), .i ((g y2 5).int), .i ((g y2 6).int), .i ((g y2 7).int), .i ((g y2 8).int), .i ((g y2 9).int), .l ((g y3 0).list), .l ((g y3 1).list), .l ((g y2 12).list), .l ((g y2 13).list), .l ((g y2 14).list), .l ((g y2 15).list), .l ((g y2 16).list)]) := (Lim_eq _ _).trans (by kernel_rfl)
theorem kqdv : SigOk Tryz.prog (dqdv.sig (Lqdv none)) ∧ (dqdv.sig (Lqdv none)).ok = true := sound_lim (known_cons kqbh (by kernel_rfl) (known_cons kqbv (by kernel_rfl) (known_cons kqdu (by kernel_rfl) known_nil))) (by kernel_rfl) (by kernel_rfl) (by kernel_rfl)
def dqdw : FD := { fn := 231, nb := 0, pre := ⟨[.ag [.fz 9 false 0, .fz 9 false 1], .sc (.i .i64 2)], []⟩, post := ⟨[.ag [.ow 0, .fz 9 true 0]], [.rw 9 true 1]⟩, sh := false, cuts := [] }
noncomputable def Lqdw : Option Nat → Lv → Option Lv := Lim Tryz.prog [dqn.sig (Lqn none)] dqdw Tryz.f231
theorem eqdw_i (a0 : Rw) (a1 : Rw) (a2 : Int) : Lqdw none [.l a0, .l a1, .i a2] =
 (Lqn none [.l a0, .l a1]).bind fun y1 =>
 cond (!(g y1 0).bool) (
 some [.l ([]), .l []]) (
 cond (decide (a2 < 0)) (
 cond (decide ((a1.length : Int) < 0)) (
 cond (decide (([] : Rw).length + a0.length ≤ most)) (
 cond (decide (0 ≤ (a1.length : Int))) (
 cond (decide ((a1.length : Int) ≤ (a1.length : Int))) (
 cond (decide ((([] : Rw) ++ a0).length + (Eng.sub a1 0 ((a1.length : Int).toNat)).length ≤ most)) (
 some [.l ([]), .l ((([] : Rw) ++ a0) ++ (Eng.sub a1 0 ((a1.length : Int).toNat)))]) (
 none)) (
 none)) (
 none)) (
 none)) (
 cond (decide (([] : Rw).length + a0.length ≤ most)) (
 cond (decide (0 ≤ (a1.length : Int))) (
 cond (decide ((([] : Rw) ++ a0).length + (Eng.sub a1 0 0).length ≤ most)) (
 some [.l ([]), .l ((([] : Rw) ++ a0) ++ (Eng.sub a1 0 0))]) (
 none)) (
 none)) (
 none))) (
 cond (decide ((a1.length : Int) < a2)) (
 cond (decide (([] : Rw).length + a0.length ≤ most)) (
 cond (decide (0 ≤ (a1.length : Int))) (
 cond (decide ((a1.length : Int) ≤ (a1.length : Int))) (
 cond (decide ((([] : Rw) ++ a0).length + (Eng.sub a1 0 ((a1.length : Int).toNat)).length ≤ most)) (
 some [.l ([]), .l ((([] : Rw) ++ a0) ++ (Eng.sub a1 0 ((a1.length : Int).toNat)))]) (
 none)) (
 none)) (
 none)) (
 none)) (
 cond (decide (([] : Rw).length + a0.length ≤ most)) (
 cond (decide (0 ≤ a2)) (
 cond (decide (a2 ≤ (a1.length : Int))) (
 cond (decide ((([] : Rw) ++ a0).length + (Eng.sub a1 0 a2.toNat).length ≤ most)) (
 some [.l ([]), .l ((([] : Rw) ++ a0) ++ (Eng.sub a1 0 a2.toNat))]) (
 none)) (
 none)) (
 none)) (
 none)))) := (Lim_eq _ _).trans (by kernel_rfl)
theorem kqdw : SigOk Tryz.prog (dqdw.sig (Lqdw none)) ∧ (dqdw.sig (Lqdw none)).ok = true := sound_lim (known_cons kqn (by kernel_rfl) known_nil) (by kernel_rfl) (by kernel_rfl) (by kernel_rfl)
def dqdf : FD := { fn := 219, nb := 0, pre := ⟨[.ag [.i .i64 0, .i .i64 1, .fz 9 false 2, .fz 9 false 3, .i .i64 4, .i .i64 5, .i .i64 6, .i .i64 7, .fz 90 false 8, .fz 156 false 9, .fz 158 false 10, .i .i64 11, .fz 9 false 12, .fz 9 false 13, .i .i64 14, .i .i64 15, .i .i64 16], .sc (.i .i64 17)], []⟩, post := ⟨[.ag [.i .i64 0, .i .i64 1, .ow 0, .ow 1, .i .i64 2, .i .i64 3, .i .i64 4, .i .i64 5, .ow 2, .ow 3, .ow 4, .i .i64 6, .fz 9 true 7, .fz 9 true 8, .i .i64 9, .i .i64 10, .i .i64 11]], [.rw 9 true 12, .rw 9 true 13, .rw 90 true 14, .rw 156 true 15, .rw 158 true 16]⟩, sh := false, cuts := [] }
noncomputable def Lqdf : Option Nat → Lv → Option Lv := Lim Tryz.prog [dqbh.sig (Lqbh none), dqbw.sig (Lqbw none), dqdw.sig (Lqdw none)] dqdf Tryz.f219
theorem eqdf_i (a0 : Int) (a1 : Int) (a2 : Rw) (a3 : Rw) (a4 : Int) (a5 : Int) (a6 : Int) (a7 : Int) (a8 : Rw) (a9 : Rw) (a10 : Rw) (a11 : Int) (a12 : Rw) (a13 : Rw) (a14 : Int) (a15 : Int) (a16 : Int) (a17 : Int) : Lqdf none [.i a0, .i a1, .l a2, .l a3, .i a4, .i a5, .i a6, .i a7, .l a8, .l a9, .l a10, .i a11, .l a12, .l a13, .i a14, .i a15, .i a16, .i a17] =
 (Lqbh none [.i a0, .i a1, .l a2, .l a3, .i a4, .i a5, .i a6, .i a7, .l a8, .l a9, .l a10, .i a11, .l a12, .l a13, .i a14, .i a15, .i a16]).bind fun y1 =>
 cond (!(g y1 0).bool) (
 some [.i 0, .i 0, .i 0, .i 0, .i 0, .i 0, .i 0, .l ([]), .l ([]), .i 0, .i 0, .i 0, .l [], .l [], .l [], .l [], .l []]) (
 (Lqdw none [.l a2, .l a3, .i a17]).bind fun y2 =>
 (Lqbw none [.i a0, .i a1, .l ((g y2 1).list), .l ((g y2 0).list)]).bind fun y3 =>
 some [.i ((g y3 0).int), .i ((g y3 1).int), .i ((g y3 2).int), .i ((g y3 3).int), .i ((g y3 4).int), .i ((g y3 5).int), .i ((g y3 6).int), .l ((g y3 7).list), .l ((g y3 8).list), .i ((g y3 9).int), .i ((g y3 10).int), .i ((g y3 11).int), .l ((g y3 13).list), .l ((g y3 14).list), .l ((g y3 15).list), .l ((g y3 16).list), .l ((g y3 17).list)]) := (Lim_eq _ _).trans (by kernel_rfl)
theorem kqdf : SigOk Tryz.prog (dqdf.sig (Lqdf none)) ∧ (dqdf.sig (Lqdf none)).ok = true := sound_lim (known_cons kqbh (by kernel_rfl) (known_cons kqbw (by kernel_rfl) (known_cons kqdw (by kernel_rfl) known_nil))) (by kernel_rfl) (by kernel_rfl) (by kernel_rfl)
def dqbr : FD := { fn := 175, nb := 0, pre := ⟨[.ag [.i .i64 0, .i .i64 1, .fz 9 false 2, .ow 0, .i .i64 3, .i .i64 4, .i .i64 5, .i .i64 6, .fz 90 false 7, .ow 1, .ow 2, .i .i64 8, .fz 9 false 9, .fz 9 false 10, .i .i64 11, .i .i64 12, .i .i64 13], .ag [.i .i64 14, .s 15, .i .i64 16, .s 17, .i .i64 18, .i .i64 19]], [.rw 9 false 20, .rw 156 false 21, .rw 158 false 22]⟩, post := ⟨[.ag [.i .i64 0, .i .i64 1, .fz 9 false 2, .ow 0, .i .i64 3, .i .i64 4, .i .i64 5, .i .i64 6, .fz 90 false 7, .ow 1, .ow 2, .i .i64 8, .fz 9 false 9, .fz 9 false 10, .i .i64 11, .i .i64 12, .i .i64 13]], [.rw 9 false 14, .rw 156 false 15, .rw 158 false 16]⟩, sh := true, cuts := [⟨21, [2, 4, 5], ⟨[.sc (.pt 0 0), .sc (.pt 1 0), .sc (.pt 2 0)], [.bx [.i .i64 0, .i .i64 1, .fz 9 false 2, .ow 3, .i .i64 3, .i .i64 4, .i .i64 5, .i .i64 6, .fz 90 false 7, .ow 4, .ow 5, .i .i64 8, .fz 9 false 9, .fz 9 false 10, .i .i64 11, .i .i64 12, .i .i64 13], .bx [.i .i64 14, .i .i64 15, .ow 13, .ow 14, .i .i64 16, .i .i64 17, .i .i64 18, .i .i64 19, .ow 15, .ow 16, .ow 17, .i .i64 20, .ow 18, .ow 19, .i .i64 21, .i .i64 22, .i .i64 23], .bx [.i .i64 24, .i .i64 25, .i .i64 26, .ow 6, .ow 7, .i .i64 27, .i .i64 28, .i .i64 29, .i .i64 30, .ow 8, .ow 9, .ow 10, .i .i64 31, .ow 11, .ow 12, .i .i64 32, .i .i64 33, .i .i64 34, .s 35, .i .i64 36, .s 37, .s 38], .rw 9 false 39, .rw 156 false 40, .rw 158 false 41, .rw 9 true 42, .rw 9 true 43, .rw 90 true 44, .rw 156 true 45, .rw 158 true 46, .rw 9 true 47, .rw 9 true 48, .rw 9 true 49, .rw 9 true 50, .rw 90 true 51, .rw 156 true 52, .rw 158 true 53, .rw 9 true 54, .rw 9 true 55]⟩⟩] }
noncomputable def Lqbr : Option Nat → Lv → Option Lv := Lim Tryz.prog [dqbm.sig (Lqbm none), dqcc.sig (Lqcc none), dqda.sig (Lqda none), dqcj.sig (Lqcj none), dqck.sig (Lqck none), dqdb.sig (Lqdb none), dqdc.sig (Lqdc none), dqdd.sig (Lqdd none), dqde.sig (Lqde none), dqcd.sig (Lqcd none), dqdv.sig (Lqdv none), dqdf.sig (Lqdf none)] dqbr Tryz.f175
theorem eqbr_i (a0 : Int) (a1 : Int) (a2 : Rw) (a3 : Int) (a4 : Int) (a5 : Int) (a6 : Int) (a7 : Rw) (a8 : Int) (a9 : Rw) (a10 : Rw) (a11 : Int) (a12 : Int) (a13 : Int) (a14 : Int) (a15 : ByteArray) (a16 : Int) (a17 : ByteArray) (a18 : Int) (a19 : Int) (a20 : Rw) (a21 : Rw) (a22 : Rw) : Lqbr none [.i a0, .i a1, .l a2, .i a3, .i a4, .i a5, .i a6, .l a7, .i a8, .l a9, .l a10, .i a11, .i a12, .i a13, .i a14, .s a15, .i a16, .s a17, .i a18, .i a19, .l a20, .l a21, .l a22] =
 cond (a14 == 1) (
 (Lqbm none [.i a14, .s a15, .i a16, .s a17, .i a18, .i a19, .i a3, .i a4, .i a5, .i a6, .l a7, .l a21, .l a22]).bind fun y1 =>
 (Lqcj none [.i a0, .i a1, .l a2, .l a20, .i a3, .i a4, .i a5, .i a6, .l a7, .l a21, .l a22, .i a8, .l a9, .l a10, .i a11, .i a12, .i a13, .s ((g y1 0).str), .l ((g y1 1).list), .i a19]).bind fun y2 =>
 Lqbr (some 21) [.i a0, .i a1, .l a2, .i a3, .i a4, .i a5, .i a6, .l a7, .i a8, .l a9, .l a10, .i a11, .i a12, .i a13, .i 0, .i 0, .i 0, .i 0, .i 0, .i 0, .i 0, .i 0, .i 0, .i 0, .i ((g y2 0).int), .i ((g y2 1).int), .i ((g y2 2).int), .i ((g y2 3).int), .i ((g y2 4).int), .i ((g y2 5).int), .i ((g y2 6).int), .i ((g y2 7).int), .i ((g y2 8).int), .i ((g y2 9).int), .i ((g y2 10).int), .s ((g y2 11).str), .i ((g y2 12).int), .s ((g y2 13).str), .s ((g y2 14).str), .l a20, .l a21, .l a22, .l ((g y2 15).list), .l ((g y2 16).list), .l ((g y2 17).list), .l ((g y2 18).list), .l ((g y2 19).list), .l ((g y2 20).list), .l ((g y2 21).list), .l [], .l [], .l [], .l [], .l [], .l [], .l []]) (
 cond (a14 == 2) (
 (Lqcc none [.i a14, .s a15, .i a16, .s a17, .i a18, .i a19, .i a3, .i a4, .i a5, .i a6, .l a7, .l a21, .l a22]).bind fun y3 =>
 (Lqck none [.i a0, .i a1, .l a2, .l a20, .i a3, .i a4, .i a5, .i a6, .l a7, .l a21, .l a22, .i a8, .l a9, .l a10, .i a11, .i a12, .i a13, .s a17, .s ((g y3 0).str)]).bind fun y4 =>
 Lqbr (some 21) [.i a0, .i a1, .l a2, .i a3, .i a4, .i a5, .i a6, .l a7, .i a8, .l a9, .l a10, .i a11, .i a12, .i a13, .i 0, .i 0, .i 0, .i 0, .i 0, .i 0, .i 0, .i 0, .i 0, .i 0, .i ((g y4 0).int), .i ((g y4 1).int), .i ((g y4 2).int), .i ((g y4 3).int), .i ((g y4 4).int), .i ((g y4 5).int), .i ((g y4 6).int), .i ((g y4 7).int), .i ((g y4 8).int), .i ((g y4 9).int), .i ((g y4 10).int), .s ((g y4 11).str), .i ((g y4 12).int), .s ((g y4 13).str), .s ((g y4 14).str), .l a20, .l a21, .l a22, .l ((g y4 15).list), .l ((g y4 16).list), .l ((g y4 17).list), .l ((g y4 18).list), .l ((g y4 19).list), .l ((g y4 20).list), .l ((g y4 21).list), .l [], .l [], .l [], .l [], .l [], .l [], .l []]) (
 cond (a14 == 3) (
 (Lqdb none [.i a0, .i a1, .l a2, .l a20, .i a3, .i a4, .i a5, .i a6, .l a7, .l a21, .l a22, .i a8, .l a9, .l a10, .i a11, .i a12, .i a13, .s a17]).bind fun y5 =>
 Lqbr (some 21) [.i a0, .i a1, .l a2, .i a3, .i a4, .i a5, .i a6, .l a7, .i a8, .l a9, .l a10, .i a11, .i a12, .i a13, .i 0, .i 0, .i 0, .i 0, .i 0, .i 0, .i 0, .i 0, .i 0, .i 0, .i ((g y5 0).int), .i ((g y5 1).int), .i ((g y5 2).int), .i ((g y5 3).int), .i ((g y5 4).int), .i ((g y5 5).int), .i ((g y5 6).int), .i ((g y5 7).int), .i ((g y5 8).int), .i ((g y5 9).int), .i ((g y5 10).int), .s ((g y5 11).str), .i ((g y5 12).int), .s ((g y5 13).str), .s ((g y5 14).str), .l a20, .l a21, .l a22, .l ((g y5 15).list), .l ((g y5 16).list), .l ((g y5 17).list), .l ((g y5 18).list), .l ((g y5 19).list), .l ((g y5 20).list), .l ((g y5 21).list), .l [], .l [], .l [], .l [], .l [], .l [], .l []]) (
 cond (a14 == 4) (
 (Lqcc none [.i a14, .s a15, .i a16, .s a17, .i a18, .i a19, .i a3, .i a4, .i a5, .i a6, .l a7, .l a21, .l a22]).bind fun y6 =>
 (Lqdc none [.i a0, .i a1, .l a2, .l a20, .i a3, .i a4, .i a5, .i a6, .l a7, .l a21, .l a22, .i a8, .l a9, .l a10, .i a11, .i a12, .i a13, .s ((g y6 0).str), .i a19]).bind fun y7 =>
 Lqbr (some 21) [.i a0, .i a1, .l a2, .i a3, .i a4, .i a5, .i a6, .l a7, .i a8, .l a9, .l a10, .i a11, .i a12, .i a13, .i 0, .i 0, .i 0, .i 0, .i 0, .i 0, .i 0, .i 0, .i 0, .i 0, .i ((g y7 0).int), .i ((g y7 1).int), .i ((g y7 2).int), .i ((g y7 3).int), .i ((g y7 4).int), .i ((g y7 5).int), .i ((g y7 6).int), .i ((g y7 7).int), .i ((g y7 8).int), .i ((g y7 9).int), .i ((g y7 10).int), .s ((g y7 11).str), .i ((g y7 12).int), .s ((g y7 13).str), .s ((g y7 14).str), .l a20, .l a21, .l a22, .l ((g y7 15).list), .l ((g y7 16).list), .l ((g y7 17).list), .l ((g y7 18).list), .l ((g y7 19).list), .l ((g y7 20).list), .l ((g y7 21).list), .l [], .l [], .l [], .l [], .l [], .l [], .l []]) (
 cond (a14 == 5) (
 (Lqda none [.i a14, .s a15, .i a16, .s a17, .i a18, .i a19, .i a3, .i a4, .i a5, .i a6, .l a7, .l a21, .l a22]).bind fun y8 =>
 (Lqdd none [.i a0, .i a1, .l a2, .l a20, .i a3, .i a4, .i a5, .i a6, .l a7, .l a21, .l a22, .i a8, .l a9, .l a10, .i a11, .i a12, .i a13, .i ((g y8 0).int)]).bind fun y9 =>
 Lqbr (some 21) [.i a0, .i a1, .l a2, .i a3, .i a4, .i a5, .i a6, .l a7, .i a8, .l a9, .l a10, .i a11, .i a12, .i a13, .i 0, .i 0, .i 0, .i 0, .i 0, .i 0, .i 0, .i 0, .i 0, .i 0, .i ((g y9 0).int), .i ((g y9 1).int), .i ((g y9 2).int), .i ((g y9 3).int), .i ((g y9 4).int), .i ((g y9 5).int), .i ((g y9 6).int), .i ((g y9 7).int), .i ((g y9 8).int), .i ((g y9 9).int), .i ((g y9 10).int), .s ((g y9 11).str), .i ((g y9 12).int), .s ((g y9 13).str), .s ((g y9 14).str), .l a20, .l a21, .l a22, .l ((g y9 15).list), .l ((g y9 16).list), .l ((g y9 17).list), .l ((g y9 18).list), .l ((g y9 19).list), .l ((g y9 20).list), .l ((g y9 21).list), .l [], .l [], .l [], .l [], .l [], .l [], .l []]) (
 cond (a14 == 6) (
 (Lqde none [.i a0, .i a1, .l a2, .l a20, .i a3, .i a4, .i a5, .i a6, .l a7, .l a21, .l a22, .i a8, .l a9, .l a10, .i a11, .i a12, .i a13, .i a19]).bind fun y10 =>
 Lqbr (some 21) [.i a0, .i a1, .l a2, .i a3, .i a4, .i a5, .i a6, .l a7, .i a8, .l a9, .l a10, .i a11, .i a12, .i a13, .i 0, .i 0, .i 0, .i 0, .i 0, .i 0, .i 0, .i 0, .i 0, .i 0, .i ((g y10 0).int), .i ((g y10 1).int), .i ((g y10 2).int), .i ((g y10 3).int), .i ((g y10 4).int), .i ((g y10 5).int), .i ((g y10 6).int), .i ((g y10 7).int), .i ((g y10 8).int), .i ((g y10 9).int), .i ((g y10 10).int), .s ((g y10 11).str), .i ((g y10 12).int), .s ((g y10 13).str), .s ((g y10 14).str), .l a20, .l a21, .l a22, .l ((g y10 15).list), .l ((g y10 16).list), .l ((g y10 17).list), .l ((g y10 18).list), .l ((g y10 19).list), .l ((g y10 20).list), .l ((g y10 21).list), .l [], .l [], .l [], .l [], .l [], .l [], .l []]) (
 cond (a14 == 8) (
 (Lqdv none [.i a0, .i a1, .l a2, .l a20, .i a3, .i a4, .i a5, .i a6, .l a7, .l a21, .l a22, .i a8, .l a9, .l a10, .i a11, .i a12, .i a13]).bind fun y11 =>
 some [.i ((g y11 0).int), .i ((g y11 1).int), .l ((g y11 10).list), .i ((g y11 2).int), .i ((g y11 3).int), .i ((g y11 4).int), .i ((g y11 5).int), .l ((g y11 12).list), .i ((g y11 6).int), .l ((g y11 15).list), .l ((g y11 16).list), .i ((g y11 7).int), .i ((g y11 8).int), .i ((g y11 9).int), .l ((g y11 11).list), .l ((g y11 13).list), .l ((g y11 14).list)]) (
 cond (a14 == 9) (
 (Lqdf none [.i a0, .i a1, .l a2, .l a20, .i a3, .i a4, .i a5, .i a6, .l a7, .l a21, .l a22, .i a8, .l a9, .l a10, .i a11, .i a12, .i a13, .i (a18.tmod 6)]).bind fun y12 =>
 some [.i ((g y12 0).int), .i ((g y12 1).int), .l ((g y12 12).list), .i ((g y12 2).int), .i ((g y12 3).int), .i ((g y12 4).int), .i ((g y12 5).int), .l ((g y12 14).list), .i ((g y12 6).int), .l ((g y12 7).list), .l ((g y12 8).list), .i ((g y12 9).int), .i ((g y12 10).int), .i ((g y12 11).int), .l ((g y12 13).list), .l ((g y12 15).list), .l ((g y12 16).list)]) (
 cond (a14 == 10) (
 (Lqcd none [.i a0, .i a1, .l a2, .l a20, .i a3, .i a4, .i a5, .i a6, .l a7, .l a21, .l a22, .i a8, .l a9, .l a10, .i a11, .i a12, .i a13, .i a18]).bind fun y13 =>
 some [.i ((g y13 1).int), .i ((g y13 2).int), .l ((g y13 12).list), .i ((g y13 3).int), .i ((g y13 4).int), .i ((g y13 5).int), .i ((g y13 6).int), .l ((g y13 14).list), .i ((g y13 7).int), .l ((g y13 17).list), .l ((g y13 18).list), .i ((g y13 8).int), .i ((g y13 9).int), .i ((g y13 10).int), .l ((g y13 13).list), .l ((g y13 15).list), .l ((g y13 16).list)]) (
 Lqbr (some 21) [.i a0, .i a1, .l a2, .i a3, .i a4, .i a5, .i a6, .l a7, .i a8, .l a9, .l a10, .i a11, .i a12, .i a13, .i 0, .i 0, .i 0, .i 0, .i 0, .i 0, .i 0, .i 0, .i 0, .i 0, .i 1, .i 0, .i 0, .i 0, .i 0, .i 0, .i 0, .i 0, .i 0, .i 0, .i 0, .s (⟨#[]⟩ : ByteArray), .i 0, .s (⟨#[]⟩ : ByteArray), .s (⟨#[]⟩ : ByteArray), .l a20, .l a21, .l a22, .l [], .l [], .l [], .l [], .l [], .l [], .l [], .l [], .l [], .l [], .l [], .l [], .l [], .l []]))))))))) := (Lim_eq _ _).trans (by kernel_rfl)
theorem eqbr_21 (a0 : Int) (a1 : Int) (a2 : Rw) (a3 : Int) (a4 : Int) (a5 : Int) (a6 : Int) (a7 : Rw) (a8 : Int) (a9 : Rw) (a10 : Rw) (a11 : Int) (a12 : Int) (a13 : Int) (a14 : Int) (a15 : Int) (a16 : Int) (a17 : Int) (a18 : Int) (a19 : Int) (a20 : Int) (a21 : Int) (a22 : Int) (a23 : Int) (a24 : Int) (a25 : Int) (a26 : Int) (a27 : Int) (a28 : Int) (a29 : Int) (a30 : Int) (a31 : Int) (a32 : Int) (a33 : Int) (a34 : Int) (a35 : ByteArray) (a36 : Int) (a37 : ByteArray) (a38 : ByteArray) (a39 : Rw) (a40 : Rw) (a41 : Rw) (a42 : Rw) (a43 : Rw) (a44 : Rw) (a45 : Rw) (a46 : Rw) (a47 : Rw) (a48 : Rw) (a49 : Rw) (a50 : Rw) (a51 : Rw) (a52 : Rw) (a53 : Rw) (a54 : Rw) (a55 : Rw) : Lqbr (some 21) [.i a0, .i a1, .l a2, .i a3, .i a4, .i a5, .i a6, .l a7, .i a8, .l a9, .l a10, .i a11, .i a12, .i a13, .i a14, .i a15, .i a16, .i a17, .i a18, .i a19, .i a20, .i a21, .i a22, .i a23, .i a24, .i a25, .i a26, .i a27, .i a28, .i a29, .i a30, .i a31, .i a32, .i a33, .i a34, .s a35, .i a36, .s a37, .s a38, .l a39, .l a40, .l a41, .l a42, .l a43, .l a44, .l a45, .l a46, .l a47, .l a48, .l a49, .l a50, .l a51, .l a52, .l a53, .l a54, .l a55] =
 cond (a24 == 0) (
 some [.i a25, .i a26, .l a42, .i a27, .i a28, .i a29, .i a30, .l a44, .i a31, .l a47, .l a48, .i a32, .i a33, .i a34, .l a43, .l a45, .l a46]) (
 some [.i a0, .i a1, .l a2, .i a3, .i a4, .i a5, .i a6, .l a7, .i a8, .l a9, .l a10, .i a11, .i a12, .i a13, .l a39, .l a40, .l a41]) := (Lim_eq _ _).trans (by kernel_rfl)
theorem kqbr : SigOk Tryz.prog (dqbr.sig (Lqbr none)) ∧ (dqbr.sig (Lqbr none)).ok = true := sound_lim (known_cons kqbm (by kernel_rfl) (known_cons kqcc (by kernel_rfl) (known_cons kqda (by kernel_rfl) (known_cons kqcj (by kernel_rfl) (known_cons kqck (by kernel_rfl) (known_cons kqdb (by kernel_rfl) (known_cons kqdc (by kernel_rfl) (known_cons kqdd (by kernel_rfl) (known_cons kqde (by kernel_rfl) (known_cons kqcd (by kernel_rfl) (known_cons kqdv (by kernel_rfl) (known_cons kqdf (by kernel_rfl) known_nil)))))))))))) (by kernel_rfl) (by kernel_rfl) (by kernel_rfl)
def dqbs : FD := { fn := 109, nb := 1, pre := ⟨[.sc (.pt 0 0)], [.bx [.fz 5 false 0, .i .i64 1]]⟩, post := ⟨[.ag [.i .i64 0, .i .i64 1, .fz 9 true 2, .ow 1, .i .i64 3, .i .i64 4, .i .i64 5, .i .i64 6, .fz 90 true 7, .ow 2, .ow 3, .i .i64 8, .fz 9 true 9, .fz 9 true 10, .i .i64 11, .i .i64 12, .i .i64 13]], [.bx [.fz 5 false 14, .i .i64 15], .rw 9 true 16, .rw 156 true 17, .rw 158 true 18]⟩, sh := true, cuts := [⟨8, [0, 2, 4, 6], ⟨[.sc (.pt 0 0), .sc (.pt 1 0), .sc (.pt 2 0), .sc (.i .i64 0)], [.bx [.fz 5 false 1, .i .i64 2], .bx [.i .i64 3, .i .i64 4, .ow 3, .ow 4, .i .i64 5, .i .i64 6, .i .i64 7, .i .i64 8, .ow 5, .ow 6, .ow 7, .i .i64 9, .ow 8, .ow 9, .i .i64 10, .i .i64 11, .i .i64 12], .bx [.i .i64 13, .i .i64 14, .fz 9 true 15, .ow 10, .i .i64 16, .i .i64 17, .i .i64 18, .i .i64 19, .fz 90 true 20, .ow 11, .ow 12, .i .i64 21, .fz 9 true 22, .fz 9 true 23, .i .i64 24, .i .i64 25, .i .i64 26], .rw 9 true 27, .rw 9 true 28, .rw 90 true 29, .rw 156 true 30, .rw 158 true 31, .rw 9 true 32, .rw 9 true 33, .rw 9 true 34, .rw 156 true 35, .rw 158 true 36]⟩⟩] }
noncomputable def Lqbs : Option Nat → Lv → Option Lv := Lim Tryz.prog [dqb.sig (Lqb none), dqc9.sig (Lqc9 none), dqcg.sig (Lqcg none), dqbw.sig (Lqbw none), dqbr.sig (Lqbr none)] dqbs Tryz.f109
theorem eqbs_i (a0 : Rw) (a1 : Int) : Lqbs none [.l a0, .i a1] =
 (Lqb none [.i 6, .l a0, .i a1]).bind fun y1 =>
 cond ((g y1 0).int == 0) (
 (Lqb none [.i 60, .l ((g y1 1).list), .i ((g y1 2).int)]).bind fun y2 =>
 (Lqc9 none [.l ((g y2 1).list), .i ((g y2 2).int)]).bind fun y3 =>
 (Lqbw none [.i ((g y3 0).int), .i (IntKind.i64.wrap (20 + (g y2 0).int)), .l ([]), .l ([])]).bind fun y4 =>
 (Lqb none [.i 14, .l ((g y3 1).list), .i ((g y3 2).int)]).bind fun y5 =>
 (Lqb none [.i 6, .l ((g y5 1).list), .i ((g y5 2).int)]).bind fun y6 =>
 cond ((g y6 0).int == 0) (
 Lqbs (some 8) [.i (IntKind.i64.wrap ((g y5 0).int + 12)), .l ((g y6 1).list), .i ((g y6 2).int), .i 0, .i 0, .i 0, .i 0, .i 0, .i 0, .i 0, .i 0, .i 0, .i 0, .i ((g y4 0).int), .i ((g y4 1).int), .l ((g y4 13).list), .i ((g y4 2).int), .i ((g y4 3).int), .i ((g y4 4).int), .i ((g y4 5).int), .l ((g y4 15).list), .i ((g y4 6).int), .l ((g y4 7).list), .l ((g y4 8).list), .i ((g y4 9).int), .i ((g y4 10).int), .i ((g y4 11).int), .l [], .l [], .l [], .l [], .l [], .l [], .l [], .l ((g y4 14).list), .l ((g y4 16).list), .l ((g y4 17).list)]) (
 Lqbs (some 8) [.i ((g y5 0).int), .l ((g y6 1).list), .i ((g y6 2).int), .i 0, .i 0, .i 0, .i 0, .i 0, .i 0, .i 0, .i 0, .i 0, .i 0, .i ((g y4 0).int), .i ((g y4 1).int), .l ((g y4 13).list), .i ((g y4 2).int), .i ((g y4 3).int), .i ((g y4 4).int), .i ((g y4 5).int), .l ((g y4 15).list), .i ((g y4 6).int), .l ((g y4 7).list), .l ((g y4 8).list), .i ((g y4 9).int), .i ((g y4 10).int), .i ((g y4 11).int), .l [], .l [], .l [], .l [], .l [], .l [], .l [], .l ((g y4 14).list), .l ((g y4 16).list), .l ((g y4 17).list)])) (
 (Lqc9 none [.l ((g y1 1).list), .i ((g y1 2).int)]).bind fun y7 =>
 (Lqbw none [.i ((g y7 0).int), .i 1000000, .l ([]), .l ([])]).bind fun y8 =>
 (Lqb none [.i 14, .l ((g y7 1).list), .i ((g y7 2).int)]).bind fun y9 =>
 (Lqb none [.i 6, .l ((g y9 1).list), .i ((g y9 2).int)]).bind fun y10 =>
 cond ((g y10 0).int == 0) (
 Lqbs (some 8) [.i (IntKind.i64.wrap ((g y9 0).int + 12)), .l ((g y10 1).list), .i ((g y10 2).int), .i 0, .i 0, .i 0, .i 0, .i 0, .i 0, .i 0, .i 0, .i 0, .i 0, .i ((g y8 0).int), .i ((g y8 1).int), .l ((g y8 13).list), .i ((g y8 2).int), .i ((g y8 3).int), .i ((g y8 4).int), .i ((g y8 5).int), .l ((g y8 15).list), .i ((g y8 6).int), .l ((g y8 7).list), .l ((g y8 8).list), .i ((g y8 9).int), .i ((g y8 10).int), .i ((g y8 11).int), .l [], .l [], .l [], .l [], .l [], .l [], .l [], .l ((g y8 14).list), .l ((g y8 16).list), .l ((g y8 17).list)]) (
 Lqbs (some 8) [.i ((g y9 0).int), .l ((g y10 1).list), .i ((g y10 2).int), .i 0, .i 0, .i 0, .i 0, .i 0, .i 0, .i 0, .i 0, .i 0, .i 0, .i ((g y8 0).int), .i ((g y8 1).int), .l ((g y8 13).list), .i ((g y8 2).int), .i ((g y8 3).int), .i ((g y8 4).int), .i ((g y8 5).int), .l ((g y8 15).list), .i ((g y8 6).int), .l ((g y8 7).list), .l ((g y8 8).list), .i ((g y8 9).int), .i ((g y8 10).int), .i ((g y8 11).int), .l [], .l [], .l [], .l [], .l [], .l [], .l [], .l ((g y8 14).list), .l ((g y8 16).list), .l ((g y8 17).list)])) := (Lim_eq _ _).trans (by kernel_rfl)
theorem eqbs_8 (a0 : Int) (a1 : Rw) (a2 : Int) (a3 : Int) (a4 : Int) (a5 : Int) (a6 : Int) (a7 : Int) (a8 : Int) (a9 : Int) (a10 : Int) (a11 : Int) (a12 : Int) (a13 : Int) (a14 : Int) (a15 : Rw) (a16 : Int) (a17 : Int) (a18 : Int) (a19 : Int) (a20 : Rw) (a21 : Int) (a22 : Rw) (a23 : Rw) (a24 : Int) (a25 : Int) (a26 : Int) (a27 : Rw) (a28 : Rw) (a29 : Rw) (a30 : Rw) (a31 : Rw) (a32 : Rw) (a33 : Rw) (a34 : Rw) (a35 : Rw) (a36 : Rw) : Lqbs (some 8) [.i a0, .l a1, .i a2, .i a3, .i a4, .i a5, .i a6, .i a7, .i a8, .i a9, .i a10, .i a11, .i a12, .i a13, .i a14, .l a15, .i a16, .i a17, .i a18, .i a19, .l a20, .i a21, .l a22, .l a23, .i a24, .i a25, .i a26, .l a27, .l a28, .l a29, .l a30, .l a31, .l a32, .l a33, .l a34, .l a35, .l a36] =
 cond (decide (0 < a0)) (
 (Lqcg none [.l a1, .i a2]).bind fun y1 =>
 (Lqbr none [.i a13, .i a14, .l a15, .i a16, .i a17, .i a18, .i a19, .l a20, .i a21, .l a22, .l a23, .i a24, .i a25, .i a26, .i ((g y1 0).int), .s ((g y1 1).str), .i ((g y1 2).int), .s ((g y1 3).str), .i ((g y1 4).int), .i ((g y1 5).int), .l a34, .l a35, .l a36]).bind fun y2 =>
 Lqbs (some 8) [.i (IntKind.i64.wrap (a0 - 1)), .l ((g y1 6).list), .i ((g y1 7).int), .i a3, .i a4, .i a5, .i a6, .i a7, .i a8, .i a9, .i a10, .i a11, .i a12, .i ((g y2 0).int), .i ((g y2 1).int), .l ((g y2 2).list), .i ((g y2 3).int), .i ((g y2 4).int), .i ((g y2 5).int), .i ((g y2 6).int), .l ((g y2 7).list), .i ((g y2 8).int), .l ((g y2 9).list), .l ((g y2 10).list), .i ((g y2 11).int), .i ((g y2 12).int), .i ((g y2 13).int), .l a27, .l a28, .l a29, .l a30, .l a31, .l a32, .l a33, .l ((g y2 14).list), .l ((g y2 15).list), .l ((g y2 16).list)]) (
 some [.i a13, .i a14, .l a15, .i a16, .i a17, .i a18, .i a19, .l a20, .i a21, .l a22, .l a23, .i a24, .i a25, .i a26, .l a1, .i a2, .l a34, .l a35, .l a36]) := (Lim_eq _ _).trans (by kernel_rfl)
theorem kqbs : SigOk Tryz.prog (dqbs.sig (Lqbs none)) ∧ (dqbs.sig (Lqbs none)).ok = true := sound_lim (known_cons kqb (by kernel_rfl) (known_cons kqc9 (by kernel_rfl) (known_cons kqcg (by kernel_rfl) (known_cons kqbw (by kernel_rfl) (known_cons kqbr (by kernel_rfl) known_nil))))) (by kernel_rfl) (by kernel_rfl) (by kernel_rfl)
def dqbe : FD := { fn := 223, nb := 0, pre := ⟨[.sc (.i .i64 0)], []⟩, post := ⟨[.sc (.s 0)], []⟩, sh := false, cuts := [] }
noncomputable def Rqbe (n : Nat) : Option Nat → Lv → Option Lv := Nat.rec (fun _ _ => none) (fun _ r => Lim Tryz.prog [dqbe.sig (r none)] dqbe Tryz.f223) n
theorem eqbe_i (m : Nat) (a0 : Int) : Rqbe (m + 1) none [.i a0] =
 cond (decide (a0 < 10)) (
 some [.s (bytesOf ([[.i (IntKind.u8.wrap (IntKind.i64.wrap (48 + a0)))]] : Rw))]) (
 (Rqbe m none [.i (IntKind.i64.wrap (a0.tdiv 10))]).bind fun y1 =>
 cond (decide (((g y1 0).str).size + (bytesOf ([[.i (IntKind.u8.wrap (IntKind.i64.wrap (48 + (a0.tmod 10))))]] : Rw)).size ≤ most)) (
 some [.s (((g y1 0).str) ++ (bytesOf ([[.i (IntKind.u8.wrap (IntKind.i64.wrap (48 + (a0.tmod 10))))]] : Rw)))]) (
 none)) := (Lim_eq _ _).trans (by kernel_rfl)
theorem kRqbe : ∀ n, SigOk Tryz.prog (dqbe.sig (Rqbe n none)) ∧ (dqbe.sig (Rqbe n none)).ok = true
 | 0 => ⟨(fun w args x y X0 h1 h2 h3 h4 h5 h6 => nomatch h6), by kernel_rfl⟩
 | n + 1 => sound_lim (known_cons (kRqbe n) (by kernel_rfl) known_nil) (by kernel_rfl) (by kernel_rfl) (by kernel_rfl)
noncomputable def Lqbe : Option Nat → Lv → Option Lv := Rqbe 20
theorem kqbe : SigOk Tryz.prog (dqbe.sig (Lqbe none)) ∧ (dqbe.sig (Lqbe none)).ok = true := kRqbe 20
def dqbg : FD := { fn := 196, nb := 0, pre := ⟨[.sc (.i .i64 0), .sc (.b 1)], []⟩, post := ⟨[.ag [.i .i64 0, .i .i64 1, .i .i64 2, .i .i64 3, .ow 0, .ow 1, .ow 2]], [.rw 90 true 4, .rw 156 true 5, .rw 158 true 6]⟩, sh := false, cuts := [⟨4, [0, 1, 4, 5, 6, 7], ⟨[.sc (.i .i64 0), .sc (.b 1), .sc (.pt 0 0), .sc (.pt 1 0), .sc (.s 2), .sc (.i .i64 3)], [.bx [.i .i64 4, .i .i64 5, .i .i64 6, .i .i64 7, .ow 2, .ow 3, .ow 4], .bx [.i .i64 8, .i .i64 9, .i .i64 10, .i .i64 11, .ow 5, .ow 6, .ow 7], .rw 90 true 12, .rw 156 true 13, .rw 158 true 14, .rw 90 true 15, .rw 156 true 16, .rw 158 true 17]⟩⟩, ⟨11, [0, 1, 4, 5, 6, 7, 8, 9], ⟨[.sc (.i .i64 0), .sc (.b 1), .sc (.pt 0 0), .sc (.pt 1 0), .sc (.s 2), .sc (.i .i64 3), .sc (.pt 2 0), .sc (.i .i64 4)], [.bx [.i .i64 5, .i .i64 6, .i .i64 7, .i .i64 8, .ow 3, .ow 4, .ow 5], .bx [.i .i64 9, .i .i64 10, .i .i64 11, .i .i64 12, .ow 6, .ow 7, .ow 8], .bx [.s 13, .ow 9], .rw 90 true 14, .rw 156 true 15, .rw 158 true 16, .rw 90 true 17, .rw 156 true 18, .rw 158 true 19, .rw 9 true 20]⟩⟩] }
noncomputable def Lqbg : Option Nat → Lv → Option Lv := Lim Tryz.prog [dqi.sig (Lqi none), dqe.sig (Lqe none), dqbe.sig (Lqbe none)] dqbg Tryz.f196
theorem eqbg_i (a0 : Int) (a1 : Bool) : Lqbg none [.i a0, .b a1] =
 Lqbg (some 4) [.i a0, .b a1, .s (⟨#[]⟩ : ByteArray), .i 1, .i 0, .i 0, .i 0, .i 0, .i 8, .i 0, .i 0, .i a0, .l [], .l [], .l [], .l [], .l [], .l []] := (Lim_eq _ _).trans (by kernel_rfl)
theorem eqbg_4 (a0 : Int) (a1 : Bool) (a2 : ByteArray) (a3 : Int) (a4 : Int) (a5 : Int) (a6 : Int) (a7 : Int) (a8 : Int) (a9 : Int) (a10 : Int) (a11 : Int) (a12 : Rw) (a13 : Rw) (a14 : Rw) (a15 : Rw) (a16 : Rw) (a17 : Rw) : Lqbg (some 4) [.i a0, .b a1, .s a2, .i a3, .i a4, .i a5, .i a6, .i a7, .i a8, .i a9, .i a10, .i a11, .l a12, .l a13, .l a14, .l a15, .l a16, .l a17] =
 cond (decide (a3 ≤ a0)) (
 (Lqbe none [.i a3]).bind fun y1 =>
 cond (!a1) (
 cond (!Eng.seq a2 (⟨#[]⟩ : ByteArray)) (
 (Lqi none [.s ((g y1 0).str), .l ([[.s a2]] : Rw), .i 8]).bind fun y2 =>
 (Lqe none [.s ((g y2 0).str), .i 8]).bind fun y3 =>
 Lqbg (some 11) [.i a0, .b a1, .s ((g y3 0).str), .i a3, .i 0, .i a4, .i a5, .i a6, .i a7, .i a8, .i a9, .i a10, .i a11, .s ((g y1 0).str), .l a12, .l a13, .l a14, .l a15, .l a16, .l a17, .l ([[.s a2]] : Rw)]) (
 (Lqi none [.s ((g y1 0).str), .l ([]), .i 8]).bind fun y4 =>
 (Lqe none [.s ((g y4 0).str), .i 8]).bind fun y5 =>
 Lqbg (some 11) [.i a0, .b a1, .s ((g y5 0).str), .i a3, .i 0, .i a4, .i a5, .i a6, .i a7, .i a8, .i a9, .i a10, .i a11, .s ((g y1 0).str), .l a12, .l a13, .l a14, .l a15, .l a16, .l a17, .l []])) (
 (Lqi none [.s ((g y1 0).str), .l ([]), .i 8]).bind fun y6 =>
 (Lqe none [.s ((g y6 0).str), .i 8]).bind fun y7 =>
 Lqbg (some 11) [.i a0, .b a1, .s ((g y7 0).str), .i a3, .i 0, .i a4, .i a5, .i a6, .i a7, .i a8, .i a9, .i a10, .i a11, .s ((g y1 0).str), .l a12, .l a13, .l a14, .l a15, .l a16, .l a17, .l []])) (
 some [.i a8, .i a9, .i a10, .i a11, .l a15, .l a16, .l a17]) := (Lim_eq _ _).trans (by kernel_rfl)
theorem eqbg_11 (a0 : Int) (a1 : Bool) (a2 : ByteArray) (a3 : Int) (a4 : Int) (a5 : Int) (a6 : Int) (a7 : Int) (a8 : Int) (a9 : Int) (a10 : Int) (a11 : Int) (a12 : Int) (a13 : ByteArray) (a14 : Rw) (a15 : Rw) (a16 : Rw) (a17 : Rw) (a18 : Rw) (a19 : Rw) (a20 : Rw) : Lqbg (some 11) [.i a0, .b a1, .s a2, .i a3, .i a4, .i a5, .i a6, .i a7, .i a8, .i a9, .i a10, .i a11, .i a12, .s a13, .l a14, .l a15, .l a16, .l a17, .l a18, .l a19, .l a20] =
 cond (decide (a4 < (a17.length : Int))) (
 cond (inb a4 a17.length) (
 cond (slt ((rd a17 a4.toNat 0).str) a2) (
 Lqbg (some 11) [.i a0, .b a1, .s a2, .i a3, .i (IntKind.i64.wrap (a4 + 1)), .i a5, .i a6, .i a7, .i a8, .i a9, .i a10, .i a11, .i a12, .s a13, .l a14, .l a15, .l a16, .l a17, .l a18, .l a19, .l a20]) (
 cond (decide (0 ≤ a4)) (
 cond (decide (a4 ≤ (a17.length : Int))) (
 cond (decide (([] : Rw).length + (Eng.sub a17 0 a4.toNat).length ≤ most)) (
 cond (decide ((([] : Rw) ++ (Eng.sub a17 0 a4.toNat)).length + ([[.s a2, .i a3, .s a13, .l a20]] : Rw).length ≤ most)) (
 cond (decide (0 ≤ a4)) (
 cond (decide (a4 ≤ (a17.length : Int))) (
 cond (decide (((([] : Rw) ++ (Eng.sub a17 0 a4.toNat)) ++ ([[.s a2, .i a3, .s a13, .l a20]] : Rw)).length + (Eng.sub a17 a4.toNat a17.length).length ≤ most)) (
 Lqbg (some 4) [.i a0, .b a1, .s a2, .i (IntKind.i64.wrap (a3 + 1)), .i a5, .i a6, .i a7, .i a8, .i a9, .i a10, .i a11, .i a12, .l a14, .l a15, .l a16, .l (((([] : Rw) ++ (Eng.sub a17 0 a4.toNat)) ++ ([[.s a2, .i a3, .s a13, .l a20]] : Rw)) ++ (Eng.sub a17 a4.toNat a17.length)), .l a18, .l a19]) (
 none)) (
 none)) (
 none)) (
 none)) (
 none)) (
 none)) (
 none))) (
 none)) (
 cond (decide (0 ≤ a4)) (
 cond (decide (a4 ≤ (a17.length : Int))) (
 cond (decide (([] : Rw).length + (Eng.sub a17 0 a4.toNat).length ≤ most)) (
 cond (decide ((([] : Rw) ++ (Eng.sub a17 0 a4.toNat)).length + ([[.s a2, .i a3, .s a13, .l a20]] : Rw).length ≤ most)) (
 cond (decide (0 ≤ a4)) (
 cond (decide (a4 ≤ (a17.length : Int))) (
 cond (decide (((([] : Rw) ++ (Eng.sub a17 0 a4.toNat)) ++ ([[.s a2, .i a3, .s a13, .l a20]] : Rw)).length + (Eng.sub a17 a4.toNat a17.length).length ≤ most)) (
 Lqbg (some 4) [.i a0, .b a1, .s a2, .i (IntKind.i64.wrap (a3 + 1)), .i a5, .i a6, .i a7, .i a8, .i a9, .i a10, .i a11, .i a12, .l a14, .l a15, .l a16, .l (((([] : Rw) ++ (Eng.sub a17 0 a4.toNat)) ++ ([[.s a2, .i a3, .s a13, .l a20]] : Rw)) ++ (Eng.sub a17 a4.toNat a17.length)), .l a18, .l a19]) (
 none)) (
 none)) (
 none)) (
 none)) (
 none)) (
 none)) (
 none)) := (Lim_eq _ _).trans (by kernel_rfl)
theorem kqbg : SigOk Tryz.prog (dqbg.sig (Lqbg none)) ∧ (dqbg.sig (Lqbg none)).ok = true := sound_lim (known_cons kqi (by kernel_rfl) (known_cons kqe (by kernel_rfl) (known_cons kqbe (by kernel_rfl) known_nil))) (by kernel_rfl) (by kernel_rfl) (by kernel_rfl)
end KV
end
section
set_option maxRecDepth 100000
namespace KV
open Go Go.Eng Go.Proofs
def dqdg : FD := { fn := 195, nb := 1, pre := ⟨[.sc (.pt 0 0), .ag [.i .i64 0, .i .i64 1, .i .i64 2, .i .i64 3, .fz 90 false 4, .fz 156 false 5, .fz 158 false 6]], [.bx [.fz 5 false 7, .i .i64 8]]⟩, post := ⟨[.ag [.i .i64 0, .i .i64 1, .i .i64 2, .i .i64 3, .ow 1, .ow 2, .ow 3]], [.bx [.fz 5 false 4, .i .i64 5], .rw 90 true 6, .rw 156 true 7, .rw 158 true 8]⟩, sh := true, cuts := [] }
noncomputable def Lqdg : Option Nat → Lv → Option Lv := Lim Tryz.prog [dqb.sig (Lqb none), dqb2.sig (Lqb2 none), dqe.sig (Lqe none), dqo.sig (Lqo none), dqbg.sig (Lqbg none)] dqdg Tryz.f195
theorem eqdg_i (a0 : Int) (a1 : Int) (a2 : Int) (a3 : Int) (a4 : Rw) (a5 : Rw) (a6 : Rw) (a7 : Rw) (a8 : Int) : Lqdg none [.i a0, .i a1, .i a2, .i a3, .l a4, .l a5, .l a6, .l a7, .i a8] =
 (Lqo none [.i a0, .i a1, .i a2, .i a3, .l a4, .l a5, .l a6]).bind fun y1 =>
 (Lqb none [.i (((g y1 4).list).length : Int), .l a7, .i a8]).bind fun y2 =>
 (Lqb none [.i 12, .l ((g y2 1).list), .i ((g y2 2).int)]).bind fun y3 =>
 cond ((g y3 0).int == 0) (
 (Lqb none [.i 11, .l ((g y3 1).list), .i ((g y3 2).int)]).bind fun y4 =>
 some [.i (IntKind.i64.wrap ((g y4 0).int - 1)), .i ((g y1 1).int), .i ((g y1 2).int), .i ((g y1 3).int), .l ((g y4 1).list), .i ((g y4 2).int), .l ((g y1 4).list), .l ((g y1 5).list), .l ((g y1 6).list)]) (
 cond ((g y3 0).int == 1) (
 (Lqb none [.i 3, .l ((g y3 1).list), .i ((g y3 2).int)]).bind fun y5 =>
 cond (inb ((g y5 0).int) (([[.i (-1)], [.i 1000000000], [.i 1000000001]] : Rw).length)) (
 some [.i ((g y1 0).int), .i ((rd ([[.i (-1)], [.i 1000000000], [.i 1000000001]] : Rw) (((g y5 0).int).toNat) 0).int), .i ((g y1 2).int), .i ((g y1 3).int), .l ((g y5 1).list), .i ((g y5 2).int), .l ((g y1 4).list), .l ((g y1 5).list), .l ((g y1 6).list)]) (
 none)) (
 cond ((g y3 0).int == 2) (
 (Lqb none [.i 5, .l ((g y3 1).list), .i ((g y3 2).int)]).bind fun y6 =>
 cond (inb ((g y6 0).int) (([[.i (-1)], [.i 0], [.i 1], [.i 1000000000], [.i 1000000001]] : Rw).length)) (
 some [.i ((g y1 0).int), .i ((g y1 1).int), .i ((g y1 2).int), .i ((rd ([[.i (-1)], [.i 0], [.i 1], [.i 1000000000], [.i 1000000001]] : Rw) (((g y6 0).int).toNat) 0).int), .l ((g y6 1).list), .i ((g y6 2).int), .l ((g y1 4).list), .l ((g y1 5).list), .l ((g y1 6).list)]) (
 none)) (
 cond ((g y3 0).int == 3) (
 (Lqb none [.i 4, .l ((g y3 1).list), .i ((g y3 2).int)]).bind fun y7 =>
 cond (inb ((g y7 0).int) (([[.i (-1)], [.i 0], [.i 1000000000], [.i 1000000001]] : Rw).length)) (
 some [.i ((g y1 0).int), .i ((g y1 1).int), .i ((rd ([[.i (-1)], [.i 0], [.i 1000000000], [.i 1000000001]] : Rw) (((g y7 0).int).toNat) 0).int), .i ((g y1 3).int), .l ((g y7 1).list), .i ((g y7 2).int), .l ((g y1 4).list), .l ((g y1 5).list), .l ((g y1 6).list)]) (
 none)) (
 cond ((g y3 0).int == 4) (
 cond (decide (0 < (((g y1 4).list).length : Int))) (
 cond (inb ((g y2 0).int) (((g y1 4).list).length)) (
 (Lqb2 none [.s ((rd ((g y1 4).list) (((g y2 0).int).toNat) 2).str), .l ((rd ((g y1 4).list) (((g y2 0).int).toNat) 3).list), .l ((g y3 1).list), .i ((g y3 2).int)]).bind fun y8 =>
 cond (inb ((g y2 0).int) (((g y1 4).list).length)) (
 some [.i ((g y1 0).int), .i ((g y1 1).int), .i ((g y1 2).int), .i ((g y1 3).int), .l ((g y8 1).list), .i ((g y8 2).int), .l (wrs ((g y1 4).list) (((g y2 0).int).toNat) 2 ([.s ((g y8 0).str), .l ((g y8 3).list)] : List C)), .l ((g y1 5).list), .l ((g y1 6).list)]) (
 none)) (
 none)) (
 some [.i ((g y1 0).int), .i ((g y1 1).int), .i ((g y1 2).int), .i ((g y1 3).int), .l ((g y3 1).list), .i ((g y3 2).int), .l ((g y1 4).list), .l ((g y1 5).list), .l ((g y1 6).list)])) (
 cond ((g y3 0).int == 5) (
 cond (decide (1 < (((g y1 4).list).length : Int))) (
 cond (inb 1 (((g y1 4).list).length)) (
 cond (inb 0 (((g y1 4).list).length)) (
 some [.i ((g y1 0).int), .i ((g y1 1).int), .i ((g y1 2).int), .i ((g y1 3).int), .l ((g y3 1).list), .i ((g y3 2).int), .l (wrs ((g y1 4).list) 0 1 ([.i ((rd ((g y1 4).list) 1 1).int)] : List C)), .l ((g y1 5).list), .l ((g y1 6).list)]) (
 none)) (
 none)) (
 some [.i ((g y1 0).int), .i ((g y1 1).int), .i ((g y1 2).int), .i ((g y1 3).int), .l ((g y3 1).list), .i ((g y3 2).int), .l ((g y1 4).list), .l ((g y1 5).list), .l ((g y1 6).list)])) (
 cond ((g y3 0).int == 6) (
 cond (decide (0 < (((g y1 4).list).length : Int))) (
 cond (decide (0 ≤ (g y2 0).int)) (
 cond (decide ((g y2 0).int ≤ (((g y1 4).list).length : Int))) (
 cond (decide (([] : Rw).length + (Eng.sub ((g y1 4).list) 0 ((g y2 0).int).toNat).length ≤ most)) (
 cond (decide (0 ≤ (IntKind.i64.wrap ((g y2 0).int + 1)))) (
 cond (decide ((IntKind.i64.wrap ((g y2 0).int + 1)) ≤ (((g y1 4).list).length : Int))) (
 cond (decide ((([] : Rw) ++ (Eng.sub ((g y1 4).list) 0 ((g y2 0).int).toNat)).length + (Eng.sub ((g y1 4).list) (IntKind.i64.wrap ((g y2 0).int + 1)).toNat ((g y1 4).list).length).length ≤ most)) (
 some [.i ((g y1 0).int), .i ((g y1 1).int), .i ((g y1 2).int), .i ((g y1 3).int), .l ((g y3 1).list), .i ((g y3 2).int), .l ((([] : Rw) ++ (Eng.sub ((g y1 4).list) 0 ((g y2 0).int).toNat)) ++ (Eng.sub ((g y1 4).list) (IntKind.i64.wrap ((g y2 0).int + 1)).toNat ((g y1 4).list).length)), .l ((g y1 5).list), .l ((g y1 6).list)]) (
 none)) (
 none)) (
 none)) (
 none)) (
 none)) (
 none)) (
 some [.i ((g y1 0).int), .i ((g y1 1).int), .i ((g y1 2).int), .i ((g y1 3).int), .l ((g y3 1).list), .i ((g y3 2).int), .l ((g y1 4).list), .l ((g y1 5).list), .l ((g y1 6).list)])) (
 cond ((g y3 0).int == 7) (
 (Lqb none [.i 4, .l ((g y3 1).list), .i ((g y3 2).int)]).bind fun y9 =>
 cond (inb ((g y9 0).int) (([[.s (⟨#[112]⟩ : ByteArray)], [.s (⟨#[122]⟩ : ByteArray)], [.s (⟨#[]⟩ : ByteArray)], [.s (⟨#[120, 32, 121]⟩ : ByteArray)]] : Rw).length)) (
 (Lqe none [.s (⟨#[113]⟩ : ByteArray), .i a0]).bind fun y10 =>
 cond (decide (((g y1 5).list).length + ([[.s ((rd ([[.s (⟨#[112]⟩ : ByteArray)], [.s (⟨#[122]⟩ : ByteArray)], [.s (⟨#[]⟩ : ByteArray)], [.s (⟨#[120, 32, 121]⟩ : ByteArray)]] : Rw) (((g y9 0).int).toNat) 0).str), .s ((g y10 0).str)]] : Rw).length ≤ most)) (
 some [.i ((g y1 0).int), .i ((g y1 1).int), .i ((g y1 2).int), .i ((g y1 3).int), .l ((g y9 1).list), .i ((g y9 2).int), .l ((g y1 4).list), .l ((g y1 5).list ++ ([[.s ((rd ([[.s (⟨#[112]⟩ : ByteArray)], [.s (⟨#[122]⟩ : ByteArray)], [.s (⟨#[]⟩ : ByteArray)], [.s (⟨#[120, 32, 121]⟩ : ByteArray)]] : Rw) (((g y9 0).int).toNat) 0).str), .s ((g y10 0).str)]] : Rw)), .l ((g y1 6).list)]) (
 none)) (
 none)) (
 cond ((g y3 0).int == 8) (
 cond (decide (0 < (((g y1 4).list).length : Int))) (
 (Lqb none [.i 2, .l ((g y3 1).list), .i ((g y3 2).int)]).bind fun y11 =>
 cond (inb ((g y11 0).int) (([[.s (⟨#[97]⟩ : ByteArray)], [.s (⟨#[122]⟩ : ByteArray)]] : Rw).length)) (
 cond (inb ((g y2 0).int) (((g y1 4).list).length)) (
 cond (decide (((g y1 5).list).length + ([[.s ((rd ([[.s (⟨#[97]⟩ : ByteArray)], [.s (⟨#[122]⟩ : ByteArray)]] : Rw) (((g y11 0).int).toNat) 0).str), .s ((rd ((g y1 4).list) (((g y2 0).int).toNat) 0).str)]] : Rw).length ≤ most)) (
 some [.i ((g y1 0).int), .i ((g y1 1).int), .i ((g y1 2).int), .i ((g y1 3).int), .l ((g y11 1).list), .i ((g y11 2).int), .l ((g y1 4).list), .l ((g y1 5).list ++ ([[.s ((rd ([[.s (⟨#[97]⟩ : ByteArray)], [.s (⟨#[122]⟩ : ByteArray)]] : Rw) (((g y11 0).int).toNat) 0).str), .s ((rd ((g y1 4).list) (((g y2 0).int).toNat) 0).str)]] : Rw)), .l ((g y1 6).list)]) (
 none)) (
 none)) (
 none)) (
 some [.i ((g y1 0).int), .i ((g y1 1).int), .i ((g y1 2).int), .i ((g y1 3).int), .l ((g y3 1).list), .i ((g y3 2).int), .l ((g y1 4).list), .l ((g y1 5).list), .l ((g y1 6).list)])) (
 cond ((g y3 0).int == 9) (
 cond (decide (0 < (((g y1 6).list).length : Int))) (
 (Lqb none [.i 4, .l ((g y3 1).list), .i ((g y3 2).int)]).bind fun y12 =>
 cond (inb ((g y12 0).int) (([[.i 0], [.i 1], [.i 100000], [.i 100001]] : Rw).length)) (
 cond (inb 0 (((g y1 6).list).length)) (
 some [.i ((g y1 0).int), .i ((g y1 1).int), .i ((g y1 2).int), .i ((g y1 3).int), .l ((g y12 1).list), .i ((g y12 2).int), .l ((g y1 4).list), .l ((g y1 5).list), .l (wrs ((g y1 6).list) 0 2 ([.i (IntKind.i64.wrap ((g y1 1).int + (rd ([[.i 0], [.i 1], [.i 100000], [.i 100001]] : Rw) (((g y12 0).int).toNat) 0).int))] : List C))]) (
 none)) (
 none)) (
 some [.i ((g y1 0).int), .i ((g y1 1).int), .i ((g y1 2).int), .i ((g y1 3).int), .l ((g y3 1).list), .i ((g y3 2).int), .l ((g y1 4).list), .l ((g y1 5).list), .l ((g y1 6).list)])) (
 cond ((g y3 0).int == 10) (
 cond (decide (0 < (((g y1 6).list).length : Int))) (
 (Lqb none [.i 3, .l ((g y3 1).list), .i ((g y3 2).int)]).bind fun y13 =>
 cond (inb ((g y13 0).int) (([[.i 0], [.i ((g y1 2).int)], [.i (IntKind.i64.wrap ((g y1 2).int + 1))]] : Rw).length)) (
 cond (inb 0 (((g y1 6).list).length)) (
 some [.i ((g y1 0).int), .i ((g y1 1).int), .i ((g y1 2).int), .i ((g y1 3).int), .l ((g y13 1).list), .i ((g y13 2).int), .l ((g y1 4).list), .l ((g y1 5).list), .l (wrs ((g y1 6).list) 0 0 ([.i ((rd ([[.i 0], [.i ((g y1 2).int)], [.i (IntKind.i64.wrap ((g y1 2).int + 1))]] : Rw) (((g y13 0).int).toNat) 0).int)] : List C))]) (
 none)) (
 none)) (
 some [.i ((g y1 0).int), .i ((g y1 1).int), .i ((g y1 2).int), .i ((g y1 3).int), .l ((g y3 1).list), .i ((g y3 2).int), .l ((g y1 4).list), .l ((g y1 5).list), .l ((g y1 6).list)])) (
 (Lqb none [.i 2, .l ((g y3 1).list), .i ((g y3 2).int)]).bind fun y14 =>
 (Lqb none [.i 2, .l ((g y14 1).list), .i ((g y14 2).int)]).bind fun y15 =>
 (Lqbg none [.i (IntKind.i64.wrap (600 + (g y14 0).int)), .b ((g y15 0).int == 0)]).bind fun y16 =>
 some [.i ((g y16 0).int), .i ((g y16 1).int), .i ((g y16 2).int), .i ((g y16 3).int), .l ((g y15 1).list), .i ((g y15 2).int), .l ((g y16 4).list), .l ((g y16 5).list), .l ((g y16 6).list)]))))))))))) := (Lim_eq _ _).trans (by kernel_rfl)
theorem kqdg : SigOk Tryz.prog (dqdg.sig (Lqdg none)) ∧ (dqdg.sig (Lqdg none)).ok = true := sound_lim (known_cons kqb (by kernel_rfl) (known_cons kqb2 (by kernel_rfl) (known_cons kqe (by kernel_rfl) (known_cons kqo (by kernel_rfl) (known_cons kqbg (by kernel_rfl) known_nil))))) (by kernel_rfl) (by kernel_rfl) (by kernel_rfl)
def dqd : FD := { fn := 126, nb := 0, pre := ⟨[.ag [.i .i64 0, .i .i64 1, .i .i64 2, .i .i64 3, .fz 90 false 4, .fz 156 false 5, .fz 158 false 6]], []⟩, post := ⟨[.sc (.b 0)], []⟩, sh := false, cuts := [⟨4, [1, 3, 4, 5], ⟨[.sc (.pt 0 0), .sc (.ow 1), .sc (.ow 2), .sc (.i .i64 0)], [.bx [.i .i64 1, .i .i64 2, .i .i64 3, .i .i64 4, .fz 90 false 5, .fz 156 false 6, .fz 158 false 7], .rw 4 true 8, .rw 3 true 9]⟩⟩, ⟨14, [1, 3, 4, 5, 6, 7], ⟨[.sc (.pt 0 0), .sc (.ow 1), .sc (.ow 2), .sc (.i .i64 0), .sc (.pt 3 0), .sc (.i .i64 1)], [.bx [.i .i64 2, .i .i64 3, .i .i64 4, .i .i64 5, .fz 90 false 6, .fz 156 false 7, .fz 158 false 8], .rw 4 true 9, .rw 3 true 10, .bx [.s 11, .i .i64 12, .s 13, .fz 9 false 14]]⟩⟩, ⟨20, [1, 8], ⟨[.sc (.pt 0 0), .sc (.i .i64 0)], [.bx [.i .i64 1, .i .i64 2, .i .i64 3, .i .i64 4, .fz 90 false 5, .fz 156 false 6, .fz 158 false 7]]⟩⟩, ⟨23, [1, 8, 9], ⟨[.sc (.pt 0 0), .sc (.i .i64 0), .sc (.i .i64 1)], [.bx [.i .i64 2, .i .i64 3, .i .i64 4, .i .i64 5, .fz 90 false 6, .fz 156 false 7, .fz 158 false 8]]⟩⟩] }
noncomputable def Lqd : Option Nat → Lv → Option Lv := Lim Tryz.prog [dq5.sig (Lq5 none), dqi.sig (Lqi none), dqe.sig (Lqe none), dqg.sig (Lqg none), dqy.sig (Lqy none)] dqd Tryz.f126
theorem eqd_i (a0 : Int) (a1 : Int) (a2 : Int) (a3 : Int) (a4 : Rw) (a5 : Rw) (a6 : Rw) : Lqd none [.i a0, .i a1, .i a2, .i a3, .l a4, .l a5, .l a6] =
 Lqd (some 4) [.i 0, .i a0, .i a1, .i a2, .i a3, .l a4, .l a5, .l a6, .l (List.replicate 601 ([.b false] : List C)), .l ([] : Rw)] := (Lim_eq _ _).trans (by kernel_rfl)
theorem eqd_4 (a0 : Int) (a1 : Int) (a2 : Int) (a3 : Int) (a4 : Int) (a5 : Rw) (a6 : Rw) (a7 : Rw) (a8 : Rw) (a9 : Rw) : Lqd (some 4) [.i a0, .i a1, .i a2, .i a3, .i a4, .l a5, .l a6, .l a7, .l a8, .l a9] =
 cond (decide (a0 < (a5.length : Int))) (
 cond (inb a0 a5.length) (
 (Lq5 none [.s ((rd a5 a0.toNat 2).str), .l ((rd a5 a0.toNat 3).list), .i a1]).bind fun y1 =>
 cond (!(g y1 0).bool) (
 some [.b false]) (
 (Lqi none [.s ((rd a5 a0.toNat 2).str), .l ((rd a5 a0.toNat 3).list), .i a1]).bind fun y2 =>
 (Lqe none [.s ((g y2 0).str), .i a1]).bind fun y3 =>
 cond (!Eng.seq ((rd a5 a0.toNat 0).str) ((g y3 0).str)) (
 some [.b false]) (
 cond (decide (0 < a0)) (
 cond (inb (IntKind.i64.wrap (a0 - 1)) a5.length) (
 cond (!slt ((rd a5 ((IntKind.i64.wrap (a0 - 1)).toNat) 0).str) ((rd a5 a0.toNat 0).str)) (
 some [.b false]) (
 (Lqy none [.i ((rd a5 a0.toNat 1).int), .i 1, .i a4]).bind fun y4 =>
 cond (!(g y4 0).bool) (
 some [.b false]) (
 cond (decide ((rd a5 a0.toNat 1).int ≤ 600)) (
 cond (inb ((rd a5 a0.toNat 1).int) a8.length) (
 cond ((rd a8 (((rd a5 a0.toNat 1).int).toNat) 0).bool) (
 some [.b false]) (
 cond (inb ((rd a5 a0.toNat 1).int) a8.length) (
 Lqd (some 4) [.i (IntKind.i64.wrap (a0 + 1)), .i a1, .i a2, .i a3, .i a4, .l a5, .l a6, .l a7, .l (wrs a8 (((rd a5 a0.toNat 1).int).toNat) 0 ([.b true] : List C)), .l a9]) (
 none))) (
 none)) (
 Lqd (some 14) [.i a0, .i 0, .i a1, .i a2, .i a3, .i a4, .l a5, .l a6, .l a7, .l a8, .l a9, .s ((rd a5 a0.toNat 0).str), .i ((rd a5 a0.toNat 1).int), .s ((rd a5 a0.toNat 2).str), .l ((rd a5 a0.toNat 3).list)])))) (
 none)) (
 (Lqy none [.i ((rd a5 a0.toNat 1).int), .i 1, .i a4]).bind fun y5 =>
 cond (!(g y5 0).bool) (
 some [.b false]) (
 cond (decide ((rd a5 a0.toNat 1).int ≤ 600)) (
 cond (inb ((rd a5 a0.toNat 1).int) a8.length) (
 cond ((rd a8 (((rd a5 a0.toNat 1).int).toNat) 0).bool) (
 some [.b false]) (
 cond (inb ((rd a5 a0.toNat 1).int) a8.length) (
 Lqd (some 4) [.i (IntKind.i64.wrap (a0 + 1)), .i a1, .i a2, .i a3, .i a4, .l a5, .l a6, .l a7, .l (wrs a8 (((rd a5 a0.toNat 1).int).toNat) 0 ([.b true] : List C)), .l a9]) (
 none))) (
 none)) (
 Lqd (some 14) [.i a0, .i 0, .i a1, .i a2, .i a3, .i a4, .l a5, .l a6, .l a7, .l a8, .l a9, .s ((rd a5 a0.toNat 0).str), .i ((rd a5 a0.toNat 1).int), .s ((rd a5 a0.toNat 2).str), .l ((rd a5 a0.toNat 3).list)])))))) (
 none)) (
 Lqd (some 20) [.i 0, .i a1, .i a2, .i a3, .i a4, .l a5, .l a6, .l a7]) := (Lim_eq _ _).trans (by kernel_rfl)
theorem eqd_14 (a0 : Int) (a1 : Int) (a2 : Int) (a3 : Int) (a4 : Int) (a5 : Int) (a6 : Rw) (a7 : Rw) (a8 : Rw) (a9 : Rw) (a10 : Rw) (a11 : ByteArray) (a12 : Int) (a13 : ByteArray) (a14 : Rw) : Lqd (some 14) [.i a0, .i a1, .i a2, .i a3, .i a4, .i a5, .l a6, .l a7, .l a8, .l a9, .l a10, .s a11, .i a12, .s a13, .l a14] =
 cond (decide (a1 < (a10.length : Int))) (
 cond (inb a1 a10.length) (
 cond ((rd a10 a1.toNat 0).int == a12) (
 some [.b false]) (
 Lqd (some 14) [.i a0, .i (IntKind.i64.wrap (a1 + 1)), .i a2, .i a3, .i a4, .i a5, .l a6, .l a7, .l a8, .l a9, .l a10, .s a11, .i a12, .s a13, .l a14])) (
 none)) (
 cond (decide (a10.length + ([[.i a12]] : Rw).length ≤ most)) (
 Lqd (some 4) [.i (IntKind.i64.wrap (a0 + 1)), .i a2, .i a3, .i a4, .i a5, .l a6, .l a7, .l a8, .l a9, .l (a10 ++ ([[.i a12]] : Rw))]) (
 none)) := (Lim_eq _ _).trans (by kernel_rfl)
theorem eqd_20 (a0 : Int) (a1 : Int) (a2 : Int) (a3 : Int) (a4 : Int) (a5 : Rw) (a6 : Rw) (a7 : Rw) : Lqd (some 20) [.i a0, .i a1, .i a2, .i a3, .i a4, .l a5, .l a6, .l a7] =
 cond (decide (a0 < (a5.length : Int))) (
 Lqd (some 23) [.i a0, .i 0, .i a1, .i a2, .i a3, .i a4, .l a5, .l a6, .l a7]) (
 some [.b true]) := (Lim_eq _ _).trans (by kernel_rfl)
theorem eqd_23 (a0 : Int) (a1 : Int) (a2 : Int) (a3 : Int) (a4 : Int) (a5 : Int) (a6 : Rw) (a7 : Rw) (a8 : Rw) : Lqd (some 23) [.i a0, .i a1, .i a2, .i a3, .i a4, .i a5, .l a6, .l a7, .l a8] =
 cond (inb a0 a6.length) (
 cond (decide (a1 < (((rd a6 a0.toNat 3).list).length : Int))) (
 cond (inb a0 a6.length) (
 cond (inb a1 (((rd a6 a0.toNat 3).list).length)) (
 (Lqg none [.i a2, .i a3, .i a4, .i a5, .l a6, .l a7, .l a8, .s ((rd ((rd a6 a0.toNat 3).list) a1.toNat 0).str)]).bind fun y1 =>
 cond (decide ((g y1 0).int < 0)) (
 some [.b false]) (
 cond (inb ((g y1 0).int) a6.length) (
 cond (inb a0 a6.length) (
 cond (decide ((rd a6 a0.toNat 1).int ≤ (rd a6 (((g y1 0).int).toNat) 1).int)) (
 some [.b false]) (
 Lqd (some 23) [.i a0, .i (IntKind.i64.wrap (a1 + 1)), .i a2, .i a3, .i a4, .i a5, .l a6, .l a7, .l a8])) (
 none)) (
 none))) (
 none)) (
 none)) (
 Lqd (some 20) [.i (IntKind.i64.wrap (a0 + 1)), .i a2, .i a3, .i a4, .i a5, .l a6, .l a7, .l a8])) (
 none) := (Lim_eq _ _).trans (by kernel_rfl)
theorem kqd : SigOk Tryz.prog (dqd.sig (Lqd none)) ∧ (dqd.sig (Lqd none)).ok = true := sound_lim (known_cons kq5 (by kernel_rfl) (known_cons kqi (by kernel_rfl) (known_cons kqe (by kernel_rfl) (known_cons kqg (by kernel_rfl) (known_cons kqy (by kernel_rfl) known_nil))))) (by kernel_rfl) (by kernel_rfl) (by kernel_rfl)
def dqz : FD := { fn := 42, nb := 0, pre := ⟨[.ag [.i .i64 0, .i .i64 1, .i .i64 2, .i .i64 3, .fz 90 false 4, .fz 156 false 5, .fz 158 false 6]], []⟩, post := ⟨[.sc (.b 0)], []⟩, sh := false, cuts := [⟨6, [1, 3], ⟨[.sc (.pt 0 0), .sc (.i .i64 0)], [.bx [.i .i64 1, .i .i64 2, .i .i64 3, .i .i64 4, .fz 90 false 5, .fz 156 false 6, .fz 158 false 7]]⟩⟩, ⟨11, [1, 4], ⟨[.sc (.pt 0 0), .sc (.i .i64 0)], [.bx [.i .i64 1, .i .i64 2, .i .i64 3, .i .i64 4, .fz 90 false 5, .fz 156 false 6, .fz 158 false 7]]⟩⟩] }
noncomputable def Lqz : Option Nat → Lv → Option Lv := Lim Tryz.prog [dqh.sig (Lqh none), dqbq.sig (Lqbq none), dqg.sig (Lqg none), dqy.sig (Lqy none), dqd.sig (Lqd none)] dqz Tryz.f42
theorem eqz_i (a0 : Int) (a1 : Int) (a2 : Int) (a3 : Int) (a4 : Rw) (a5 : Rw) (a6 : Rw) : Lqz none [.i a0, .i a1, .i a2, .i a3, .l a4, .l a5, .l a6] =
 (Lqh none [.i a0]).bind fun y1 =>
 cond (!(g y1 0).bool) (
 some [.b false]) (
 (Lqy none [.i a1, .i 0, .i 1000000000]).bind fun y2 =>
 cond (!(g y2 0).bool) (
 some [.b false]) (
 (Lqy none [.i a2, .i 0, .i 1000000000]).bind fun y3 =>
 cond (!(g y3 0).bool) (
 some [.b false]) (
 (Lqy none [.i a3, .i 0, .i 1000000000]).bind fun y4 =>
 cond (!(g y4 0).bool) (
 some [.b false]) (
 cond (decide (600 < (a4.length : Int))) (
 some [.b false]) (
 cond (decide (100 < (a5.length : Int))) (
 some [.b false]) (
 cond (decide (200 < (a6.length : Int))) (
 some [.b false]) (
 (Lqd none [.i a0, .i a1, .i a2, .i a3, .l a4, .l a5, .l a6]).bind fun y5 =>
 cond (!(g y5 0).bool) (
 some [.b false]) (
 Lqz (some 6) [.i 0, .i a0, .i a1, .i a2, .i a3, .l a4, .l a5, .l a6])))))))) := (Lim_eq _ _).trans (by kernel_rfl)
theorem eqz_6 (a0 : Int) (a1 : Int) (a2 : Int) (a3 : Int) (a4 : Int) (a5 : Rw) (a6 : Rw) (a7 : Rw) : Lqz (some 6) [.i a0, .i a1, .i a2, .i a3, .i a4, .l a5, .l a6, .l a7] =
 cond (decide (a0 < (a6.length : Int))) (
 cond (inb a0 a6.length) (
 (Lqbq none [.s ((rd a6 a0.toNat 0).str)]).bind fun y1 =>
 cond (!(g y1 0).bool) (
 some [.b false]) (
 cond (decide (0 < a0)) (
 cond (inb (IntKind.i64.wrap (a0 - 1)) a6.length) (
 cond (inb a0 a6.length) (
 cond (!slt ((rd a6 ((IntKind.i64.wrap (a0 - 1)).toNat) 0).str) ((rd a6 a0.toNat 0).str)) (
 some [.b false]) (
 cond (inb a0 a6.length) (
 (Lqg none [.i a1, .i a2, .i a3, .i a4, .l a5, .l a6, .l a7, .s ((rd a6 a0.toNat 1).str)]).bind fun y2 =>
 cond (decide ((g y2 0).int < 0)) (
 some [.b false]) (
 Lqz (some 6) [.i (IntKind.i64.wrap (a0 + 1)), .i a1, .i a2, .i a3, .i a4, .l a5, .l a6, .l a7])) (
 none))) (
 none)) (
 none)) (
 cond (inb a0 a6.length) (
 (Lqg none [.i a1, .i a2, .i a3, .i a4, .l a5, .l a6, .l a7, .s ((rd a6 a0.toNat 1).str)]).bind fun y3 =>
 cond (decide ((g y3 0).int < 0)) (
 some [.b false]) (
 Lqz (some 6) [.i (IntKind.i64.wrap (a0 + 1)), .i a1, .i a2, .i a3, .i a4, .l a5, .l a6, .l a7])) (
 none)))) (
 none)) (
 Lqz (some 11) [.i 0, .i a1, .i a2, .i a3, .i a4, .l a5, .l a6, .l a7]) := (Lim_eq _ _).trans (by kernel_rfl)
theorem eqz_11 (a0 : Int) (a1 : Int) (a2 : Int) (a3 : Int) (a4 : Int) (a5 : Rw) (a6 : Rw) (a7 : Rw) : Lqz (some 11) [.i a0, .i a1, .i a2, .i a3, .i a4, .l a5, .l a6, .l a7] =
 cond (decide (a0 < (a7.length : Int))) (
 cond (inb a0 a7.length) (
 (Lqy none [.i ((rd a7 a0.toNat 0).int), .i 1, .i a3]).bind fun y1 =>
 cond (!(g y1 0).bool) (
 some [.b false]) (
 cond (decide (0 < a0)) (
 cond (inb (IntKind.i64.wrap (a0 - 1)) a7.length) (
 cond (decide ((rd a7 a0.toNat 0).int ≤ (rd a7 ((IntKind.i64.wrap (a0 - 1)).toNat) 0).int)) (
 some [.b false]) (
 (Lqg none [.i a1, .i a2, .i a3, .i a4, .l a5, .l a6, .l a7, .s ((rd a7 a0.toNat 1).str)]).bind fun y2 =>
 cond (decide ((g y2 0).int < 0)) (
 some [.b false]) (
 cond (decide ((rd a7 a0.toNat 2).int ≤ a2)) (
 some [.b false]) (
 cond (decide ((IntKind.i64.wrap (a2 + 100000)) < (rd a7 a0.toNat 2).int)) (
 some [.b false]) (
 Lqz (some 11) [.i (IntKind.i64.wrap (a0 + 1)), .i a1, .i a2, .i a3, .i a4, .l a5, .l a6, .l a7]))))) (
 none)) (
 (Lqg none [.i a1, .i a2, .i a3, .i a4, .l a5, .l a6, .l a7, .s ((rd a7 a0.toNat 1).str)]).bind fun y3 =>
 cond (decide ((g y3 0).int < 0)) (
 some [.b false]) (
 cond (decide ((rd a7 a0.toNat 2).int ≤ a2)) (
 some [.b false]) (
 cond (decide ((IntKind.i64.wrap (a2 + 100000)) < (rd a7 a0.toNat 2).int)) (
 some [.b false]) (
 Lqz (some 11) [.i (IntKind.i64.wrap (a0 + 1)), .i a1, .i a2, .i a3, .i a4, .l a5, .l a6, .l a7])))))) (
 none)) (
 some [.b true]) := (Lim_eq _ _).trans (by kernel_rfl)
theorem kqz : SigOk Tryz.prog (dqz.sig (Lqz none)) ∧ (dqz.sig (Lqz none)).ok = true := sound_lim (known_cons kqh (by kernel_rfl) (known_cons kqbq (by kernel_rfl) (known_cons kqg (by kernel_rfl) (known_cons kqy (by kernel_rfl) (known_cons kqd (by kernel_rfl) known_nil))))) (by kernel_rfl) (by kernel_rfl) (by kernel_rfl)
def dqdh : FD := { fn := 232, nb := 0, pre := ⟨[.ag [.i .i64 0, .i .i64 1, .i .i64 2, .i .i64 3, .fz 90 false 4, .fz 156 false 5, .fz 158 false 6], .ag [.i .i64 7, .fz 9 false 8, .fz 9 false 9, .i .i64 10, .i .i64 11, .i .i64 12]], []⟩, post := ⟨[.sc (.b 0)], []⟩, sh := false, cuts := [] }
noncomputable def Lqdh : Option Nat → Lv → Option Lv := Lim Tryz.prog [dqr.sig (Lqr none), dqz.sig (Lqz none)] dqdh Tryz.f232
theorem eqdh_i (a0 : Int) (a1 : Int) (a2 : Int) (a3 : Int) (a4 : Rw) (a5 : Rw) (a6 : Rw) (a7 : Int) (a8 : Rw) (a9 : Rw) (a10 : Int) (a11 : Int) (a12 : Int) : Lqdh none [.i a0, .i a1, .i a2, .i a3, .l a4, .l a5, .l a6, .i a7, .l a8, .l a9, .i a10, .i a11, .i a12] =
 (Lqz none [.i a0, .i a1, .i a2, .i a3, .l a4, .l a5, .l a6]).bind fun y1 =>
 cond ((g y1 0).bool) (
 (Lqr none [.i a0, .i a1, .i a2, .i a3, .l a4, .l a5, .l a6, .i a7, .l a8, .l a9, .i a10, .i a11, .i a12]).bind fun y2 =>
 some [.b ((g y2 0).bool)]) (
 some [.b false]) := (Lim_eq _ _).trans (by kernel_rfl)
theorem kqdh : SigOk Tryz.prog (dqdh.sig (Lqdh none)) ∧ (dqdh.sig (Lqdh none)).ok = true := sound_lim (known_cons kqr (by kernel_rfl) (known_cons kqz (by kernel_rfl) known_nil)) (by kernel_rfl) (by kernel_rfl) (by kernel_rfl)
def dqdi : FD := { fn := 224, nb := 0, pre := ⟨[.ag [.i .i64 0, .i .i64 1, .i .i64 2, .i .i64 3, .fz 90 false 4, .fz 156 false 5, .fz 158 false 6], .ag [.i .i64 7, .fz 9 false 8, .fz 9 false 9, .i .i64 10, .i .i64 11, .i .i64 12]], []⟩, post := ⟨[.ag [.i .i64 0, .i .i64 1, .i .i64 2, .i .i64 3, .i .i64 4, .ow 0, .ow 1, .ow 2, .i .i64 5, .fz 9 true 6, .fz 9 true 7, .i .i64 8, .i .i64 9, .i .i64 10, .ow 3]], [.rw 90 true 11, .rw 156 true 12, .rw 158 true 13, .rw 9 true 14]⟩, sh := false, cuts := [] }
noncomputable def Lqdi : Option Nat → Lv → Option Lv := Lim Tryz.prog [dqo.sig (Lqo none), dqbi.sig (Lqbi none), dqbk.sig (Lqbk none), dqdh.sig (Lqdh none)] dqdi Tryz.f224
theorem eqdi_i (a0 : Int) (a1 : Int) (a2 : Int) (a3 : Int) (a4 : Rw) (a5 : Rw) (a6 : Rw) (a7 : Int) (a8 : Rw) (a9 : Rw) (a10 : Int) (a11 : Int) (a12 : Int) : Lqdi none [.i a0, .i a1, .i a2, .i a3, .l a4, .l a5, .l a6, .i a7, .l a8, .l a9, .i a10, .i a11, .i a12] =
 (Lqdh none [.i a0, .i a1, .i a2, .i a3, .l a4, .l a5, .l a6, .i a7, .l a8, .l a9, .i a10, .i a11, .i a12]).bind fun y1 =>
 cond (!(g y1 0).bool) (
 some [.i 1, .i 0, .i 0, .i 0, .i 0, .i 0, .l ([]), .l ([]), .i 0, .i 0, .i 0, .l [], .l [], .l [], .l []]) (
 cond (decide (1000000000 ≤ a12)) (
 some [.i 1, .i 0, .i 0, .i 0, .i 0, .i 0, .l ([]), .l ([]), .i 0, .i 0, .i 0, .l [], .l [], .l [], .l []]) (
 (Lqo none [.i a0, .i a1, .i a2, .i a3, .l a4, .l a5, .l a6]).bind fun y2 =>
 (Lqbi none [.i a7, .l a8, .l a9, .i a10, .i a11, .i a12]).bind fun y3 =>
 (Lqbk none [.i ((g y2 0).int), .i ((g y2 1).int), .i ((g y2 2).int), .i ((g y2 3).int), .l ((g y2 4).list), .l ((g y2 5).list), .l ((g y2 6).list), .i ((g y3 0).int), .l ((g y3 4).list), .l ((g y3 5).list), .i ((g y3 1).int), .i ((g y3 2).int), .i ((g y3 3).int)]).bind fun y4 =>
 (Lqo none [.i ((g y4 1).int), .i ((g y4 2).int), .i ((g y4 3).int), .i ((g y4 4).int), .l ((g y4 5).list), .l ((g y4 6).list), .l ((g y4 7).list)]).bind fun y5 =>
 some [.i ((g y4 0).int), .i ((g y5 0).int), .i ((g y5 1).int), .i ((g y5 2).int), .i ((g y5 3).int), .i ((g y4 8).int), .l ((g y4 9).list), .l ((g y4 10).list), .i ((g y4 11).int), .i ((g y4 12).int), .i ((g y4 13).int), .l ((g y5 4).list), .l ((g y5 5).list), .l ((g y5 6).list), .l ((g y4 14).list)])) := (Lim_eq _ _).trans (by kernel_rfl)
theorem kqdi : SigOk Tryz.prog (dqdi.sig (Lqdi none)) ∧ (dqdi.sig (Lqdi none)).ok = true := sound_lim (known_cons kqo (by kernel_rfl) (known_cons kqbi (by kernel_rfl) (known_cons kqbk (by kernel_rfl) (known_cons kqdh (by kernel_rfl) known_nil)))) (by kernel_rfl) (by kernel_rfl) (by kernel_rfl)
def dq8 : FD := { fn := 197, nb := 1, pre := ⟨[.sc (.pt 0 0)], [.bx [.fz 5 false 0, .i .i64 1]]⟩, post := ⟨[.ag [.i .i64 0, .i .i64 1, .ow 1, .ow 2, .i .i64 2, .i .i64 3, .i .i64 4, .i .i64 5, .ow 3, .ow 4, .ow 5, .i .i64 6, .fz 9 true 7, .fz 9 true 8, .i .i64 9, .i .i64 10, .i .i64 11]], [.bx [.fz 5 false 12, .i .i64 13], .rw 9 true 14, .rw 9 true 15, .rw 90 true 16, .rw 156 true 17, .rw 158 true 18]⟩, sh := true, cuts := [⟨5, [0, 2, 3, 4, 5, 6], ⟨[.sc (.pt 0 0), .sc (.pt 1 0), .sc (.i .i64 0), .sc (.pt 2 0), .sc (.s 1), .sc (.i .i64 2)], [.bx [.fz 5 false 3, .i .i64 4], .bx [.i .i64 5, .i .i64 6, .ow 3, .ow 4, .i .i64 7, .i .i64 8, .i .i64 9, .i .i64 10, .ow 5, .ow 6, .ow 7, .i .i64 11, .ow 8, .ow 9, .i .i64 12, .i .i64 13, .i .i64 14], .bx [.ow 10, .ow 11], .rw 9 true 15, .rw 9 true 16, .rw 90 true 17, .rw 156 true 18, .rw 158 true 19, .rw 9 true 20, .rw 9 true 21, .rw 9 true 22, .rw 9 true 23]⟩⟩, ⟨14, [0, 2, 3, 4, 8, 9], ⟨[.sc (.pt 0 0), .sc (.pt 1 0), .sc (.i .i64 0), .sc (.pt 2 0), .sc (.s 1), .sc (.i .i64 2)], [.bx [.fz 5 false 3, .i .i64 4], .bx [.i .i64 5, .i .i64 6, .ow 3, .ow 4, .i .i64 7, .i .i64 8, .i .i64 9, .i .i64 10, .ow 5, .ow 6, .ow 7, .i .i64 11, .ow 8, .ow 9, .i .i64 12, .i .i64 13, .i .i64 14], .bx [.ow 10, .ow 11], .rw 9 true 15, .rw 9 true 16, .rw 90 true 17, .rw 156 true 18, .rw 158 true 19, .rw 9 true 20, .rw 9 true 21, .rw 9 true 22, .rw 9 true 23]⟩⟩, ⟨18, [2, 10, 12], ⟨[.sc (.pt 1 0), .sc (.pt 2 0), .sc (.i .i64 0)], [.bx [.fz 5 false 1, .i .i64 2], .bx [.i .i64 3, .i .i64 4, .ow 3, .ow 4, .i .i64 5, .i .i64 6, .i .i64 7, .i .i64 8, .ow 5, .ow 6, .ow 7, .i .i64 9, .ow 8, .ow 9, .i .i64 10, .i .i64 11, .i .i64 12], .bx [.i .i64 13, .i .i64 14, .ow 10, .ow 11, .i .i64 15, .i .i64 16, .i .i64 17, .i .i64 18, .ow 12, .ow 13, .ow 14, .i .i64 19, .fz 9 true 20, .fz 9 true 21, .i .i64 22, .i .i64 23, .i .i64 24], .rw 9 true 25, .rw 9 true 26, .rw 90 true 27, .rw 156 true 28, .rw 158 true 29, .rw 9 true 30, .rw 9 true 31, .rw 9 true 32, .rw 9 true 33, .rw 90 true 34, .rw 156 true 35, .rw 158 true 36]⟩⟩] }
noncomputable def Lq8 : Option Nat → Lv → Option Lv := Lim Tryz.prog [dqi.sig (Lqi none), dqb.sig (Lqb none), dqe.sig (Lqe none), dqw.sig (Lqw none), dqbw.sig (Lqbw none), dqbe.sig (Lqbe none), dqdi.sig (Lqdi none)] dq8 Tryz.f197
theorem eq8_i (a0 : Rw) (a1 : Int) : Lq8 none [.l a0, .i a1] =
 (Lqb none [.i 2, .l a0, .i a1]).bind fun y1 =>
 cond (inb ((g y1 0).int) (([[.i 8], [.i 1]] : Rw).length)) (
 Lq8 (some 5) [.i ((rd ([[.i 8], [.i 1]] : Rw) (((g y1 0).int).toNat) 0).int), .s (⟨#[]⟩ : ByteArray), .i 0, .l ((g y1 1).list), .i ((g y1 2).int), .i 0, .i 0, .i 0, .i 0, .i 0, .i 0, .i 0, .i 0, .i 0, .i 0, .l [], .l [], .l [], .l [], .l [], .l [], .l [], .l [], .l []]) (
 none) := (Lim_eq _ _).trans (by kernel_rfl)
theorem eq8_5 (a0 : Int) (a1 : ByteArray) (a2 : Int) (a3 : Rw) (a4 : Int) (a5 : Int) (a6 : Int) (a7 : Int) (a8 : Int) (a9 : Int) (a10 : Int) (a11 : Int) (a12 : Int) (a13 : Int) (a14 : Int) (a15 : Rw) (a16 : Rw) (a17 : Rw) (a18 : Rw) (a19 : Rw) (a20 : Rw) (a21 : Rw) (a22 : Rw) (a23 : Rw) : Lq8 (some 5) [.i a0, .s a1, .i a2, .l a3, .i a4, .i a5, .i a6, .i a7, .i a8, .i a9, .i a10, .i a11, .i a12, .i a13, .i a14, .l a15, .l a16, .l a17, .l a18, .l a19, .l a20, .l a21, .l a22, .l a23] =
 cond (decide (a2 < 4)) (
 (Lqbe none [.i a2]).bind fun y1 =>
 cond (decide ((⟨#[102, 117, 108, 108]⟩ : ByteArray).size + ((g y1 0).str).size ≤ most)) (
 cond (!Eng.seq a1 (⟨#[]⟩ : ByteArray)) (
 (Lqi none [.s ((⟨#[102, 117, 108, 108]⟩ : ByteArray) ++ ((g y1 0).str)), .l ([[.s a1]] : Rw), .i a0]).bind fun y2 =>
 (Lqe none [.s ((g y2 0).str), .i a0]).bind fun y3 =>
 (Lqw none [.i 1, .s (⟨#[]⟩ : ByteArray), .s (⟨#[]⟩ : ByteArray), .i 1, .s ((⟨#[102, 117, 108, 108]⟩ : ByteArray) ++ ((g y1 0).str)), .l ([[.s a1]] : Rw), .i a0]).bind fun y4 =>
 cond (decide (a22.length + ([[.s ((g y4 0).str)]] : Rw).length ≤ most)) (
 Lq8 (some 5) [.i a0, .s ((g y3 0).str), .i (IntKind.i64.wrap (a2 + 1)), .l a3, .i a4, .i a5, .i a6, .i a7, .i a8, .i a9, .i a10, .i a11, .i a12, .i a13, .i a14, .l a15, .l a16, .l a17, .l a18, .l a19, .l a20, .l a21, .l (a22 ++ ([[.s ((g y4 0).str)]] : Rw)), .l a23]) (
 none)) (
 (Lqi none [.s ((⟨#[102, 117, 108, 108]⟩ : ByteArray) ++ ((g y1 0).str)), .l ([]), .i a0]).bind fun y5 =>
 (Lqe none [.s ((g y5 0).str), .i a0]).bind fun y6 =>
 (Lqw none [.i 1, .s (⟨#[]⟩ : ByteArray), .s (⟨#[]⟩ : ByteArray), .i 1, .s ((⟨#[102, 117, 108, 108]⟩ : ByteArray) ++ ((g y1 0).str)), .l ([]), .i a0]).bind fun y7 =>
 cond (decide (a22.length + ([[.s ((g y7 0).str)]] : Rw).length ≤ most)) (
 Lq8 (some 5) [.i a0, .s ((g y6 0).str), .i (IntKind.i64.wrap (a2 + 1)), .l a3, .i a4, .i a5, .i a6, .i a7, .i a8, .i a9, .i a10, .i a11, .i a12, .i a13, .i a14, .l a15, .l a16, .l a17, .l a18, .l a19, .l a20, .l a21, .l (a22 ++ ([[.s ((g y7 0).str)]] : Rw)), .l a23]) (
 none))) (
 none)) (
 (Lqw none [.i 6, .s (⟨#[]⟩ : ByteArray), .s (⟨#[]⟩ : ByteArray), .i 1, .s (⟨#[]⟩ : ByteArray), .l ([]), .i a0]).bind fun y8 =>
 (Lqb none [.i 4, .l a3, .i a4]).bind fun y9 =>
 Lq8 (some 14) [.i a0, .s ((g y8 0).str), .i (IntKind.i64.wrap (4000 - (g y9 0).int)), .l ((g y9 1).list), .i ((g y9 2).int), .i a5, .i a6, .i a7, .i a8, .i a9, .i a10, .i a11, .i a12, .i a13, .i a14, .l a15, .l a16, .l a17, .l a18, .l a19, .l a20, .l a21, .l a22, .l a23]) := (Lim_eq _ _).trans (by kernel_rfl)
theorem eq8_14 (a0 : Int) (a1 : ByteArray) (a2 : Int) (a3 : Rw) (a4 : Int) (a5 : Int) (a6 : Int) (a7 : Int) (a8 : Int) (a9 : Int) (a10 : Int) (a11 : Int) (a12 : Int) (a13 : Int) (a14 : Int) (a15 : Rw) (a16 : Rw) (a17 : Rw) (a18 : Rw) (a19 : Rw) (a20 : Rw) (a21 : Rw) (a22 : Rw) (a23 : Rw) : Lq8 (some 14) [.i a0, .s a1, .i a2, .l a3, .i a4, .i a5, .i a6, .i a7, .i a8, .i a9, .i a10, .i a11, .i a12, .i a13, .i a14, .l a15, .l a16, .l a17, .l a18, .l a19, .l a20, .l a21, .l a22, .l a23] =
 cond (decide ((a22.length : Int) < a2)) (
 cond (decide (a22.length + ([[.s a1]] : Rw).length ≤ most)) (
 Lq8 (some 14) [.i a0, .s a1, .i a2, .l a3, .i a4, .i a5, .i a6, .i a7, .i a8, .i a9, .i a10, .i a11, .i a12, .i a13, .i a14, .l a15, .l a16, .l a17, .l a18, .l a19, .l a20, .l a21, .l (a22 ++ ([[.s a1]] : Rw)), .l a23]) (
 none)) (
 (Lqb none [.i 2, .l a3, .i a4]).bind fun y1 =>
 cond (inb ((g y1 0).int) (([[.i 1000000], [.i 60]] : Rw).length)) (
 (Lqbw none [.i a0, .i ((rd ([[.i 1000000], [.i 60]] : Rw) (((g y1 0).int).toNat) 0).int), .l a22, .l a23]).bind fun y2 =>
 (Lqb none [.i 14, .l ((g y1 1).list), .i ((g y1 2).int)]).bind fun y3 =>
 Lq8 (some 18) [.i ((g y3 0).int), .l ((g y3 1).list), .i ((g y3 2).int), .i a5, .i a6, .i a7, .i a8, .i a9, .i a10, .i a11, .i a12, .i a13, .i a14, .i ((g y2 0).int), .i ((g y2 1).int), .i ((g y2 2).int), .i ((g y2 3).int), .i ((g y2 4).int), .i ((g y2 5).int), .i ((g y2 6).int), .l ((g y2 7).list), .l ((g y2 8).list), .i ((g y2 9).int), .i ((g y2 10).int), .i ((g y2 11).int), .l a15, .l a16, .l a17, .l a18, .l a19, .l a20, .l a21, .l ((g y2 13).list), .l ((g y2 14).list), .l ((g y2 15).list), .l ((g y2 16).list), .l ((g y2 17).list)]) (
 none)) := (Lim_eq _ _).trans (by kernel_rfl)
theorem eq8_18 (a0 : Int) (a1 : Rw) (a2 : Int) (a3 : Int) (a4 : Int) (a5 : Int) (a6 : Int) (a7 : Int) (a8 : Int) (a9 : Int) (a10 : Int) (a11 : Int) (a12 : Int) (a13 : Int) (a14 : Int) (a15 : Int) (a16 : Int) (a17 : Int) (a18 : Int) (a19 : Int) (a20 : Rw) (a21 : Rw) (a22 : Int) (a23 : Int) (a24 : Int) (a25 : Rw) (a26 : Rw) (a27 : Rw) (a28 : Rw) (a29 : Rw) (a30 : Rw) (a31 : Rw) (a32 : Rw) (a33 : Rw) (a34 : Rw) (a35 : Rw) (a36 : Rw) : Lq8 (some 18) [.i a0, .l a1, .i a2, .i a3, .i a4, .i a5, .i a6, .i a7, .i a8, .i a9, .i a10, .i a11, .i a12, .i a13, .i a14, .i a15, .i a16, .i a17, .i a18, .i a19, .l a20, .l a21, .i a22, .i a23, .i a24, .l a25, .l a26, .l a27, .l a28, .l a29, .l a30, .l a31, .l a32, .l a33, .l a34, .l a35, .l a36] =
 cond (decide (0 < a0)) (
 (Lqdi none [.i a15, .i a16, .i a17, .i a18, .l a34, .l a35, .l a36, .i a19, .l a20, .l a21, .i a22, .i a23, .i a24]).bind fun y1 =>
 cond (decide (0 < (((g y1 14).list).length : Int))) (
 some [.i a13, .i a14, .i a15, .i a16, .i a17, .i a18, .i a19, .l a20, .l a21, .i a22, .i a23, .i a24, .l a1, .i a2, .l a32, .l a33, .l a34, .l a35, .l a36]) (
 Lq8 (some 18) [.i (IntKind.i64.wrap (a0 - 1)), .l a1, .i a2, .i a3, .i a4, .i a5, .i a6, .i a7, .i a8, .i a9, .i a10, .i a11, .i a12, .i a13, .i a14, .i a15, .i a16, .i a17, .i a18, .i ((g y1 5).int), .l ((g y1 6).list), .l ((g y1 7).list), .i ((g y1 8).int), .i ((g y1 9).int), .i ((g y1 10).int), .l a25, .l a26, .l a27, .l a28, .l a29, .l a30, .l a31, .l a32, .l a33, .l a34, .l a35, .l a36])) (
 some [.i a13, .i a14, .i a15, .i a16, .i a17, .i a18, .i a19, .l a20, .l a21, .i a22, .i a23, .i a24, .l a1, .i a2, .l a32, .l a33, .l a34, .l a35, .l a36]) := (Lim_eq _ _).trans (by kernel_rfl)
theorem kq8 : SigOk Tryz.prog (dq8.sig (Lq8 none)) ∧ (dq8.sig (Lq8 none)).ok = true := sound_lim (known_cons kqi (by kernel_rfl) (known_cons kqb (by kernel_rfl) (known_cons kqe (by kernel_rfl) (known_cons kqw (by kernel_rfl) (known_cons kqbw (by kernel_rfl) (known_cons kqbe (by kernel_rfl) (known_cons kqdi (by kernel_rfl) known_nil))))))) (by kernel_rfl) (by kernel_rfl) (by kernel_rfl)
def dq2 : FD := { fn := 198, nb := 1, pre := ⟨[.sc (.pt 0 0), .ag [.i .i64 0, .i .i64 1, .i .i64 2, .i .i64 3, .fz 90 false 4, .fz 156 false 5, .fz 158 false 6], .ag [.i .i64 7, .fz 9 false 8, .fz 9 false 9, .i .i64 10, .i .i64 11, .i .i64 12]], [.bx [.fz 5 false 13, .i .i64 14]]⟩, post := ⟨[.ag [.i .i64 0, .ow 1, .ow 2, .i .i64 1, .i .i64 2, .i .i64 3]], [.bx [.fz 5 false 4, .i .i64 5], .rw 9 true 6, .rw 9 true 7]⟩, sh := true, cuts := [⟨6, [0, 4, 6, 7], ⟨[.sc (.pt 0 0), .sc (.pt 1 0), .sc (.pt 2 0), .sc (.pt 3 0)], [.bx [.fz 5 false 0, .i .i64 1], .bx [.i .i64 2, .i .i64 3, .i .i64 4, .i .i64 5, .fz 90 false 6, .fz 156 false 7, .fz 158 false 8], .bx [.i .i64 9, .ow 6, .ow 7, .i .i64 10, .i .i64 11, .i .i64 12], .bx [.i .i64 13, .ow 4, .ow 5, .i .i64 14, .i .i64 15, .i .i64 16], .rw 9 true 17, .rw 9 true 18, .rw 9 true 19, .rw 9 true 20]⟩⟩, ⟨10, [4, 6, 7, 9], ⟨[.sc (.pt 1 0), .sc (.pt 2 0), .sc (.pt 3 0), .sc (.i .i64 0)], [.bx [.fz 5 false 1, .i .i64 2], .bx [.i .i64 3, .i .i64 4, .i .i64 5, .i .i64 6, .fz 90 false 7, .fz 156 false 8, .fz 158 false 9], .bx [.i .i64 10, .ow 4, .ow 5, .i .i64 11, .i .i64 12, .i .i64 13], .bx [.i .i64 14, .ow 6, .ow 7, .i .i64 15, .i .i64 16, .i .i64 17], .rw 9 true 18, .rw 9 true 19, .rw 9 true 20, .rw 9 true 21]⟩⟩, ⟨28, [4, 6, 7, 10], ⟨[.sc (.pt 1 0), .sc (.pt 2 0), .sc (.pt 3 0), .sc (.i .i64 0)], [.bx [.fz 5 false 1, .i .i64 2], .bx [.i .i64 3, .i .i64 4, .i .i64 5, .i .i64 6, .fz 90 false 7, .fz 156 false 8, .fz 158 false 9], .bx [.i .i64 10, .ow 4, .ow 5, .i .i64 11, .i .i64 12, .i .i64 13], .bx [.i .i64 14, .ow 6, .ow 7, .i .i64 15, .i .i64 16, .i .i64 17], .rw 9 true 18, .rw 9 true 19, .rw 9 true 20, .rw 9 true 21]⟩⟩] }
noncomputable def Lq2 : Option Nat → Lv → Option Lv := Lim Tryz.prog [dqh.sig (Lqh none), dqb.sig (Lqb none), dqe.sig (Lqe none), dqbi.sig (Lqbi none), dqbe.sig (Lqbe none)] dq2 Tryz.f198
theorem eq2_i (a0 : Int) (a1 : Int) (a2 : Int) (a3 : Int) (a4 : Rw) (a5 : Rw) (a6 : Rw) (a7 : Int) (a8 : Rw) (a9 : Rw) (a10 : Int) (a11 : Int) (a12 : Int) (a13 : Rw) (a14 : Int) : Lq2 none [.i a0, .i a1, .i a2, .i a3, .l a4, .l a5, .l a6, .i a7, .l a8, .l a9, .i a10, .i a11, .i a12, .l a13, .i a14] =
 (Lqbi none [.i a7, .l a8, .l a9, .i a10, .i a11, .i a12]).bind fun y1 =>
 cond (a7 == 2) (
 cond (decide (0 < (((g y1 5).list).length : Int))) (
 (Lqb none [.i 2, .l a13, .i a14]).bind fun y2 =>
 cond ((g y2 0).int == 0) (
 (Lqb none [.i (((g y1 5).list).length : Int), .l ((g y2 1).list), .i ((g y2 2).int)]).bind fun y3 =>
 cond (decide (0 ≤ (g y3 0).int)) (
 cond (decide ((g y3 0).int ≤ (((g y1 5).list).length : Int))) (
 cond (decide (([] : Rw).length + (Eng.sub ((g y1 5).list) 0 ((g y3 0).int).toNat).length ≤ most)) (
 cond (decide (0 ≤ (IntKind.i64.wrap ((g y3 0).int + 1)))) (
 cond (decide ((IntKind.i64.wrap ((g y3 0).int + 1)) ≤ (((g y1 5).list).length : Int))) (
 cond (decide ((([] : Rw) ++ (Eng.sub ((g y1 5).list) 0 ((g y3 0).int).toNat)).length + (Eng.sub ((g y1 5).list) (IntKind.i64.wrap ((g y3 0).int + 1)).toNat ((g y1 5).list).length).length ≤ most)) (
 some [.i ((g y1 0).int), .i ((g y1 1).int), .i ((g y1 2).int), .i ((g y1 3).int), .l ((g y3 1).list), .i ((g y3 2).int), .l ((g y1 4).list), .l ((([] : Rw) ++ (Eng.sub ((g y1 5).list) 0 ((g y3 0).int).toNat)) ++ (Eng.sub ((g y1 5).list) (IntKind.i64.wrap ((g y3 0).int + 1)).toNat ((g y1 5).list).length))]) (
 none)) (
 none)) (
 none)) (
 none)) (
 none)) (
 none)) (
 Lq2 (some 6) [.l ((g y2 1).list), .i ((g y2 2).int), .i a0, .i a1, .i a2, .i a3, .l a4, .l a5, .l a6, .i 0, .i 0, .i 0, .i 0, .i ((g y1 0).int), .i ((g y1 1).int), .i ((g y1 2).int), .i ((g y1 3).int), .l ((g y1 4).list), .l ((g y1 5).list), .l [], .l []])) (
 Lq2 (some 6) [.l a13, .i a14, .i a0, .i a1, .i a2, .i a3, .l a4, .l a5, .l a6, .i 0, .i 0, .i 0, .i 0, .i ((g y1 0).int), .i ((g y1 1).int), .i ((g y1 2).int), .i ((g y1 3).int), .l ((g y1 4).list), .l ((g y1 5).list), .l [], .l []])) (
 Lq2 (some 6) [.l a13, .i a14, .i a0, .i a1, .i a2, .i a3, .l a4, .l a5, .l a6, .i 0, .i 0, .i 0, .i 0, .i ((g y1 0).int), .i ((g y1 1).int), .i ((g y1 2).int), .i ((g y1 3).int), .l ((g y1 4).list), .l ((g y1 5).list), .l [], .l []]) := (Lim_eq _ _).trans (by kernel_rfl)
theorem eq2_6 (a0 : Rw) (a1 : Int) (a2 : Int) (a3 : Int) (a4 : Int) (a5 : Int) (a6 : Rw) (a7 : Rw) (a8 : Rw) (a9 : Int) (a10 : Int) (a11 : Int) (a12 : Int) (a13 : Int) (a14 : Int) (a15 : Int) (a16 : Int) (a17 : Rw) (a18 : Rw) (a19 : Rw) (a20 : Rw) : Lq2 (some 6) [.l a0, .i a1, .i a2, .i a3, .i a4, .i a5, .l a6, .l a7, .l a8, .i a9, .i a10, .i a11, .i a12, .i a13, .i a14, .i a15, .i a16, .l a17, .l a18, .l a19, .l a20] =
 (Lqb none [.i 9, .l a0, .i a1]).bind fun y1 =>
 cond ((g y1 0).int == 7) (
 Lq2 (some 10) [.i 0, .l ((g y1 1).list), .i ((g y1 2).int), .i a2, .i a3, .i a4, .i a5, .l a6, .l a7, .l a8, .i a9, .i a10, .i a11, .i a12, .i a13, .i a14, .i a15, .i a16, .l a19, .l a20, .l a17, .l a18]) (
 cond ((g y1 0).int == 0) (
 (Lqb none [.i 5, .l ((g y1 1).list), .i ((g y1 2).int)]).bind fun y2 =>
 some [.i (IntKind.i64.wrap ((g y2 0).int - 1)), .i a14, .i a15, .i a16, .l ((g y2 1).list), .i ((g y2 2).int), .l a17, .l a18]) (
 cond ((g y1 0).int == 1) (
 (Lqb none [.i 5, .l ((g y1 1).list), .i ((g y1 2).int)]).bind fun y3 =>
 cond (inb ((g y3 0).int) (([[.i 0], [.i 1], [.i a14], [.i (IntKind.i64.wrap (a14 + 1))], [.i (IntKind.i64.wrap (a14 + 2))]] : Rw).length)) (
 some [.i a13, .i a14, .i ((rd ([[.i 0], [.i 1], [.i a14], [.i (IntKind.i64.wrap (a14 + 1))], [.i (IntKind.i64.wrap (a14 + 2))]] : Rw) (((g y3 0).int).toNat) 0).int), .i a16, .l ((g y3 1).list), .i ((g y3 2).int), .l a17, .l a18]) (
 none)) (
 cond ((g y1 0).int == 2) (
 (Lqb none [.i 4, .l ((g y1 1).list), .i ((g y1 2).int)]).bind fun y4 =>
 cond (inb ((g y4 0).int) (([[.i (-1)], [.i 0], [.i a5], [.i (IntKind.i64.wrap (a5 + 1))]] : Rw).length)) (
 some [.i a13, .i ((rd ([[.i (-1)], [.i 0], [.i a5], [.i (IntKind.i64.wrap (a5 + 1))]] : Rw) (((g y4 0).int).toNat) 0).int), .i a15, .i a16, .l ((g y4 1).list), .i ((g y4 2).int), .l a17, .l a18]) (
 none)) (
 cond ((g y1 0).int == 3) (
 (Lqe none [.s (⟨#[113]⟩ : ByteArray), .i a2]).bind fun y5 =>
 cond (decide (a17.length + ([[.s ((g y5 0).str)]] : Rw).length ≤ most)) (
 some [.i a13, .i a14, .i a15, .i a16, .l ((g y1 1).list), .i ((g y1 2).int), .l (a17 ++ ([[.s ((g y5 0).str)]] : Rw)), .l a18]) (
 none)) (
 cond ((g y1 0).int == 4) (
 (Lqe none [.s (⟨#[109]⟩ : ByteArray), .i a2]).bind fun y6 =>
 cond (decide (a18.length + ([[.s ((g y6 0).str)]] : Rw).length ≤ most)) (
 some [.i a13, .i a14, .i a15, .i a16, .l ((g y1 1).list), .i ((g y1 2).int), .l a17, .l (a18 ++ ([[.s ((g y6 0).str)]] : Rw))]) (
 none)) (
 cond ((g y1 0).int == 5) (
 cond (decide (a17.length + ([[.s (⟨#[116, 111, 111, 108, 111, 110, 103, 102, 111, 114, 97, 110, 121]⟩ : ByteArray)]] : Rw).length ≤ most)) (
 some [.i a13, .i a14, .i a15, .i a16, .l ((g y1 1).list), .i ((g y1 2).int), .l (a17 ++ ([[.s (⟨#[116, 111, 111, 108, 111, 110, 103, 102, 111, 114, 97, 110, 121]⟩ : ByteArray)]] : Rw)), .l a18]) (
 none)) (
 cond ((g y1 0).int == 6) (
 cond (decide (0 < (a6.length : Int))) (
 (Lqh none [.i a2]).bind fun y7 =>
 cond ((g y7 0).bool) (
 (Lqb none [.i 2, .l ((g y1 1).list), .i ((g y1 2).int)]).bind fun y8 =>
 Lq2 (some 28) [.i (IntKind.i64.wrap (23200 + (g y8 0).int)), .l ((g y8 1).list), .i ((g y8 2).int), .i a2, .i a3, .i a4, .i a5, .l a6, .l a7, .l a8, .i a9, .i a10, .i a11, .i a12, .i a13, .i a14, .i a15, .i a16, .l a19, .l a20, .l a17, .l a18]) (
 some [.i a13, .i a14, .i a15, .i a16, .l ((g y1 1).list), .i ((g y1 2).int), .l a17, .l a18])) (
 some [.i a13, .i a14, .i a15, .i a16, .l ((g y1 1).list), .i ((g y1 2).int), .l a17, .l a18])) (
 (Lqb none [.i 4, .l ((g y1 1).list), .i ((g y1 2).int)]).bind fun y9 =>
 cond (inb ((g y9 0).int) (([[.i (-1)], [.i 1000000000], [.i 999999999], [.i 1000000001]] : Rw).length)) (
 some [.i a13, .i a14, .i a15, .i ((rd ([[.i (-1)], [.i 1000000000], [.i 999999999], [.i 1000000001]] : Rw) (((g y9 0).int).toNat) 0).int), .l ((g y9 1).list), .i ((g y9 2).int), .l a17, .l a18]) (
 none))))))))) := (Lim_eq _ _).trans (by kernel_rfl)
theorem eq2_10 (a0 : Int) (a1 : Rw) (a2 : Int) (a3 : Int) (a4 : Int) (a5 : Int) (a6 : Int) (a7 : Rw) (a8 : Rw) (a9 : Rw) (a10 : Int) (a11 : Int) (a12 : Int) (a13 : Int) (a14 : Int) (a15 : Int) (a16 : Int) (a17 : Int) (a18 : Rw) (a19 : Rw) (a20 : Rw) (a21 : Rw) : Lq2 (some 10) [.i a0, .l a1, .i a2, .i a3, .i a4, .i a5, .i a6, .l a7, .l a8, .l a9, .i a10, .i a11, .i a12, .i a13, .i a14, .i a15, .i a16, .i a17, .l a18, .l a19, .l a20, .l a21] =
 cond (decide ((a21.length : Int) < 600)) (
 (Lqh none [.i a3]).bind fun y1 =>
 cond ((g y1 0).bool) (
 (Lqbe none [.i a0]).bind fun y2 =>
 cond (decide ((⟨#[102, 117, 108, 108, 32]⟩ : ByteArray).size + ((g y2 0).str).size ≤ most)) (
 (Lqe none [.s ((⟨#[102, 117, 108, 108, 32]⟩ : ByteArray) ++ ((g y2 0).str)), .i a3]).bind fun y3 =>
 cond (decide (a21.length + ([[.s ((g y3 0).str)]] : Rw).length ≤ most)) (
 Lq2 (some 10) [.i (IntKind.i64.wrap (a0 + 1)), .l a1, .i a2, .i a3, .i a4, .i a5, .i a6, .l a7, .l a8, .l a9, .i a10, .i a11, .i a12, .i a13, .i a14, .i a15, .i a16, .i a17, .l a18, .l a19, .l a20, .l (a21 ++ ([[.s ((g y3 0).str)]] : Rw))]) (
 none)) (
 none)) (
 some [.i a14, .i a15, .i a16, .i a17, .l a1, .i a2, .l a20, .l a21])) (
 some [.i a14, .i a15, .i a16, .i a17, .l a1, .i a2, .l a20, .l a21]) := (Lim_eq _ _).trans (by kernel_rfl)
theorem eq2_28 (a0 : Int) (a1 : Rw) (a2 : Int) (a3 : Int) (a4 : Int) (a5 : Int) (a6 : Int) (a7 : Rw) (a8 : Rw) (a9 : Rw) (a10 : Int) (a11 : Int) (a12 : Int) (a13 : Int) (a14 : Int) (a15 : Int) (a16 : Int) (a17 : Int) (a18 : Rw) (a19 : Rw) (a20 : Rw) (a21 : Rw) : Lq2 (some 28) [.i a0, .l a1, .i a2, .i a3, .i a4, .i a5, .i a6, .l a7, .l a8, .l a9, .i a10, .i a11, .i a12, .i a13, .i a14, .i a15, .i a16, .i a17, .l a18, .l a19, .l a20, .l a21] =
 cond (decide ((a20.length : Int) < a0)) (
 cond (inb 0 a7.length) (
 cond (decide (a20.length + ([[.s ((rd a7 0 0).str)]] : Rw).length ≤ most)) (
 Lq2 (some 28) [.i a0, .l a1, .i a2, .i a3, .i a4, .i a5, .i a6, .l a7, .l a8, .l a9, .i a10, .i a11, .i a12, .i a13, .i a14, .i a15, .i a16, .i a17, .l a18, .l a19, .l (a20 ++ ([[.s ((rd a7 0 0).str)]] : Rw)), .l a21]) (
 none)) (
 none)) (
 some [.i a14, .i a15, .i a16, .i a17, .l a1, .i a2, .l a20, .l a21]) := (Lim_eq _ _).trans (by kernel_rfl)
theorem kq2 : SigOk Tryz.prog (dq2.sig (Lq2 none)) ∧ (dq2.sig (Lq2 none)).ok = true := sound_lim (known_cons kqh (by kernel_rfl) (known_cons kqb (by kernel_rfl) (known_cons kqe (by kernel_rfl) (known_cons kqbi (by kernel_rfl) (known_cons kqbe (by kernel_rfl) known_nil))))) (by kernel_rfl) (by kernel_rfl) (by kernel_rfl)
def dqco : FD := { fn := 131, nb := 1, pre := ⟨[.sc (.pt 0 0)], [.bx [.fz 5 false 0, .i .i64 1]]⟩, post := ⟨[.ag [.i .i64 0, .i .i64 1, .fz 9 true 2, .fz 9 true 3, .i .i64 4, .i .i64 5, .i .i64 6, .i .i64 7, .fz 90 true 8, .fz 156 true 9, .fz 158 true 10, .i .i64 11, .fz 9 true 12, .fz 9 true 13, .i .i64 14, .i .i64 15, .i .i64 16]], [.bx [.fz 5 false 17, .i .i64 18]]⟩, sh := true, cuts := [] }
noncomputable def Lqco : Option Nat → Lv → Option Lv := Lim Tryz.prog [dqb.sig (Lqb none), dqw.sig (Lqw none), dqbs.sig (Lqbs none), dqdg.sig (Lqdg none), dq8.sig (Lq8 none), dq2.sig (Lq2 none)] dqco Tryz.f131
theorem eqco_i (a0 : Rw) (a1 : Int) : Lqco none [.l a0, .i a1] =
 (Lqb none [.i 24, .l a0, .i a1]).bind fun y1 =>
 cond ((g y1 0).int == 0) (
 (Lq8 none [.l ((g y1 1).list), .i ((g y1 2).int)]).bind fun y2 =>
 some [.i ((g y2 0).int), .i ((g y2 1).int), .l ((g y2 14).list), .l ((g y2 15).list), .i ((g y2 2).int), .i ((g y2 3).int), .i ((g y2 4).int), .i ((g y2 5).int), .l ((g y2 16).list), .l ((g y2 17).list), .l ((g y2 18).list), .i ((g y2 6).int), .l ((g y2 7).list), .l ((g y2 8).list), .i ((g y2 9).int), .i ((g y2 10).int), .i ((g y2 11).int), .l ((g y2 12).list), .i ((g y2 13).int)]) (
 (Lqbs none [.l ((g y1 1).list), .i ((g y1 2).int)]).bind fun y3 =>
 (Lqb none [.i 8, .l ((g y3 14).list), .i ((g y3 15).int)]).bind fun y4 =>
 cond (decide (0 < (g y4 0).int)) (
 some [.i ((g y3 0).int), .i ((g y3 1).int), .l ((g y3 2).list), .l ((g y3 16).list), .i ((g y3 3).int), .i ((g y3 4).int), .i ((g y3 5).int), .i ((g y3 6).int), .l ((g y3 7).list), .l ((g y3 17).list), .l ((g y3 18).list), .i ((g y3 8).int), .l ((g y3 9).list), .l ((g y3 10).list), .i ((g y3 11).int), .i ((g y3 12).int), .i ((g y3 13).int), .l ((g y4 1).list), .i ((g y4 2).int)]) (
 (Lqb none [.i 6, .l ((g y4 1).list), .i ((g y4 2).int)]).bind fun y5 =>
 cond ((g y5 0).int == 0) (
 (Lqdg none [.i ((g y3 3).int), .i ((g y3 4).int), .i ((g y3 5).int), .i ((g y3 6).int), .l ((g y3 7).list), .l ((g y3 17).list), .l ((g y3 18).list), .l ((g y5 1).list), .i ((g y5 2).int)]).bind fun y6 =>
 some [.i ((g y3 0).int), .i ((g y3 1).int), .l ((g y3 2).list), .l ((g y3 16).list), .i ((g y6 0).int), .i ((g y6 1).int), .i ((g y6 2).int), .i ((g y6 3).int), .l ((g y6 6).list), .l ((g y6 7).list), .l ((g y6 8).list), .i ((g y3 8).int), .l ((g y3 9).list), .l ((g y3 10).list), .i ((g y3 11).int), .i ((g y3 12).int), .i ((g y3 13).int), .l ((g y6 4).list), .i ((g y6 5).int)]) (
 cond ((g y5 0).int == 5) (
 (Lqb none [.i 3, .l ((g y5 1).list), .i ((g y5 2).int)]).bind fun y7 =>
 some [.i ((g y3 0).int), .i ((g y3 1).int), .l ((g y3 2).list), .l ((g y3 16).list), .i ((g y3 3).int), .i ((g y3 4).int), .i ((g y3 5).int), .i ((g y3 6).int), .l ((g y3 7).list), .l ((g y3 17).list), .l ((g y3 18).list), .i ((g y3 8).int), .l ((g y3 9).list), .l ((g y3 10).list), .i ((g y3 11).int), .i ((g y3 12).int), .i (IntKind.i64.wrap (1000000000 - (g y7 0).int)), .l ((g y7 1).list), .i ((g y7 2).int)]) (
 cond ((g y5 0).int == 1) (
 (Lq2 none [.i ((g y3 3).int), .i ((g y3 4).int), .i ((g y3 5).int), .i ((g y3 6).int), .l ((g y3 7).list), .l ((g y3 17).list), .l ((g y3 18).list), .i ((g y3 8).int), .l ((g y3 9).list), .l ((g y3 10).list), .i ((g y3 11).int), .i ((g y3 12).int), .i ((g y3 13).int), .l ((g y5 1).list), .i ((g y5 2).int)]).bind fun y8 =>
 some [.i ((g y3 0).int), .i ((g y3 1).int), .l ((g y3 2).list), .l ((g y3 16).list), .i ((g y3 3).int), .i ((g y3 4).int), .i ((g y3 5).int), .i ((g y3 6).int), .l ((g y3 7).list), .l ((g y3 17).list), .l ((g y3 18).list), .i ((g y8 0).int), .l ((g y8 6).list), .l ((g y8 7).list), .i ((g y8 1).int), .i ((g y8 2).int), .i ((g y8 3).int), .l ((g y8 4).list), .i ((g y8 5).int)]) (
 cond ((g y5 0).int == 2) (
 (Lqb none [.i 2, .l ((g y5 1).list), .i ((g y5 2).int)]).bind fun y9 =>
 cond (inb ((g y9 0).int) (([[.i (-1)], [.i 1000001]] : Rw).length)) (
 some [.i ((g y3 0).int), .i ((rd ([[.i (-1)], [.i 1000001]] : Rw) (((g y9 0).int).toNat) 0).int), .l ((g y3 2).list), .l ((g y3 16).list), .i ((g y3 3).int), .i ((g y3 4).int), .i ((g y3 5).int), .i ((g y3 6).int), .l ((g y3 7).list), .l ((g y3 17).list), .l ((g y3 18).list), .i ((g y3 8).int), .l ((g y3 9).list), .l ((g y3 10).list), .i ((g y3 11).int), .i ((g y3 12).int), .i ((g y3 13).int), .l ((g y9 1).list), .i ((g y9 2).int)]) (
 none)) (
 cond ((g y5 0).int == 3) (
 (Lqb none [.i 10, .l ((g y5 1).list), .i ((g y5 2).int)]).bind fun y10 =>
 some [.i ((g y10 0).int), .i ((g y3 1).int), .l ((g y3 2).list), .l ((g y3 16).list), .i ((g y3 3).int), .i ((g y3 4).int), .i ((g y3 5).int), .i ((g y3 6).int), .l ((g y3 7).list), .l ((g y3 17).list), .l ((g y3 18).list), .i ((g y3 8).int), .l ((g y3 9).list), .l ((g y3 10).list), .i ((g y3 11).int), .i ((g y3 12).int), .i ((g y3 13).int), .l ((g y10 1).list), .i ((g y10 2).int)]) (
 (Lqw none [.i 6, .s (⟨#[]⟩ : ByteArray), .s (⟨#[]⟩ : ByteArray), .i 1, .s (⟨#[]⟩ : ByteArray), .l ([]), .i 8]).bind fun y11 =>
 cond (decide (((g y3 16).list).length + ([[.s ((g y11 0).str)]] : Rw).length ≤ most)) (
 some [.i ((g y3 0).int), .i ((g y3 1).int), .l ((g y3 2).list), .l ((g y3 16).list ++ ([[.s ((g y11 0).str)]] : Rw)), .i ((g y3 3).int), .i ((g y3 4).int), .i ((g y3 5).int), .i ((g y3 6).int), .l ((g y3 7).list), .l ((g y3 17).list), .l ((g y3 18).list), .i ((g y3 8).int), .l ((g y3 9).list), .l ((g y3 10).list), .i ((g y3 11).int), .i ((g y3 12).int), .i ((g y3 13).int), .l ((g y5 1).list), .i ((g y5 2).int)]) (
 none)))))))) := (Lim_eq _ _).trans (by kernel_rfl)
theorem kqco : SigOk Tryz.prog (dqco.sig (Lqco none)) ∧ (dqco.sig (Lqco none)).ok = true := sound_lim (known_cons kqb (by kernel_rfl) (known_cons kqw (by kernel_rfl) (known_cons kqbs (by kernel_rfl) (known_cons kqdg (by kernel_rfl) (known_cons kq8 (by kernel_rfl) (known_cons kq2 (by kernel_rfl) known_nil)))))) (by kernel_rfl) (by kernel_rfl) (by kernel_rfl)
end KV
end
section
set_option maxRecDepth 100000
namespace KV
open Go Go.Eng Go.Proofs
def dqbx : FD := { fn := 58, nb := 0, pre := ⟨[.sc (.fz 5 false 0)], []⟩, post := ⟨[.tu [(true, [.i .i64 0, .i .i64 1, .fz 9 true 2, .fz 9 true 3, .i .i64 4, .i .i64 5, .i .i64 6, .i .i64 7, .fz 90 true 8, .fz 156 true 9, .fz 158 true 10, .i .i64 11, .fz 9 true 12, .fz 9 true 13, .i .i64 14, .i .i64 15, .i .i64 16]), (true, [.s 17, .ow 0]), (false, [.i .i64 18])]], [.rw 9 true 19]⟩, sh := false, cuts := [⟨9, [2, 3, 5, 6, 7, 8], ⟨[.sc (.pt 0 0), .sc (.pt 1 0), .sc (.pt 2 0), .sc (.pt 3 0), .sc (.pt 4 0), .sc (.pt 5 0)], [.bx [.i .i64 0, .i .i64 1, .ow 7, .ow 8, .i .i64 2, .i .i64 3, .i .i64 4, .i .i64 5, .ow 9, .ow 10, .ow 11, .i .i64 6, .ow 12, .ow 13, .i .i64 7, .i .i64 8, .i .i64 9], .bx [.s 10, .ow 14], .bx [.fz 5 false 11, .i .i64 12], .bx [.i .i64 13, .i .i64 14, .fz 9 true 15, .fz 9 true 16, .i .i64 17, .i .i64 18, .i .i64 19, .i .i64 20, .fz 90 true 21, .fz 156 true 22, .fz 158 true 23, .i .i64 24, .fz 9 true 25, .fz 9 true 26, .i .i64 27, .i .i64 28, .i .i64 29], .bx [.i .i64 30, .s 31, .i .i64 32, .s 33, .i .i64 34, .i .i64 35], .bx [.s 36, .ow 6], .rw 9 true 37, .rw 9 true 38, .rw 9 true 39, .rw 90 true 40, .rw 156 true 41, .rw 158 true 42, .rw 9 true 43, .rw 9 true 44, .rw 9 true 45]⟩⟩] }
noncomputable def Lqbx : Option Nat → Lv → Option Lv := Lim Tryz.prog [dqh.sig (Lqh none), dqcm.sig (Lqcm none), dqb.sig (Lqb none), dqb2.sig (Lqb2 none), dqe.sig (Lqe none), dqcg.sig (Lqcg none), dqbm.sig (Lqbm none), dqco.sig (Lqco none)] dqbx Tryz.f58
theorem eqbx_i (a0 : Rw) : Lqbx none [.l a0] =
 (Lqcm none [.l a0]).bind fun y1 =>
 (Lqco none [.l ((g y1 0).list), .i ((g y1 1).int)]).bind fun y2 =>
 (Lqcg none [.l ((g y2 17).list), .i ((g y2 18).int)]).bind fun y3 =>
 (Lqbm none [.i ((g y3 0).int), .s ((g y3 1).str), .i ((g y3 2).int), .s ((g y3 3).str), .i ((g y3 4).int), .i ((g y3 5).int), .i ((g y2 4).int), .i ((g y2 5).int), .i ((g y2 6).int), .i ((g y2 7).int), .l ((g y2 8).list), .l ((g y2 9).list), .l ((g y2 10).list)]).bind fun y4 =>
 (Lqb none [.i 8, .l ((g y3 6).list), .i ((g y3 7).int)]).bind fun y5 =>
 cond ((g y5 0).int == 0) (
 (Lqb2 none [.s ((g y4 0).str), .l ((g y4 1).list), .l ((g y5 1).list), .i ((g y5 2).int)]).bind fun y6 =>
 (Lqb none [.i 6, .l ((g y6 1).list), .i ((g y6 2).int)]).bind fun y7 =>
 cond ((g y7 0).int == 0) (
 (Lqh none [.i ((g y2 0).int)]).bind fun y8 =>
 cond ((g y8 0).bool) (
 cond (decide ((⟨#[110, 111, 110, 101]⟩ : ByteArray).size + ((g y3 1).str).size ≤ most)) (
 (Lqe none [.s ((⟨#[110, 111, 110, 101]⟩ : ByteArray) ++ ((g y3 1).str)), .i ((g y2 0).int)]).bind fun y9 =>
 Lqbx (some 9) [.i 0, .i 0, .i 0, .i 0, .i 0, .i 0, .i 0, .i 0, .i 0, .i 0, .s (⟨#[]⟩ : ByteArray), .l ((g y7 1).list), .i ((g y7 2).int), .i ((g y2 0).int), .i ((g y2 1).int), .l ((g y2 2).list), .l ((g y2 3).list), .i ((g y2 4).int), .i ((g y2 5).int), .i ((g y2 6).int), .i ((g y2 7).int), .l ((g y2 8).list), .l ((g y2 9).list), .l ((g y2 10).list), .i ((g y2 11).int), .l ((g y2 12).list), .l ((g y2 13).list), .i ((g y2 14).int), .i ((g y2 15).int), .i ((g y2 16).int), .i ((g y3 0).int), .s ((g y3 1).str), .i ((g y3 2).int), .s ((g y3 3).str), .i ((g y3 4).int), .i ((g y3 5).int), .s ((g y6 0).str), .l ([[.s ((g y9 0).str)]] : Rw), .l [], .l [], .l [], .l [], .l [], .l [], .l [], .l []]) (
 none)) (
 Lqbx (some 9) [.i 0, .i 0, .i 0, .i 0, .i 0, .i 0, .i 0, .i 0, .i 0, .i 0, .s (⟨#[]⟩ : ByteArray), .l ((g y7 1).list), .i ((g y7 2).int), .i ((g y2 0).int), .i ((g y2 1).int), .l ((g y2 2).list), .l ((g y2 3).list), .i ((g y2 4).int), .i ((g y2 5).int), .i ((g y2 6).int), .i ((g y2 7).int), .l ((g y2 8).list), .l ((g y2 9).list), .l ((g y2 10).list), .i ((g y2 11).int), .l ((g y2 12).list), .l ((g y2 13).list), .i ((g y2 14).int), .i ((g y2 15).int), .i ((g y2 16).int), .i ((g y3 0).int), .s ((g y3 1).str), .i ((g y3 2).int), .s ((g y3 3).str), .i ((g y3 4).int), .i ((g y3 5).int), .s ((g y6 0).str), .l ((g y6 3).list), .l [], .l [], .l [], .l [], .l [], .l [], .l [], .l []])) (
 Lqbx (some 9) [.i 0, .i 0, .i 0, .i 0, .i 0, .i 0, .i 0, .i 0, .i 0, .i 0, .s (⟨#[]⟩ : ByteArray), .l ((g y7 1).list), .i ((g y7 2).int), .i ((g y2 0).int), .i ((g y2 1).int), .l ((g y2 2).list), .l ((g y2 3).list), .i ((g y2 4).int), .i ((g y2 5).int), .i ((g y2 6).int), .i ((g y2 7).int), .l ((g y2 8).list), .l ((g y2 9).list), .l ((g y2 10).list), .i ((g y2 11).int), .l ((g y2 12).list), .l ((g y2 13).list), .i ((g y2 14).int), .i ((g y2 15).int), .i ((g y2 16).int), .i ((g y3 0).int), .s ((g y3 1).str), .i ((g y3 2).int), .s ((g y3 3).str), .i ((g y3 4).int), .i ((g y3 5).int), .s ((g y6 0).str), .l ((g y6 3).list), .l [], .l [], .l [], .l [], .l [], .l [], .l [], .l []])) (
 (Lqb none [.i 6, .l ((g y5 1).list), .i ((g y5 2).int)]).bind fun y10 =>
 cond ((g y10 0).int == 0) (
 (Lqh none [.i ((g y2 0).int)]).bind fun y11 =>
 cond ((g y11 0).bool) (
 cond (decide ((⟨#[110, 111, 110, 101]⟩ : ByteArray).size + ((g y3 1).str).size ≤ most)) (
 (Lqe none [.s ((⟨#[110, 111, 110, 101]⟩ : ByteArray) ++ ((g y3 1).str)), .i ((g y2 0).int)]).bind fun y12 =>
 Lqbx (some 9) [.i 0, .i 0, .i 0, .i 0, .i 0, .i 0, .i 0, .i 0, .i 0, .i 0, .s (⟨#[]⟩ : ByteArray), .l ((g y10 1).list), .i ((g y10 2).int), .i ((g y2 0).int), .i ((g y2 1).int), .l ((g y2 2).list), .l ((g y2 3).list), .i ((g y2 4).int), .i ((g y2 5).int), .i ((g y2 6).int), .i ((g y2 7).int), .l ((g y2 8).list), .l ((g y2 9).list), .l ((g y2 10).list), .i ((g y2 11).int), .l ((g y2 12).list), .l ((g y2 13).list), .i ((g y2 14).int), .i ((g y2 15).int), .i ((g y2 16).int), .i ((g y3 0).int), .s ((g y3 1).str), .i ((g y3 2).int), .s ((g y3 3).str), .i ((g y3 4).int), .i ((g y3 5).int), .s ((g y4 0).str), .l ([[.s ((g y12 0).str)]] : Rw), .l [], .l [], .l [], .l [], .l [], .l [], .l [], .l []]) (
 none)) (
 Lqbx (some 9) [.i 0, .i 0, .i 0, .i 0, .i 0, .i 0, .i 0, .i 0, .i 0, .i 0, .s (⟨#[]⟩ : ByteArray), .l ((g y10 1).list), .i ((g y10 2).int), .i ((g y2 0).int), .i ((g y2 1).int), .l ((g y2 2).list), .l ((g y2 3).list), .i ((g y2 4).int), .i ((g y2 5).int), .i ((g y2 6).int), .i ((g y2 7).int), .l ((g y2 8).list), .l ((g y2 9).list), .l ((g y2 10).list), .i ((g y2 11).int), .l ((g y2 12).list), .l ((g y2 13).list), .i ((g y2 14).int), .i ((g y2 15).int), .i ((g y2 16).int), .i ((g y3 0).int), .s ((g y3 1).str), .i ((g y3 2).int), .s ((g y3 3).str), .i ((g y3 4).int), .i ((g y3 5).int), .s ((g y4 0).str), .l ((g y4 1).list), .l [], .l [], .l [], .l [], .l [], .l [], .l [], .l []])) (
 Lqbx (some 9) [.i 0, .i 0, .i 0, .i 0, .i 0, .i 0, .i 0, .i 0, .i 0, .i 0, .s (⟨#[]⟩ : ByteArray), .l ((g y10 1).list), .i ((g y10 2).int), .i ((g y2 0).int), .i ((g y2 1).int), .l ((g y2 2).list), .l ((g y2 3).list), .i ((g y2 4).int), .i ((g y2 5).int), .i ((g y2 6).int), .i ((g y2 7).int), .l ((g y2 8).list), .l ((g y2 9).list), .l ((g y2 10).list), .i ((g y2 11).int), .l ((g y2 12).list), .l ((g y2 13).list), .i ((g y2 14).int), .i ((g y2 15).int), .i ((g y2 16).int), .i ((g y3 0).int), .s ((g y3 1).str), .i ((g y3 2).int), .s ((g y3 3).str), .i ((g y3 4).int), .i ((g y3 5).int), .s ((g y4 0).str), .l ((g y4 1).list), .l [], .l [], .l [], .l [], .l [], .l [], .l [], .l []])) := (Lim_eq _ _).trans (by kernel_rfl)
theorem eqbx_9 (a0 : Int) (a1 : Int) (a2 : Int) (a3 : Int) (a4 : Int) (a5 : Int) (a6 : Int) (a7 : Int) (a8 : Int) (a9 : Int) (a10 : ByteArray) (a11 : Rw) (a12 : Int) (a13 : Int) (a14 : Int) (a15 : Rw) (a16 : Rw) (a17 : Int) (a18 : Int) (a19 : Int) (a20 : Int) (a21 : Rw) (a22 : Rw) (a23 : Rw) (a24 : Int) (a25 : Rw) (a26 : Rw) (a27 : Int) (a28 : Int) (a29 : Int) (a30 : Int) (a31 : ByteArray) (a32 : Int) (a33 : ByteArray) (a34 : Int) (a35 : Int) (a36 : ByteArray) (a37 : Rw) (a38 : Rw) (a39 : Rw) (a40 : Rw) (a41 : Rw) (a42 : Rw) (a43 : Rw) (a44 : Rw) (a45 : Rw) : Lqbx (some 9) [.i a0, .i a1, .i a2, .i a3, .i a4, .i a5, .i a6, .i a7, .i a8, .i a9, .s a10, .l a11, .i a12, .i a13, .i a14, .l a15, .l a16, .i a17, .i a18, .i a19, .i a20, .l a21, .l a22, .l a23, .i a24, .l a25, .l a26, .i a27, .i a28, .i a29, .i a30, .s a31, .i a32, .s a33, .i a34, .i a35, .s a36, .l a37, .l a38, .l a39, .l a40, .l a41, .l a42, .l a43, .l a44, .l a45] =
 (Lqb none [.i 10, .l a11, .i a12]).bind fun y1 =>
 cond ((g y1 0).int == 0) (
 (Lqb none [.i 4, .l ((g y1 1).list), .i ((g y1 2).int)]).bind fun y2 =>
 cond (inb ((g y2 0).int) (([[.i 0], [.i (-1)], [.i 100000], [.i 100001]] : Rw).length)) (
 some [.i a13, .i a14, .l a15, .l a16, .i a17, .i a18, .i a19, .i a20, .l a21, .l a22, .l a23, .i a24, .l a25, .l a26, .i a27, .i a28, .i a29, .s a36, .i ((rd ([[.i 0], [.i (-1)], [.i 100000], [.i 100001]] : Rw) (((g y2 0).int).toNat) 0).int), .l a37]) (
 none)) (
 some [.i a13, .i a14, .l a15, .l a16, .i a17, .i a18, .i a19, .i a20, .l a21, .l a22, .l a23, .i a24, .l a25, .l a26, .i a27, .i a28, .i a29, .s a36, .i a35, .l a37]) := (Lim_eq _ _).trans (by kernel_rfl)
theorem kqbx : SigOk Tryz.prog (dqbx.sig (Lqbx none)) ∧ (dqbx.sig (Lqbx none)).ok = true := sound_lim (known_cons kqh (by kernel_rfl) (known_cons kqcm (by kernel_rfl) (known_cons kqb (by kernel_rfl) (known_cons kqb2 (by kernel_rfl) (known_cons kqe (by kernel_rfl) (known_cons kqcg (by kernel_rfl) (known_cons kqbm (by kernel_rfl) (known_cons kqco (by kernel_rfl) known_nil)))))))) (by kernel_rfl) (by kernel_rfl) (by kernel_rfl)
def dqdx : FD := { fn := 59, nb := 0, pre := ⟨[.sc (.fz 5 false 0)], []⟩, post := ⟨[.tu [(true, [.i .i64 0, .i .i64 1, .fz 9 true 2, .fz 9 true 3, .i .i64 4, .i .i64 5, .i .i64 6, .i .i64 7, .fz 90 true 8, .fz 156 true 9, .fz 158 true 10, .i .i64 11, .fz 9 true 12, .fz 9 true 13, .i .i64 14, .i .i64 15, .i .i64 16]), (false, [.s 17]), (false, [.s 18])]], []⟩, sh := false, cuts := [] }
noncomputable def Lqdx : Option Nat → Lv → Option Lv := Lim Tryz.prog [dqcm.sig (Lqcm none), dqb.sig (Lqb none), dqcg.sig (Lqcg none), dqcc.sig (Lqcc none), dqco.sig (Lqco none)] dqdx Tryz.f59
theorem eqdx_i (a0 : Rw) : Lqdx none [.l a0] =
 (Lqcm none [.l a0]).bind fun y1 =>
 (Lqco none [.l ((g y1 0).list), .i ((g y1 1).int)]).bind fun y2 =>
 (Lqcg none [.l ((g y2 17).list), .i ((g y2 18).int)]).bind fun y3 =>
 (Lqb none [.i 10, .l ((g y3 6).list), .i ((g y3 7).int)]).bind fun y4 =>
 cond ((g y4 0).int == 0) (
 (Lqb none [.i 2, .l ((g y4 1).list), .i ((g y4 2).int)]).bind fun y5 =>
 cond (inb ((g y5 0).int) (([[.s (⟨#[]⟩ : ByteArray)], [.s (⟨#[120, 32, 121]⟩ : ByteArray)]] : Rw).length)) (
 (Lqcc none [.i ((g y3 0).int), .s ((g y3 1).str), .i ((g y3 2).int), .s ((g y3 3).str), .i ((g y3 4).int), .i ((g y3 5).int), .i ((g y2 4).int), .i ((g y2 5).int), .i ((g y2 6).int), .i ((g y2 7).int), .l ((g y2 8).list), .l ((g y2 9).list), .l ((g y2 10).list)]).bind fun y6 =>
 some [.i ((g y2 0).int), .i ((g y2 1).int), .l ((g y2 2).list), .l ((g y2 3).list), .i ((g y2 4).int), .i ((g y2 5).int), .i ((g y2 6).int), .i ((g y2 7).int), .l ((g y2 8).list), .l ((g y2 9).list), .l ((g y2 10).list), .i ((g y2 11).int), .l ((g y2 12).list), .l ((g y2 13).list), .i ((g y2 14).int), .i ((g y2 15).int), .i ((g y2 16).int), .s ((rd ([[.s (⟨#[]⟩ : ByteArray)], [.s (⟨#[120, 32, 121]⟩ : ByteArray)]] : Rw) (((g y5 0).int).toNat) 0).str), .s ((g y6 0).str)]) (
 none)) (
 (Lqcc none [.i ((g y3 0).int), .s ((g y3 1).str), .i ((g y3 2).int), .s ((g y3 3).str), .i ((g y3 4).int), .i ((g y3 5).int), .i ((g y2 4).int), .i ((g y2 5).int), .i ((g y2 6).int), .i ((g y2 7).int), .l ((g y2 8).list), .l ((g y2 9).list), .l ((g y2 10).list)]).bind fun y7 =>
 some [.i ((g y2 0).int), .i ((g y2 1).int), .l ((g y2 2).list), .l ((g y2 3).list), .i ((g y2 4).int), .i ((g y2 5).int), .i ((g y2 6).int), .i ((g y2 7).int), .l ((g y2 8).list), .l ((g y2 9).list), .l ((g y2 10).list), .i ((g y2 11).int), .l ((g y2 12).list), .l ((g y2 13).list), .i ((g y2 14).int), .i ((g y2 15).int), .i ((g y2 16).int), .s ((g y3 3).str), .s ((g y7 0).str)]) := (Lim_eq _ _).trans (by kernel_rfl)
theorem kqdx : SigOk Tryz.prog (dqdx.sig (Lqdx none)) ∧ (dqdx.sig (Lqdx none)).ok = true := sound_lim (known_cons kqcm (by kernel_rfl) (known_cons kqb (by kernel_rfl) (known_cons kqcg (by kernel_rfl) (known_cons kqcc (by kernel_rfl) (known_cons kqco (by kernel_rfl) known_nil))))) (by kernel_rfl) (by kernel_rfl) (by kernel_rfl)
def dqdy : FD := { fn := 129, nb := 0, pre := ⟨[.ag [.i .i64 0, .i .i64 1, .i .i64 2, .i .i64 3, .fz 90 false 4, .fz 156 false 5, .fz 158 false 6], .ag [.i .i64 7, .fz 9 false 8, .fz 9 false 9, .i .i64 10, .i .i64 11, .i .i64 12]], []⟩, post := ⟨[.sc (.b 0)], []⟩, sh := false, cuts := [] }
noncomputable def Lqdy : Option Nat → Lv → Option Lv := Lim Tryz.prog [dqt.sig (Lqt none), dqc.sig (Lqc none)] dqdy Tryz.f129
theorem eqdy_i (a0 : Int) (a1 : Int) (a2 : Int) (a3 : Int) (a4 : Rw) (a5 : Rw) (a6 : Rw) (a7 : Int) (a8 : Rw) (a9 : Rw) (a10 : Int) (a11 : Int) (a12 : Int) : Lqdy none [.i a0, .i a1, .i a2, .i a3, .l a4, .l a5, .l a6, .i a7, .l a8, .l a9, .i a10, .i a11, .i a12] =
 (Lqc none [.i a0, .i a1, .i a2, .i a3, .l a4, .l a5, .l a6]).bind fun y1 =>
 cond ((g y1 0).bool) (
 (Lqt none [.i a7, .l a8, .l a9, .i a10, .i a11, .i a12, .i a0, .i a1, .i a2, .i a3, .l a4, .l a5, .l a6]).bind fun y2 =>
 some [.b ((g y2 0).bool)]) (
 some [.b false]) := (Lim_eq _ _).trans (by kernel_rfl)
theorem kqdy : SigOk Tryz.prog (dqdy.sig (Lqdy none)) ∧ (dqdy.sig (Lqdy none)).ok = true := sound_lim (known_cons kqt (by kernel_rfl) (known_cons kqc (by kernel_rfl) known_nil)) (by kernel_rfl) (by kernel_rfl) (by kernel_rfl)
def dqdz : FD := { fn := 64, nb := 0, pre := ⟨[.ag [.i .i64 0, .i .i64 1, .i .i64 2, .i .i64 3, .fz 90 false 4, .fz 156 false 5, .fz 158 false 6], .ag [.i .i64 7, .fz 9 false 8, .fz 9 false 9, .i .i64 10, .i .i64 11, .i .i64 12], .sc (.s 13)], []⟩, post := ⟨[.ag [.i .i64 0, .ow 0, .ow 1, .i .i64 1, .i .i64 2, .i .i64 3]], [.rw 9 true 4, .rw 9 true 5]⟩, sh := false, cuts := [] }
noncomputable def Lqdz : Option Nat → Lv → Option Lv := Lim Tryz.prog [dqci.sig (Lqci none), dqdy.sig (Lqdy none)] dqdz Tryz.f64
theorem eqdz_i (a0 : Int) (a1 : Int) (a2 : Int) (a3 : Int) (a4 : Rw) (a5 : Rw) (a6 : Rw) (a7 : Int) (a8 : Rw) (a9 : Rw) (a10 : Int) (a11 : Int) (a12 : Int) (a13 : ByteArray) : Lqdz none [.i a0, .i a1, .i a2, .i a3, .l a4, .l a5, .l a6, .i a7, .l a8, .l a9, .i a10, .i a11, .i a12, .s a13] =
 (Lqdy none [.i a0, .i a1, .i a2, .i a3, .l a4, .l a5, .l a6, .i a7, .l a8, .l a9, .i a10, .i a11, .i a12]).bind fun y1 =>
 cond (!(g y1 0).bool) (
 some [.i 0, .i 0, .i 0, .i 0, .l [], .l []]) (
 (Lqci none [.i a7, .l a8, .l a9, .i a10, .i a11, .i a12, .s a13, .i a0, .i a1, .i a2, .i a3, .l a4, .l a5, .l a6]).bind fun y2 =>
 some [.i ((g y2 0).int), .i ((g y2 1).int), .i ((g y2 2).int), .i ((g y2 3).int), .l ((g y2 4).list), .l ((g y2 5).list)]) := (Lim_eq _ _).trans (by kernel_rfl)
theorem kqdz : SigOk Tryz.prog (dqdz.sig (Lqdz none)) ∧ (dqdz.sig (Lqdz none)).ok = true := sound_lim (known_cons kqci (by kernel_rfl) (known_cons kqdy (by kernel_rfl) known_nil)) (by kernel_rfl) (by kernel_rfl) (by kernel_rfl)
def dqcu : FD := { fn := 10, nb := 0, pre := ⟨[.sc (.fz 5 false 0)], []⟩, post := ⟨[.sc (.b 0)], []⟩, sh := false, cuts := [⟨15, [3, 4, 9], ⟨[.sc (.pt 0 0), .sc (.pt 1 0), .sc (.pt 2 0)], [.bx [.i .i64 0, .i .i64 1, .fz 9 true 2, .fz 9 true 3, .i .i64 4, .i .i64 5, .i .i64 6, .i .i64 7, .fz 90 true 8, .fz 156 true 9, .fz 158 true 10, .i .i64 11, .fz 9 true 12, .fz 9 true 13, .i .i64 14, .i .i64 15, .i .i64 16], .bx [.s 17, .fz 9 true 18], .bx [.i .i64 19, .i .i64 20, .i .i64 21, .ow 3, .ow 4, .i .i64 22, .i .i64 23, .i .i64 24, .i .i64 25, .ow 5, .ow 6, .ow 7, .i .i64 26, .ow 8, .ow 9, .i .i64 27, .i .i64 28, .i .i64 29, .s 30, .i .i64 31, .s 32, .s 33], .rw 9 true 34, .rw 9 true 35, .rw 90 true 36, .rw 156 true 37, .rw 158 true 38, .rw 9 true 39, .rw 9 true 40]⟩⟩] }
noncomputable def Lqcu : Option Nat → Lv → Option Lv := Lim Tryz.prog [dqc6.sig (Lqc6 none), dqc7.sig (Lqc7 none), dqbh.sig (Lqbh none), dqcj.sig (Lqcj none), dqck.sig (Lqck none), dqc1.sig (Lqc1 none), dqcl.sig (Lqcl none), dqcr.sig (Lqcr none), dqc3.sig (Lqc3 none), dqdt.sig (Lqdt none), dqbx.sig (Lqbx none), dqdx.sig (Lqdx none), dqdz.sig (Lqdz none)] dqcu Tryz.f10
theorem eqcu_i (a0 : Rw) : Lqcu none [.l a0] =
 cond (decide (1048576 < (a0.length : Int))) (
 some [.b true]) (
 (Lqbx none [.l a0]).bind fun y1 =>
 (Lqdx none [.l a0]).bind fun y2 =>
 (Lqc6 none [.i ((g y1 0).int), .i ((g y1 1).int), .l ((g y1 2).list), .l ((g y1 3).list), .i ((g y1 4).int), .i ((g y1 5).int), .i ((g y1 6).int), .i ((g y1 7).int), .l ((g y1 8).list), .l ((g y1 9).list), .l ((g y1 10).list), .i ((g y1 11).int), .l ((g y1 12).list), .l ((g y1 13).list), .i ((g y1 14).int), .i ((g y1 15).int), .i ((g y1 16).int), .s ((g y1 17).str), .l ((g y1 19).list), .i ((g y1 18).int)]).bind fun y3 =>
 (Lqcj none [.i ((g y1 0).int), .i ((g y1 1).int), .l ((g y1 2).list), .l ((g y1 3).list), .i ((g y1 4).int), .i ((g y1 5).int), .i ((g y1 6).int), .i ((g y1 7).int), .l ((g y1 8).list), .l ((g y1 9).list), .l ((g y1 10).list), .i ((g y1 11).int), .l ((g y1 12).list), .l ((g y1 13).list), .i ((g y1 14).int), .i ((g y1 15).int), .i ((g y1 16).int), .s ((g y1 17).str), .l ((g y1 19).list), .i ((g y1 18).int)]).bind fun y4 =>
 (Lqc7 none [.i ((g y2 0).int), .i ((g y2 1).int), .l ((g y2 2).list), .l ((g y2 3).list), .i ((g y2 4).int), .i ((g y2 5).int), .i ((g y2 6).int), .i ((g y2 7).int), .l ((g y2 8).list), .l ((g y2 9).list), .l ((g y2 10).list), .i ((g y2 11).int), .l ((g y2 12).list), .l ((g y2 13).list), .i ((g y2 14).int), .i ((g y2 15).int), .i ((g y2 16).int), .s ((g y2 17).str), .s ((g y2 18).str)]).bind fun y5 =>
 (Lqck none [.i ((g y2 0).int), .i ((g y2 1).int), .l ((g y2 2).list), .l ((g y2 3).list), .i ((g y2 4).int), .i ((g y2 5).int), .i ((g y2 6).int), .i ((g y2 7).int), .l ((g y2 8).list), .l ((g y2 9).list), .l ((g y2 10).list), .i ((g y2 11).int), .l ((g y2 12).list), .l ((g y2 13).list), .i ((g y2 14).int), .i ((g y2 15).int), .i ((g y2 16).int), .s ((g y2 17).str), .s ((g y2 18).str)]).bind fun y6 =>
 cond ((g y3 0).int != (g y4 0).int) (
 some [.b false]) (
 cond ((g y5 0).int != (g y6 0).int) (
 some [.b false]) (
 cond (!Eng.seq ((g y3 11).str) ((g y4 11).str)) (
 some [.b false]) (
 cond ((g y3 12).int != (g y4 12).int) (
 some [.b false]) (
 (Lqbh none [.i ((g y1 0).int), .i ((g y1 1).int), .l ((g y1 2).list), .l ((g y1 3).list), .i ((g y1 4).int), .i ((g y1 5).int), .i ((g y1 6).int), .i ((g y1 7).int), .l ((g y1 8).list), .l ((g y1 9).list), .l ((g y1 10).list), .i ((g y1 11).int), .l ((g y1 12).list), .l ((g y1 13).list), .i ((g y1 14).int), .i ((g y1 15).int), .i ((g y1 16).int)]).bind fun y7 =>
 cond (!(g y7 0).bool) (
 (Lqcr none [.i ((g y3 1).int), .i ((g y3 2).int), .l ((g y3 15).list), .l ((g y3 16).list), .i ((g y3 3).int), .i ((g y3 4).int), .i ((g y3 5).int), .i ((g y3 6).int), .l ((g y3 17).list), .l ((g y3 18).list), .l ((g y3 19).list), .i ((g y3 7).int), .l ((g y3 20).list), .l ((g y3 21).list), .i ((g y3 8).int), .i ((g y3 9).int), .i ((g y3 10).int), .i 0, .i 0, .l ([]), .l ([]), .i 0, .i 0, .i 0, .i 0, .l ([]), .l ([]), .l ([]), .i 0, .l ([]), .l ([]), .i 0, .i 0, .i 0]).bind fun y8 =>
 some [.b ((g y8 0).bool)]) (
 cond ((g y3 0).int != 0) (
 (Lqcr none [.i ((g y3 1).int), .i ((g y3 2).int), .l ((g y3 15).list), .l ((g y3 16).list), .i ((g y3 3).int), .i ((g y3 4).int), .i ((g y3 5).int), .i ((g y3 6).int), .l ((g y3 17).list), .l ((g y3 18).list), .l ((g y3 19).list), .i ((g y3 7).int), .l ((g y3 20).list), .l ((g y3 21).list), .i ((g y3 8).int), .i ((g y3 9).int), .i ((g y3 10).int), .i ((g y1 0).int), .i ((g y1 1).int), .l ((g y1 2).list), .l ((g y1 3).list), .i ((g y1 4).int), .i ((g y1 5).int), .i ((g y1 6).int), .i ((g y1 7).int), .l ((g y1 8).list), .l ((g y1 9).list), .l ((g y1 10).list), .i ((g y1 11).int), .l ((g y1 12).list), .l ((g y1 13).list), .i ((g y1 14).int), .i ((g y1 15).int), .i ((g y1 16).int)]).bind fun y9 =>
 cond (!(g y9 0).bool) (
 some [.b false]) (
 cond ((g y5 0).int != 0) (
 (Lqcr none [.i ((g y5 1).int), .i ((g y5 2).int), .l ((g y5 15).list), .l ((g y5 16).list), .i ((g y5 3).int), .i ((g y5 4).int), .i ((g y5 5).int), .i ((g y5 6).int), .l ((g y5 17).list), .l ((g y5 18).list), .l ((g y5 19).list), .i ((g y5 7).int), .l ((g y5 20).list), .l ((g y5 21).list), .i ((g y5 8).int), .i ((g y5 9).int), .i ((g y5 10).int), .i ((g y2 0).int), .i ((g y2 1).int), .l ((g y2 2).list), .l ((g y2 3).list), .i ((g y2 4).int), .i ((g y2 5).int), .i ((g y2 6).int), .i ((g y2 7).int), .l ((g y2 8).list), .l ((g y2 9).list), .l ((g y2 10).list), .i ((g y2 11).int), .l ((g y2 12).list), .l ((g y2 13).list), .i ((g y2 14).int), .i ((g y2 15).int), .i ((g y2 16).int)]).bind fun y10 =>
 cond (!(g y10 0).bool) (
 some [.b false]) (
 Lqcu (some 15) [.i ((g y1 0).int), .i ((g y1 1).int), .l ((g y1 2).list), .l ((g y1 3).list), .i ((g y1 4).int), .i ((g y1 5).int), .i ((g y1 6).int), .i ((g y1 7).int), .l ((g y1 8).list), .l ((g y1 9).list), .l ((g y1 10).list), .i ((g y1 11).int), .l ((g y1 12).list), .l ((g y1 13).list), .i ((g y1 14).int), .i ((g y1 15).int), .i ((g y1 16).int), .s ((g y1 17).str), .l ((g y1 19).list), .i ((g y3 0).int), .i ((g y3 1).int), .i ((g y3 2).int), .i ((g y3 3).int), .i ((g y3 4).int), .i ((g y3 5).int), .i ((g y3 6).int), .i ((g y3 7).int), .i ((g y3 8).int), .i ((g y3 9).int), .i ((g y3 10).int), .s ((g y3 11).str), .i ((g y3 12).int), .s ((g y3 13).str), .s ((g y3 14).str), .l ((g y3 15).list), .l ((g y3 16).list), .l ((g y3 17).list), .l ((g y3 18).list), .l ((g y3 19).list), .l ((g y3 20).list), .l ((g y3 21).list)])) (
 Lqcu (some 15) [.i ((g y1 0).int), .i ((g y1 1).int), .l ((g y1 2).list), .l ((g y1 3).list), .i ((g y1 4).int), .i ((g y1 5).int), .i ((g y1 6).int), .i ((g y1 7).int), .l ((g y1 8).list), .l ((g y1 9).list), .l ((g y1 10).list), .i ((g y1 11).int), .l ((g y1 12).list), .l ((g y1 13).list), .i ((g y1 14).int), .i ((g y1 15).int), .i ((g y1 16).int), .s ((g y1 17).str), .l ((g y1 19).list), .i ((g y3 0).int), .i ((g y3 1).int), .i ((g y3 2).int), .i ((g y3 3).int), .i ((g y3 4).int), .i ((g y3 5).int), .i ((g y3 6).int), .i ((g y3 7).int), .i ((g y3 8).int), .i ((g y3 9).int), .i ((g y3 10).int), .s ((g y3 11).str), .i ((g y3 12).int), .s ((g y3 13).str), .s ((g y3 14).str), .l ((g y3 15).list), .l ((g y3 16).list), .l ((g y3 17).list), .l ((g y3 18).list), .l ((g y3 19).list), .l ((g y3 20).list), .l ((g y3 21).list)]))) (
 cond ((g y5 0).int != 0) (
 (Lqcr none [.i ((g y5 1).int), .i ((g y5 2).int), .l ((g y5 15).list), .l ((g y5 16).list), .i ((g y5 3).int), .i ((g y5 4).int), .i ((g y5 5).int), .i ((g y5 6).int), .l ((g y5 17).list), .l ((g y5 18).list), .l ((g y5 19).list), .i ((g y5 7).int), .l ((g y5 20).list), .l ((g y5 21).list), .i ((g y5 8).int), .i ((g y5 9).int), .i ((g y5 10).int), .i ((g y2 0).int), .i ((g y2 1).int), .l ((g y2 2).list), .l ((g y2 3).list), .i ((g y2 4).int), .i ((g y2 5).int), .i ((g y2 6).int), .i ((g y2 7).int), .l ((g y2 8).list), .l ((g y2 9).list), .l ((g y2 10).list), .i ((g y2 11).int), .l ((g y2 12).list), .l ((g y2 13).list), .i ((g y2 14).int), .i ((g y2 15).int), .i ((g y2 16).int)]).bind fun y11 =>
 cond (!(g y11 0).bool) (
 some [.b false]) (
 Lqcu (some 15) [.i ((g y1 0).int), .i ((g y1 1).int), .l ((g y1 2).list), .l ((g y1 3).list), .i ((g y1 4).int), .i ((g y1 5).int), .i ((g y1 6).int), .i ((g y1 7).int), .l ((g y1 8).list), .l ((g y1 9).list), .l ((g y1 10).list), .i ((g y1 11).int), .l ((g y1 12).list), .l ((g y1 13).list), .i ((g y1 14).int), .i ((g y1 15).int), .i ((g y1 16).int), .s ((g y1 17).str), .l ((g y1 19).list), .i ((g y3 0).int), .i ((g y3 1).int), .i ((g y3 2).int), .i ((g y3 3).int), .i ((g y3 4).int), .i ((g y3 5).int), .i ((g y3 6).int), .i ((g y3 7).int), .i ((g y3 8).int), .i ((g y3 9).int), .i ((g y3 10).int), .s ((g y3 11).str), .i ((g y3 12).int), .s ((g y3 13).str), .s ((g y3 14).str), .l ((g y3 15).list), .l ((g y3 16).list), .l ((g y3 17).list), .l ((g y3 18).list), .l ((g y3 19).list), .l ((g y3 20).list), .l ((g y3 21).list)])) (
 Lqcu (some 15) [.i ((g y1 0).int), .i ((g y1 1).int), .l ((g y1 2).list), .l ((g y1 3).list), .i ((g y1 4).int), .i ((g y1 5).int), .i ((g y1 6).int), .i ((g y1 7).int), .l ((g y1 8).list), .l ((g y1 9).list), .l ((g y1 10).list), .i ((g y1 11).int), .l ((g y1 12).list), .l ((g y1 13).list), .i ((g y1 14).int), .i ((g y1 15).int), .i ((g y1 16).int), .s ((g y1 17).str), .l ((g y1 19).list), .i ((g y3 0).int), .i ((g y3 1).int), .i ((g y3 2).int), .i ((g y3 3).int), .i ((g y3 4).int), .i ((g y3 5).int), .i ((g y3 6).int), .i ((g y3 7).int), .i ((g y3 8).int), .i ((g y3 9).int), .i ((g y3 10).int), .s ((g y3 11).str), .i ((g y3 12).int), .s ((g y3 13).str), .s ((g y3 14).str), .l ((g y3 15).list), .l ((g y3 16).list), .l ((g y3 17).list), .l ((g y3 18).list), .l ((g y3 19).list), .l ((g y3 20).list), .l ((g y3 21).list)])))))))) := (Lim_eq _ _).trans (by kernel_rfl)
theorem eqcu_15 (a0 : Int) (a1 : Int) (a2 : Rw) (a3 : Rw) (a4 : Int) (a5 : Int) (a6 : Int) (a7 : Int) (a8 : Rw) (a9 : Rw) (a10 : Rw) (a11 : Int) (a12 : Rw) (a13 : Rw) (a14 : Int) (a15 : Int) (a16 : Int) (a17 : ByteArray) (a18 : Rw) (a19 : Int) (a20 : Int) (a21 : Int) (a22 : Int) (a23 : Int) (a24 : Int) (a25 : Int) (a26 : Int) (a27 : Int) (a28 : Int) (a29 : Int) (a30 : ByteArray) (a31 : Int) (a32 : ByteArray) (a33 : ByteArray) (a34 : Rw) (a35 : Rw) (a36 : Rw) (a37 : Rw) (a38 : Rw) (a39 : Rw) (a40 : Rw) : Lqcu (some 15) [.i a0, .i a1, .l a2, .l a3, .i a4, .i a5, .i a6, .i a7, .l a8, .l a9, .l a10, .i a11, .l a12, .l a13, .i a14, .i a15, .i a16, .s a17, .l a18, .i a19, .i a20, .i a21, .i a22, .i a23, .i a24, .i a25, .i a26, .i a27, .i a28, .i a29, .s a30, .i a31, .s a32, .s a33, .l a34, .l a35, .l a36, .l a37, .l a38, .l a39, .l a40] =
 cond (a19 == 0) (
 (Lqdz none [.i a22, .i a23, .i a24, .i a25, .l a36, .l a37, .l a38, .i a11, .l a12, .l a13, .i a14, .i a15, .i a16, .s a30]).bind fun y1 =>
 (Lqbh none [.i a20, .i a21, .l a34, .l a35, .i a22, .i a23, .i a24, .i a25, .l a36, .l a37, .l a38, .i a26, .l a39, .l a40, .i a27, .i a28, .i a29]).bind fun y2 =>
 cond (!(g y2 0).bool) (
 some [.b false]) (
 (Lqcl none [.i a26, .l a39, .l a40, .i a27, .i a28, .i a29, .i ((g y1 0).int), .l ((g y1 4).list), .l ((g y1 5).list), .i ((g y1 1).int), .i ((g y1 2).int), .i ((g y1 3).int)]).bind fun y3 =>
 cond (!(g y3 0).bool) (
 some [.b false]) (
 cond ((a35.length : Int) != (IntKind.i64.wrap ((a3.length : Int) + 1))) (
 some [.b false]) (
 (Lqdt none [.i a22, .i a23, .i a24, .i a25, .l a36, .l a37, .l a38]).bind fun y4 =>
 cond (decide (a1 < (g y4 0).int)) (
 some [.b false]) (
 (Lqc3 none [.i a20, .i a21, .l a34, .l a35, .i a22, .i a23, .i a24, .i a25, .l a36, .l a37, .l a38, .i a26, .l a39, .l a40, .i a27, .i a28, .i a29, .s a30]).bind fun y5 =>
 cond ((g y5 1).bool) (
 (Lqc1 none [.s ((g y5 0).str), .l ((g y5 2).list), .s a17, .l a18]).bind fun y6 =>
 some [.b ((g y6 0).bool)]) (
 some [.b false])))))) (
 some [.b true]) := (Lim_eq _ _).trans (by kernel_rfl)
theorem kqcu : SigOk Tryz.prog (dqcu.sig (Lqcu none)) ∧ (dqcu.sig (Lqcu none)).ok = true := sound_lim (known_cons kqc6 (by kernel_rfl) (known_cons kqc7 (by kernel_rfl) (known_cons kqbh (by kernel_rfl) (known_cons kqcj (by kernel_rfl) (known_cons kqck (by kernel_rfl) (known_cons kqc1 (by kernel_rfl) (known_cons kqcl (by kernel_rfl) (known_cons kqcr (by kernel_rfl) (known_cons kqc3 (by kernel_rfl) (known_cons kqdt (by kernel_rfl) (known_cons kqbx (by kernel_rfl) (known_cons kqdx (by kernel_rfl) (known_cons kqdz (by kernel_rfl) known_nil))))))))))))) (by kernel_rfl) (by kernel_rfl) (by kernel_rfl)
end KV
end
