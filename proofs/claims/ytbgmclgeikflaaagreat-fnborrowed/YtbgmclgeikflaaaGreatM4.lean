/- Walks of Go functions, printed by a program of ours. -/
import Derived.Test.YtbgmclgeikflaaaGreatProg
import Derived.Test.YtbgmclgeikflaaaGreatM1
import Derived.Test.YtbgmclgeikflaaaGreatM2
import Derived.Test.YtbgmclgeikflaaaGreatM3
set_option linter.unusedSimpArgs false
set_option linter.unusedVariables false
set_option linter.unusedSectionVars false
section
set_option maxRecDepth 100000
namespace KV
open Go Go.Eng Go.Proofs
def dqbh : FD := { fn := 157, nb := 0, pre := ⟨[.ag [.i .i64 0, .i .i64 1, .i .i64 2, .i .i64 3, .fz 90 false 4, .fz 156 false 5, .fz 158 false 6], .ag [.i .i64 7, .fz 9 false 8, .fz 9 false 9, .i .i64 10, .i .i64 11, .i .i64 12]], []⟩, post := ⟨[.ag [.i .i64 0, .i .i64 1, .i .i64 2, .i .i64 3, .i .i64 4, .fz 90 false 5, .fz 156 false 6, .fz 158 false 7, .i .i64 8, .fz 9 false 9, .fz 9 false 10, .i .i64 11, .i .i64 12, .i .i64 13, .ow 0]], [.rw 9 true 14]⟩, sh := true, cuts := [⟨15, [2, 3, 4, 6, 8, 9], ⟨[.sc (.pt 0 0), .sc (.pt 1 0), .sc (.pt 2 0), .sc (.ow 3), .sc (.fz 9 false 0), .sc (.i .i64 1)], [.bx [.i .i64 2, .i .i64 3, .i .i64 4, .i .i64 5, .fz 90 false 6, .fz 156 false 7, .fz 158 false 8], .bx [.i .i64 9, .fz 9 false 10, .ow 4, .i .i64 11, .i .i64 12, .i .i64 13], .bx [.i .i64 14, .i .i64 15, .i .i64 16, .i .i64 17, .i .i64 18, .ow 5, .ow 6, .ow 7, .i .i64 19, .ow 8, .ow 9, .i .i64 20, .i .i64 21, .i .i64 22, .ow 10], .rw 9 true 23, .rw 9 true 24, .rw 90 true 25, .rw 156 true 26, .rw 158 true 27, .rw 9 true 28, .rw 9 true 29, .rw 9 true 30]⟩⟩] }
noncomputable def Lqbh : Option Nat → Lv → Option Lv := Lim Tryz.prog [dqg.sig (Lqg none), dqp.sig (Lqp none), dqba.sig (Lqba none), dqbo.sig (Lqbo none), dq8.sig (Lq8 none)] dqbh Tryz.f157
theorem eqbh_i (a0 a1 a2 a3 : Int) (a4 a5 a6 : Rw) (a7 : Int) (a8 a9 : Rw) (a10 a11 a12 : Int) : Lqbh none [.i a0, .i a1, .i a2, .i a3, .l a4, .l a5, .l a6, .i a7, .l a8, .l a9, .i a10, .i a11, .i a12] =
 cond (a7 == 0) (
 (Lqba none [.i a0, .i a1, .i a2, .i a3, .l a4, .l a5, .l a6]).bind fun y1 =>
 some [.i 0, .i a0, .i a1, .i a2, .i a3, .l a4, .l a5, .l a6, .i 1, .l ((g y1 0).list), .l a9, .i a3, .i (IntKind.i64.wrap (a3 + 1)), .i a12, .l []]) (
 cond (decide (0 < (a8.length : Int))) (
 cond (inb 0 a8.length) (
 cond (decide (1 ≤ (a8.length : Int))) (
 cond (decide (([] : Rw).length + (Eng.sub a8 1 a8.length).length ≤ most)) (
 (Lqg none [.i a0, .i a1, .i a2, .i a3, .l a4, .l a5, .l a6, .s ((rd a8 0 0).str)]).bind fun y2 =>
 cond (decide (0 ≤ (g y2 0).int)) (
 (Lqp none [.l a9, .s ((rd a8 0 0).str)]).bind fun y3 =>
 cond (!(g y3 0).bool) (
 cond (decide (([] : Rw).length + a9.length ≤ most)) (
 cond (decide ((([] : Rw) ++ a9).length + ([[.s ((rd a8 0 0).str)]] : Rw).length ≤ most)) (
 cond (inb ((g y2 0).int) a4.length) (
 Lqbh (some 15) [.l ((rd a4 (((g y2 0).int).toNat) 3).list), .i 0, .i a0, .i a1, .i a2, .i a3, .l a4, .l a5, .l a6, .i a7, .l a8, .i a10, .i a11, .i a12, .i 0, .i 0, .i 0, .i 0, .i 0, .i 0, .i 0, .i 0, .i 0, .l (([] : Rw) ++ (Eng.sub a8 1 a8.length)), .l ((([] : Rw) ++ a9) ++ ([[.s ((rd a8 0 0).str)]] : Rw)), .l [], .l [], .l [], .l [], .l [], .l []]) (
 none)) (
 none)) (
 none)) (
 some [.i 0, .i a0, .i a1, .i a2, .i a3, .l a4, .l a5, .l a6, .i a7, .l (([] : Rw) ++ (Eng.sub a8 1 a8.length)), .l a9, .i a10, .i a11, .i a12, .l []])) (
 some [.i 0, .i a0, .i a1, .i a2, .i a3, .l a4, .l a5, .l a6, .i a7, .l (([] : Rw) ++ (Eng.sub a8 1 a8.length)), .l a9, .i a10, .i a11, .i a12, .l []])) (
 none)) (
 none)) (
 none)) (
 (Lqbo none [.i a0, .i a1, .i a2, .i a3, .l a4, .l a5, .l a6, .i a11]).bind fun y4 =>
 cond (decide ((g y4 0).int < 0)) (
 some [.i 0, .i a0, .i a1, .i a2, .i a3, .l a4, .l a5, .l a6, .i 0, .l ([]), .l ([]), .i 0, .i 0, .i (IntKind.i64.wrap (a12 + 1)), .l []]) (
 cond (inb ((g y4 0).int) a4.length) (
 cond (inb ((g y4 0).int) a4.length) (
 (Lqp none [.l a9, .s ((rd a4 (((g y4 0).int).toNat) 0).str)]).bind fun y5 =>
 cond ((g y5 0).bool) (
 some [.i 0, .i a0, .i a1, .i a2, .i a3, .l a4, .l a5, .l a6, .i 2, .l a8, .l a9, .i a10, .i ((rd a4 (((g y4 0).int).toNat) 1).int), .i a12, .l []]) (
 (Lq8 none [.i a0, .i a1, .i a2, .i a3, .l a4, .l a5, .l a6, .s ((rd a4 (((g y4 0).int).toNat) 0).str)]).bind fun y6 =>
 cond ((g y6 0).int != 0) (
 some [.i 0, .i a0, .i a1, .i a2, .i a3, .l a4, .l a5, .l a6, .i 2, .l a8, .l a9, .i a10, .i ((rd a4 (((g y4 0).int).toNat) 1).int), .i a12, .l []]) (
 some [.i 0, .i ((g y6 1).int), .i ((g y6 2).int), .i ((g y6 3).int), .i ((g y6 4).int), .l ((g y6 11).list), .l ((g y6 5).list), .l ((g y6 6).list), .i 2, .l a8, .l a9, .i a10, .i ((rd a4 (((g y4 0).int).toNat) 1).int), .i a12, .l ([[.s ((rd a4 (((g y4 0).int).toNat) 0).str)]] : Rw)]))) (
 none)) (
 none)))) := (zd _ _).trans (by kernel_rfl)
theorem eqbh_15 (a0 : Rw) (a1 a2 a3 a4 a5 : Int) (a6 a7 a8 : Rw) (a9 : Int) (a10 : Rw) (a11 a12 a13 a14 a15 a16 a17 a18 a19 a20 a21 a22 : Int) (a23 a24 a25 a26 a27 a28 a29 a30 : Rw) : Lqbh (some 15) [.l a0, .i a1, .i a2, .i a3, .i a4, .i a5, .l a6, .l a7, .l a8, .i a9, .l a10, .i a11, .i a12, .i a13, .i a14, .i a15, .i a16, .i a17, .i a18, .i a19, .i a20, .i a21, .i a22, .l a23, .l a24, .l a25, .l a26, .l a27, .l a28, .l a29, .l a30] =
 cond (decide (a1 < (a0.length : Int))) (
 cond (inb a1 a0.length) (
 (Lqp none [.l a24, .s ((rd a0 a1.toNat 0).str)]).bind fun y1 =>
 cond (!(g y1 0).bool) (
 cond (inb a1 a0.length) (
 cond (decide (a23.length + ([[.s ((rd a0 a1.toNat 0).str)]] : Rw).length ≤ most)) (
 Lqbh (some 15) [.l a0, .i (IntKind.i64.wrap (a1 + 1)), .i a2, .i a3, .i a4, .i a5, .l a6, .l a7, .l a8, .i a9, .l a10, .i a11, .i a12, .i a13, .i a14, .i a15, .i a16, .i a17, .i a18, .i a19, .i a20, .i a21, .i a22, .l (a23 ++ ([[.s ((rd a0 a1.toNat 0).str)]] : Rw)), .l a24, .l a25, .l a26, .l a27, .l a28, .l a29, .l a30]) (
 none)) (
 none)) (
 Lqbh (some 15) [.l a0, .i (IntKind.i64.wrap (a1 + 1)), .i a2, .i a3, .i a4, .i a5, .l a6, .l a7, .l a8, .i a9, .l a10, .i a11, .i a12, .i a13, .i a14, .i a15, .i a16, .i a17, .i a18, .i a19, .i a20, .i a21, .i a22, .l a23, .l a24, .l a25, .l a26, .l a27, .l a28, .l a29, .l a30])) (
 none)) (
 some [.i 0, .i a2, .i a3, .i a4, .i a5, .l a6, .l a7, .l a8, .i a9, .l a23, .l a24, .i a11, .i a12, .i a13, .l []]) := (zd _ _).trans (by kernel_rfl)
theorem kqbh : SigOk Tryz.prog (dqbh.sig (Lqbh none)) ∧ (dqbh.sig (Lqbh none)).ok = true := zf (zb kqg (by kernel_rfl) (zb kqp (by kernel_rfl) (zb kqba (by kernel_rfl) (zb kqbo (by kernel_rfl) (zb kq8 (by kernel_rfl) ze))))) (by kernel_rfl) (by kernel_rfl) (by kernel_rfl)
def dqcg : FD := { fn := 93, nb := 0, pre := ⟨[.ag [.i .i64 0, .i .i64 1, .fz 9 false 2, .fz 9 false 3, .i .i64 4, .i .i64 5, .i .i64 6, .i .i64 7, .fz 90 false 8, .fz 156 false 9, .fz 158 false 10, .i .i64 11, .fz 9 false 12, .fz 9 false 13, .i .i64 14, .i .i64 15, .i .i64 16], .sc (.i .i64 17)], []⟩, post := ⟨[.ag [.i .i64 0, .i .i64 1, .i .i64 2, .ow 0, .ow 1, .i .i64 3, .i .i64 4, .i .i64 5, .i .i64 6, .ow 2, .ow 3, .ow 4, .i .i64 7, .ow 5, .ow 6, .i .i64 8, .i .i64 9, .i .i64 10, .i .i64 11, .ow 7]], [.rw 9 true 12, .rw 9 true 13, .rw 90 true 14, .rw 156 true 15, .rw 158 true 16, .rw 9 true 17, .rw 9 true 18, .rw 9 true 19]⟩, sh := false, cuts := [⟨4, [1, 2, 4, 5], ⟨[.sc (.i .i64 0), .sc (.pt 0 0), .sc (.pt 1 0), .sc (.pt 2 0)], [.bx [.i .i64 1, .i .i64 2, .fz 9 false 3, .fz 9 false 4, .i .i64 5, .i .i64 6, .i .i64 7, .i .i64 8, .fz 90 false 9, .fz 156 false 10, .fz 158 false 11, .i .i64 12, .fz 9 false 13, .fz 9 false 14, .i .i64 15, .i .i64 16, .i .i64 17], .bx [.i .i64 18, .i .i64 19, .i .i64 20, .ow 3, .ow 4, .i .i64 21, .i .i64 22, .i .i64 23, .i .i64 24, .ow 5, .ow 6, .ow 7, .i .i64 25, .ow 8, .ow 9, .i .i64 26, .i .i64 27, .i .i64 28, .i .i64 29, .ow 10], .bx [.i .i64 30, .i .i64 31, .i .i64 32, .ow 11, .ow 12, .i .i64 33, .i .i64 34, .i .i64 35, .i .i64 36, .fz 90 true 37, .fz 156 true 38, .fz 158 true 39, .i .i64 40, .fz 9 true 41, .fz 9 true 42, .i .i64 43, .i .i64 44, .i .i64 45, .i .i64 46, .ow 13], .rw 9 true 47, .rw 9 true 48, .rw 90 true 49, .rw 156 true 50, .rw 158 true 51, .rw 9 true 52, .rw 9 true 53, .rw 9 true 54, .rw 9 true 55, .rw 9 true 56, .rw 9 true 57]⟩⟩] }
noncomputable def Lqcg : Option Nat → Lv → Option Lv := Lim Tryz.prog [dqv.sig (Lqv none), dqx.sig (Lqx none), dqbf.sig (Lqbf none), dqbv.sig (Lqbv none), dqbh.sig (Lqbh none)] dqcg Tryz.f93
theorem eqcg_i (a0 a1 : Int) (a2 a3 : Rw) (a4 a5 a6 a7 : Int) (a8 a9 a10 : Rw) (a11 : Int) (a12 a13 : Rw) (a14 a15 a16 a17 : Int) : Lqcg none [.i a0, .i a1, .l a2, .l a3, .i a4, .i a5, .i a6, .i a7, .l a8, .l a9, .l a10, .i a11, .l a12, .l a13, .i a14, .i a15, .i a16, .i a17] =
 (Lqbf none [.i a0, .i a1, .l a2, .l a3, .i a4, .i a5, .i a6, .i a7, .l a8, .l a9, .l a10, .i a11, .l a12, .l a13, .i a14, .i a15, .i a16]).bind fun y1 =>
 cond (!(g y1 0).bool) (
 some [.i 1, .i 0, .i 0, .i 0, .i 0, .i 0, .i 0, .i 0, .i 0, .i 0, .i 0, .i 0, .l [], .l [], .l [], .l [], .l [], .l [], .l [], .l []]) (
 (Lqx none [.i a17, .i 0, .i 10000]).bind fun y2 =>
 cond (!(g y2 0).bool) (
 some [.i 1, .i 0, .i 0, .i 0, .i 0, .i 0, .i 0, .i 0, .i 0, .i 0, .i 0, .i 0, .l [], .l [], .l [], .l [], .l [], .l [], .l [], .l []]) (
 (Lqbv none [.i a0, .i a1, .l a2, .l a3, .i a4, .i a5, .i a6, .i a7, .l a8, .l a9, .l a10, .i a11, .l a12, .l a13, .i a14, .i a15, .i a16]).bind fun y3 =>
 Lqcg (some 4) [.i a17, .i a0, .i a1, .l a2, .l a3, .i a4, .i a5, .i a6, .i a7, .l a8, .l a9, .l a10, .i a11, .l a12, .l a13, .i a14, .i a15, .i a16, .i 0, .i 0, .i 0, .i 0, .i 0, .i 0, .i 0, .i 0, .i 0, .i 0, .i 0, .i 0, .i 0, .i ((g y3 0).int), .i ((g y3 1).int), .i ((g y3 2).int), .i ((g y3 3).int), .i ((g y3 4).int), .i ((g y3 5).int), .l ((g y3 12).list), .l ((g y3 13).list), .l ((g y3 14).list), .i ((g y3 6).int), .l ((g y3 15).list), .l ((g y3 16).list), .i ((g y3 7).int), .i ((g y3 8).int), .i ((g y3 9).int), .i 0, .l [], .l [], .l [], .l [], .l [], .l [], .l [], .l [], .l ((g y3 10).list), .l ((g y3 11).list), .l []])) := (zd _ _).trans (by kernel_rfl)
theorem eqcg_4 (a0 a1 a2 : Int) (a3 a4 : Rw) (a5 a6 a7 a8 : Int) (a9 a10 a11 : Rw) (a12 : Int) (a13 a14 : Rw) (a15 a16 a17 a18 a19 a20 a21 a22 a23 a24 a25 a26 a27 a28 a29 a30 a31 a32 a33 a34 a35 a36 : Int) (a37 a38 a39 : Rw) (a40 : Int) (a41 a42 : Rw) (a43 a44 a45 a46 : Int) (a47 a48 a49 a50 a51 a52 a53 a54 a55 a56 a57 : Rw) : Lqcg (some 4) [.i a0, .i a1, .i a2, .l a3, .l a4, .i a5, .i a6, .i a7, .i a8, .l a9, .l a10, .l a11, .i a12, .l a13, .l a14, .i a15, .i a16, .i a17, .i a18, .i a19, .i a20, .i a21, .i a22, .i a23, .i a24, .i a25, .i a26, .i a27, .i a28, .i a29, .i a30, .i a31, .i a32, .i a33, .i a34, .i a35, .i a36, .l a37, .l a38, .l a39, .i a40, .l a41, .l a42, .i a43, .i a44, .i a45, .i a46, .l a47, .l a48, .l a49, .l a50, .l a51, .l a52, .l a53, .l a54, .l a55, .l a56, .l a57] =
 cond (decide (a46 < a0)) (
 cond (decide (1000000000 ≤ a45)) (
 some [.i 1, .i 0, .i 0, .i 0, .i 0, .i 0, .i 0, .i 0, .i 0, .i 0, .i 0, .i 0, .l [], .l [], .l [], .l [], .l [], .l [], .l [], .l []]) (
 (Lqbh none [.i a33, .i a34, .i a35, .i a36, .l a37, .l a38, .l a39, .i a40, .l a41, .l a42, .i a43, .i a44, .i a45]).bind fun y1 =>
 cond (decide (23200 < (((g y1 9).list).length : Int))) (
 some [.i 1, .i 0, .i 0, .i 0, .i 0, .i 0, .i 0, .i 0, .i 0, .i 0, .i 0, .i 0, .l [], .l [], .l [], .l [], .l [], .l [], .l [], .l []]) (
 cond (decide (600 < (((g y1 10).list).length : Int))) (
 some [.i 1, .i 0, .i 0, .i 0, .i 0, .i 0, .i 0, .i 0, .i 0, .i 0, .i 0, .i 0, .l [], .l [], .l [], .l [], .l [], .l [], .l [], .l []]) (
 cond (decide (0 < (((g y1 14).list).length : Int))) (
 cond (decide (4000 ≤ (IntKind.i64.wrap ((a55.length : Int) + (a56.length : Int))))) (
 (Lqbv none [.i a31, .i a32, .l a55, .l a56, .i a33, .i a34, .i a35, .i a36, .l a37, .l a38, .l a39, .i a40, .l a41, .l a42, .i a43, .i a44, .i a45]).bind fun y2 =>
 some [.i a30, .i ((g y2 0).int), .i ((g y2 1).int), .i ((g y2 2).int), .i ((g y2 3).int), .i ((g y2 4).int), .i ((g y2 5).int), .i ((g y2 6).int), .i ((g y2 7).int), .i ((g y2 8).int), .i ((g y2 9).int), .i a46, .l ((g y2 10).list), .l ((g y2 11).list), .l ((g y2 12).list), .l ((g y2 13).list), .l ((g y2 14).list), .l ((g y2 15).list), .l ((g y2 16).list), .l a57]) (
 cond (inb 0 (((g y1 14).list).length)) (
 (Lqv none [.i 7, .s ((rd ((g y1 14).list) 0 0).str), .s (⟨#[]⟩ : ByteArray), .i 0, .s (⟨#[]⟩ : ByteArray), .l ([]), .i a1]).bind fun y3 =>
 cond (decide (a56.length + ([[.s ((g y3 0).str)]] : Rw).length ≤ most)) (
 cond (inb 0 (((g y1 14).list).length)) (
 cond (decide (a57.length + ([[.s ((rd ((g y1 14).list) 0 0).str)]] : Rw).length ≤ most)) (
 Lqcg (some 4) [.i a0, .i a1, .i a2, .l a3, .l a4, .i a5, .i a6, .i a7, .i a8, .l a9, .l a10, .l a11, .i a12, .l a13, .l a14, .i a15, .i a16, .i a17, .i a18, .i a19, .i a20, .i a21, .i a22, .i a23, .i a24, .i a25, .i a26, .i a27, .i a28, .i a29, .i a30, .i a31, .i a32, .i ((g y1 1).int), .i ((g y1 2).int), .i ((g y1 3).int), .i ((g y1 4).int), .l ((g y1 5).list), .l ((g y1 6).list), .l ((g y1 7).list), .i ((g y1 8).int), .l ((g y1 9).list), .l ((g y1 10).list), .i ((g y1 11).int), .i ((g y1 12).int), .i ((g y1 13).int), .i (IntKind.i64.wrap (a46 + 1)), .l a47, .l a48, .l a49, .l a50, .l a51, .l a52, .l a53, .l a54, .l a55, .l (a56 ++ ([[.s ((g y3 0).str)]] : Rw)), .l (a57 ++ ([[.s ((rd ((g y1 14).list) 0 0).str)]] : Rw))]) (
 none)) (
 none)) (
 none)) (
 none))) (
 Lqcg (some 4) [.i a0, .i a1, .i a2, .l a3, .l a4, .i a5, .i a6, .i a7, .i a8, .l a9, .l a10, .l a11, .i a12, .l a13, .l a14, .i a15, .i a16, .i a17, .i a18, .i a19, .i a20, .i a21, .i a22, .i a23, .i a24, .i a25, .i a26, .i a27, .i a28, .i a29, .i a30, .i a31, .i a32, .i ((g y1 1).int), .i ((g y1 2).int), .i ((g y1 3).int), .i ((g y1 4).int), .l ((g y1 5).list), .l ((g y1 6).list), .l ((g y1 7).list), .i ((g y1 8).int), .l ((g y1 9).list), .l ((g y1 10).list), .i ((g y1 11).int), .i ((g y1 12).int), .i ((g y1 13).int), .i (IntKind.i64.wrap (a46 + 1)), .l a47, .l a48, .l a49, .l a50, .l a51, .l a52, .l a53, .l a54, .l a55, .l a56, .l a57]))))) (
 (Lqbv none [.i a31, .i a32, .l a55, .l a56, .i a33, .i a34, .i a35, .i a36, .l a37, .l a38, .l a39, .i a40, .l a41, .l a42, .i a43, .i a44, .i a45]).bind fun y4 =>
 some [.i a30, .i ((g y4 0).int), .i ((g y4 1).int), .i ((g y4 2).int), .i ((g y4 3).int), .i ((g y4 4).int), .i ((g y4 5).int), .i ((g y4 6).int), .i ((g y4 7).int), .i ((g y4 8).int), .i ((g y4 9).int), .i a46, .l ((g y4 10).list), .l ((g y4 11).list), .l ((g y4 12).list), .l ((g y4 13).list), .l ((g y4 14).list), .l ((g y4 15).list), .l ((g y4 16).list), .l a57]) := (zd _ _).trans (by kernel_rfl)
theorem kqcg : SigOk Tryz.prog (dqcg.sig (Lqcg none)) ∧ (dqcg.sig (Lqcg none)).ok = true := zf (zb kqv (by kernel_rfl) (zb kqx (by kernel_rfl) (zb kqbf (by kernel_rfl) (zb kqbv (by kernel_rfl) (zb kqbh (by kernel_rfl) ze))))) (by kernel_rfl) (by kernel_rfl) (by kernel_rfl)
def dqdx : FD := { fn := 230, nb := 0, pre := ⟨[.ag [.fz 9 false 0, .fz 9 false 1]], []⟩, post := ⟨[.ag [.ow 0, .ow 1]], [.rw 9 true 0, .rw 9 true 1]⟩, sh := false, cuts := [] }
noncomputable def Lqdx : Option Nat → Lv → Option Lv := Lim Tryz.prog [dqn.sig (Lqn none)] dqdx Tryz.f230
theorem eqdx_i (a0 a1 : Rw) : Lqdx none [.l a0, .l a1] =
 (Lqn none [.l a0, .l a1]).bind fun y1 =>
 cond (!(g y1 0).bool) (
 some [.l [], .l []]) (
 cond (decide (([] : Rw).length + a0.length ≤ most)) (
 cond (decide ((([] : Rw) ++ a0).length + a1.length ≤ most)) (
 some [.l ((([] : Rw) ++ a0) ++ a1), .l []]) (
 none)) (
 none)) := (zd _ _).trans (by kernel_rfl)
theorem kqdx : SigOk Tryz.prog (dqdx.sig (Lqdx none)) ∧ (dqdx.sig (Lqdx none)).ok = true := zf (zb kqn (by kernel_rfl) ze) (by kernel_rfl) (by kernel_rfl) (by kernel_rfl)
def dqdy : FD := { fn := 218, nb := 0, pre := ⟨[.ag [.i .i64 0, .i .i64 1, .fz 9 false 2, .fz 9 false 3, .i .i64 4, .i .i64 5, .i .i64 6, .i .i64 7, .fz 90 false 8, .fz 156 false 9, .fz 158 false 10, .i .i64 11, .fz 9 false 12, .fz 9 false 13, .i .i64 14, .i .i64 15, .i .i64 16]], []⟩, post := ⟨[.ag [.i .i64 0, .i .i64 1, .ow 0, .ow 1, .i .i64 2, .i .i64 3, .i .i64 4, .i .i64 5, .ow 2, .ow 3, .ow 4, .i .i64 6, .ow 5, .ow 6, .i .i64 7, .i .i64 8, .i .i64 9]], [.rw 9 true 10, .rw 9 true 11, .rw 90 true 12, .rw 156 true 13, .rw 158 true 14, .rw 9 true 15, .rw 9 true 16]⟩, sh := false, cuts := [] }
noncomputable def Lqdy : Option Nat → Lv → Option Lv := Lim Tryz.prog [dqbf.sig (Lqbf none), dqbv.sig (Lqbv none), dqdx.sig (Lqdx none)] dqdy Tryz.f218
theorem eqdy_i (a0 a1 : Int) (a2 a3 : Rw) (a4 a5 a6 a7 : Int) (a8 a9 a10 : Rw) (a11 : Int) (a12 a13 : Rw) (a14 a15 a16 : Int) : Lqdy none [.i a0, .i a1, .l a2, .l a3, .i a4, .i a5, .i a6, .i a7, .l a8, .l a9, .l a10, .i a11, .l a12, .l a13, .i a14, .i a15, .i a16] =
 (Lqbf none [.i a0, .i a1, .l a2, .l a3, .i a4, .i a5, .i a6, .i a7, .l a8, .l a9, .l a10, .i a11, .l a12, .l a13, .i a14, .i a15, .i a16]).bind fun y1 =>
 cond (!(g y1 0).bool) (
 some [.i 0, .i 0, .i 0, .i 0, .i 0, .i 0, .i 0, .i 0, .i 0, .i 0, .l [], .l [], .l [], .l [], .l [], .l [], .l []]) (
 (Lqbv none [.i a0, .i a1, .l a2, .l a3, .i a4, .i a5, .i a6, .i a7, .l a8, .l a9, .l a10, .i a11, .l a12, .l a13, .i a14, .i a15, .i a16]).bind fun y2 =>
 (Lqdx none [.l a2, .l a3]).bind fun y3 =>
 some [.i ((g y2 0).int), .i ((g y2 1).int), .i ((g y2 2).int), .i ((g y2 3).int), .i ((g y2 4).int), .i ((g y2 5).int), .i ((g y2 6).int), .i ((g y2 7).int), .i ((g y2 8).int), .i ((g y2 9).int), .l ((g y3 0).list), .l ((g y3 1).list), .l ((g y2 12).list), .l ((g y2 13).list), .l ((g y2 14).list), .l ((g y2 15).list), .l ((g y2 16).list)]) := (zd _ _).trans (by kernel_rfl)
theorem kqdy : SigOk Tryz.prog (dqdy.sig (Lqdy none)) ∧ (dqdy.sig (Lqdy none)).ok = true := zf (zb kqbf (by kernel_rfl) (zb kqbv (by kernel_rfl) (zb kqdx (by kernel_rfl) ze))) (by kernel_rfl) (by kernel_rfl) (by kernel_rfl)
def dqdz : FD := { fn := 231, nb := 0, pre := ⟨[.ag [.fz 9 false 0, .fz 9 false 1], .sc (.i .i64 2)], []⟩, post := ⟨[.ag [.ow 0, .fz 9 true 0]], [.rw 9 true 1]⟩, sh := false, cuts := [] }
noncomputable def Lqdz : Option Nat → Lv → Option Lv := Lim Tryz.prog [dqn.sig (Lqn none)] dqdz Tryz.f231
theorem eqdz_i (a0 a1 : Rw) (a2 : Int) : Lqdz none [.l a0, .l a1, .i a2] =
 (Lqn none [.l a0, .l a1]).bind fun y1 =>
 cond (!(g y1 0).bool) (
 some [.l ([]), .l []]) (
 cond (decide (a2 < 0)) (
 cond (decide ((a1.length : Int) < 0)) (
 cond (decide (([] : Rw).length + a0.length ≤ most)) (
 cond (decide (0 ≤ (a1.length : Int))) (
 cond (decide ((a1.length : Int) ≤ (a1.length : Int))) (
 cond (decide ((([] : Rw) ++ a0).length + (Eng.sub a1 0 ((a1.length : Int).toNat)).length ≤ most)) (
 some [.l ([]), .l ((([] : Rw) ++ a0) ++ (Eng.sub a1 0 ((a1.length : Int).toNat)))]) (
 none)) (
 none)) (
 none)) (
 none)) (
 cond (decide (([] : Rw).length + a0.length ≤ most)) (
 cond (decide (0 ≤ (a1.length : Int))) (
 cond (decide ((([] : Rw) ++ a0).length + (Eng.sub a1 0 0).length ≤ most)) (
 some [.l ([]), .l ((([] : Rw) ++ a0) ++ (Eng.sub a1 0 0))]) (
 none)) (
 none)) (
 none))) (
 cond (decide ((a1.length : Int) < a2)) (
 cond (decide (([] : Rw).length + a0.length ≤ most)) (
 cond (decide (0 ≤ (a1.length : Int))) (
 cond (decide ((a1.length : Int) ≤ (a1.length : Int))) (
 cond (decide ((([] : Rw) ++ a0).length + (Eng.sub a1 0 ((a1.length : Int).toNat)).length ≤ most)) (
 some [.l ([]), .l ((([] : Rw) ++ a0) ++ (Eng.sub a1 0 ((a1.length : Int).toNat)))]) (
 none)) (
 none)) (
 none)) (
 none)) (
 cond (decide (([] : Rw).length + a0.length ≤ most)) (
 cond (decide (0 ≤ a2)) (
 cond (decide (a2 ≤ (a1.length : Int))) (
 cond (decide ((([] : Rw) ++ a0).length + (Eng.sub a1 0 a2.toNat).length ≤ most)) (
 some [.l ([]), .l ((([] : Rw) ++ a0) ++ (Eng.sub a1 0 a2.toNat))]) (
 none)) (
 none)) (
 none)) (
 none)))) := (zd _ _).trans (by kernel_rfl)
theorem kqdz : SigOk Tryz.prog (dqdz.sig (Lqdz none)) ∧ (dqdz.sig (Lqdz none)).ok = true := zf (zb kqn (by kernel_rfl) ze) (by kernel_rfl) (by kernel_rfl) (by kernel_rfl)
def dqdg : FD := { fn := 219, nb := 0, pre := ⟨[.ag [.i .i64 0, .i .i64 1, .fz 9 false 2, .fz 9 false 3, .i .i64 4, .i .i64 5, .i .i64 6, .i .i64 7, .fz 90 false 8, .fz 156 false 9, .fz 158 false 10, .i .i64 11, .fz 9 false 12, .fz 9 false 13, .i .i64 14, .i .i64 15, .i .i64 16], .sc (.i .i64 17)], []⟩, post := ⟨[.ag [.i .i64 0, .i .i64 1, .ow 0, .ow 1, .i .i64 2, .i .i64 3, .i .i64 4, .i .i64 5, .ow 2, .ow 3, .ow 4, .i .i64 6, .fz 9 true 7, .fz 9 true 8, .i .i64 9, .i .i64 10, .i .i64 11]], [.rw 9 true 12, .rw 9 true 13, .rw 90 true 14, .rw 156 true 15, .rw 158 true 16]⟩, sh := false, cuts := [] }
noncomputable def Lqdg : Option Nat → Lv → Option Lv := Lim Tryz.prog [dqbf.sig (Lqbf none), dqbw.sig (Lqbw none), dqdz.sig (Lqdz none)] dqdg Tryz.f219
theorem eqdg_i (a0 a1 : Int) (a2 a3 : Rw) (a4 a5 a6 a7 : Int) (a8 a9 a10 : Rw) (a11 : Int) (a12 a13 : Rw) (a14 a15 a16 a17 : Int) : Lqdg none [.i a0, .i a1, .l a2, .l a3, .i a4, .i a5, .i a6, .i a7, .l a8, .l a9, .l a10, .i a11, .l a12, .l a13, .i a14, .i a15, .i a16, .i a17] =
 (Lqbf none [.i a0, .i a1, .l a2, .l a3, .i a4, .i a5, .i a6, .i a7, .l a8, .l a9, .l a10, .i a11, .l a12, .l a13, .i a14, .i a15, .i a16]).bind fun y1 =>
 cond (!(g y1 0).bool) (
 some [.i 0, .i 0, .i 0, .i 0, .i 0, .i 0, .i 0, .l ([]), .l ([]), .i 0, .i 0, .i 0, .l [], .l [], .l [], .l [], .l []]) (
 (Lqdz none [.l a2, .l a3, .i a17]).bind fun y2 =>
 (Lqbw none [.i a0, .i a1, .l ((g y2 1).list), .l ((g y2 0).list)]).bind fun y3 =>
 some [.i ((g y3 0).int), .i ((g y3 1).int), .i ((g y3 2).int), .i ((g y3 3).int), .i ((g y3 4).int), .i ((g y3 5).int), .i ((g y3 6).int), .l ((g y3 7).list), .l ((g y3 8).list), .i ((g y3 9).int), .i ((g y3 10).int), .i ((g y3 11).int), .l ((g y3 13).list), .l ((g y3 14).list), .l ((g y3 15).list), .l ((g y3 16).list), .l ((g y3 17).list)]) := (zd _ _).trans (by kernel_rfl)
theorem kqdg : SigOk Tryz.prog (dqdg.sig (Lqdg none)) ∧ (dqdg.sig (Lqdg none)).ok = true := zf (zb kqbf (by kernel_rfl) (zb kqbw (by kernel_rfl) (zb kqdz (by kernel_rfl) ze))) (by kernel_rfl) (by kernel_rfl) (by kernel_rfl)
def dqbq : FD := { fn := 175, nb := 0, pre := ⟨[.ag [.i .i64 0, .i .i64 1, .fz 9 false 2, .ow 0, .i .i64 3, .i .i64 4, .i .i64 5, .i .i64 6, .fz 90 false 7, .ow 1, .ow 2, .i .i64 8, .fz 9 false 9, .fz 9 false 10, .i .i64 11, .i .i64 12, .i .i64 13], .ag [.i .i64 14, .s 15, .i .i64 16, .s 17, .i .i64 18, .i .i64 19]], [.rw 9 false 20, .rw 156 false 21, .rw 158 false 22]⟩, post := ⟨[.ag [.i .i64 0, .i .i64 1, .fz 9 false 2, .ow 0, .i .i64 3, .i .i64 4, .i .i64 5, .i .i64 6, .fz 90 false 7, .ow 1, .ow 2, .i .i64 8, .fz 9 false 9, .fz 9 false 10, .i .i64 11, .i .i64 12, .i .i64 13]], [.rw 9 false 14, .rw 156 false 15, .rw 158 false 16]⟩, sh := true, cuts := [⟨21, [2, 4, 5], ⟨[.sc (.pt 0 0), .sc (.pt 1 0), .sc (.pt 2 0)], [.bx [.i .i64 0, .i .i64 1, .fz 9 false 2, .ow 3, .i .i64 3, .i .i64 4, .i .i64 5, .i .i64 6, .fz 90 false 7, .ow 4, .ow 5, .i .i64 8, .fz 9 false 9, .fz 9 false 10, .i .i64 11, .i .i64 12, .i .i64 13], .bx [.i .i64 14, .i .i64 15, .ow 13, .ow 14, .i .i64 16, .i .i64 17, .i .i64 18, .i .i64 19, .ow 15, .ow 16, .ow 17, .i .i64 20, .ow 18, .ow 19, .i .i64 21, .i .i64 22, .i .i64 23], .bx [.i .i64 24, .i .i64 25, .i .i64 26, .ow 6, .ow 7, .i .i64 27, .i .i64 28, .i .i64 29, .i .i64 30, .ow 8, .ow 9, .ow 10, .i .i64 31, .ow 11, .ow 12, .i .i64 32, .i .i64 33, .i .i64 34, .s 35, .i .i64 36, .s 37, .s 38], .rw 9 false 39, .rw 156 false 40, .rw 158 false 41, .rw 9 true 42, .rw 9 true 43, .rw 90 true 44, .rw 156 true 45, .rw 158 true 46, .rw 9 true 47, .rw 9 true 48, .rw 9 true 49, .rw 9 true 50, .rw 90 true 51, .rw 156 true 52, .rw 158 true 53, .rw 9 true 54, .rw 9 true 55]⟩⟩] }
noncomputable def Lqbq : Option Nat → Lv → Option Lv := Lim Tryz.prog [dqbn.sig (Lqbn none), dqc0.sig (Lqc0 none), dqda.sig (Lqda none), dqco.sig (Lqco none), dqdb.sig (Lqdb none), dqdc.sig (Lqdc none), dqdd.sig (Lqdd none), dqde.sig (Lqde none), dqdf.sig (Lqdf none), dqcg.sig (Lqcg none), dqdy.sig (Lqdy none), dqdg.sig (Lqdg none)] dqbq Tryz.f175
theorem eqbq_i (a0 a1 : Int) (a2 : Rw) (a3 a4 a5 a6 : Int) (a7 : Rw) (a8 : Int) (a9 a10 : Rw) (a11 a12 a13 a14 : Int) (a15 : ByteArray) (a16 : Int) (a17 : ByteArray) (a18 a19 : Int) (a20 a21 a22 : Rw) : Lqbq none [.i a0, .i a1, .l a2, .i a3, .i a4, .i a5, .i a6, .l a7, .i a8, .l a9, .l a10, .i a11, .i a12, .i a13, .i a14, .s a15, .i a16, .s a17, .i a18, .i a19, .l a20, .l a21, .l a22] =
 cond (a14 == 1) (
 (Lqbn none [.i a14, .s a15, .i a16, .s a17, .i a18, .i a19, .i a3, .i a4, .i a5, .i a6, .l a7, .l a21, .l a22]).bind fun y1 =>
 (Lqco none [.i a0, .i a1, .l a2, .l a20, .i a3, .i a4, .i a5, .i a6, .l a7, .l a21, .l a22, .i a8, .l a9, .l a10, .i a11, .i a12, .i a13, .s ((g y1 0).str), .l ((g y1 1).list), .i a19]).bind fun y2 =>
 Lqbq (some 21) [.i a0, .i a1, .l a2, .i a3, .i a4, .i a5, .i a6, .l a7, .i a8, .l a9, .l a10, .i a11, .i a12, .i a13, .i 0, .i 0, .i 0, .i 0, .i 0, .i 0, .i 0, .i 0, .i 0, .i 0, .i ((g y2 0).int), .i ((g y2 1).int), .i ((g y2 2).int), .i ((g y2 3).int), .i ((g y2 4).int), .i ((g y2 5).int), .i ((g y2 6).int), .i ((g y2 7).int), .i ((g y2 8).int), .i ((g y2 9).int), .i ((g y2 10).int), .s ((g y2 11).str), .i ((g y2 12).int), .s ((g y2 13).str), .s ((g y2 14).str), .l a20, .l a21, .l a22, .l ((g y2 15).list), .l ((g y2 16).list), .l ((g y2 17).list), .l ((g y2 18).list), .l ((g y2 19).list), .l ((g y2 20).list), .l ((g y2 21).list), .l [], .l [], .l [], .l [], .l [], .l [], .l []]) (
 cond (a14 == 2) (
 (Lqc0 none [.i a14, .s a15, .i a16, .s a17, .i a18, .i a19, .i a3, .i a4, .i a5, .i a6, .l a7, .l a21, .l a22]).bind fun y3 =>
 (Lqdb none [.i a0, .i a1, .l a2, .l a20, .i a3, .i a4, .i a5, .i a6, .l a7, .l a21, .l a22, .i a8, .l a9, .l a10, .i a11, .i a12, .i a13, .s a17, .s ((g y3 0).str)]).bind fun y4 =>
 Lqbq (some 21) [.i a0, .i a1, .l a2, .i a3, .i a4, .i a5, .i a6, .l a7, .i a8, .l a9, .l a10, .i a11, .i a12, .i a13, .i 0, .i 0, .i 0, .i 0, .i 0, .i 0, .i 0, .i 0, .i 0, .i 0, .i ((g y4 0).int), .i ((g y4 1).int), .i ((g y4 2).int), .i ((g y4 3).int), .i ((g y4 4).int), .i ((g y4 5).int), .i ((g y4 6).int), .i ((g y4 7).int), .i ((g y4 8).int), .i ((g y4 9).int), .i ((g y4 10).int), .s ((g y4 11).str), .i ((g y4 12).int), .s ((g y4 13).str), .s ((g y4 14).str), .l a20, .l a21, .l a22, .l ((g y4 15).list), .l ((g y4 16).list), .l ((g y4 17).list), .l ((g y4 18).list), .l ((g y4 19).list), .l ((g y4 20).list), .l ((g y4 21).list), .l [], .l [], .l [], .l [], .l [], .l [], .l []]) (
 cond (a14 == 3) (
 (Lqdc none [.i a0, .i a1, .l a2, .l a20, .i a3, .i a4, .i a5, .i a6, .l a7, .l a21, .l a22, .i a8, .l a9, .l a10, .i a11, .i a12, .i a13, .s a17]).bind fun y5 =>
 Lqbq (some 21) [.i a0, .i a1, .l a2, .i a3, .i a4, .i a5, .i a6, .l a7, .i a8, .l a9, .l a10, .i a11, .i a12, .i a13, .i 0, .i 0, .i 0, .i 0, .i 0, .i 0, .i 0, .i 0, .i 0, .i 0, .i ((g y5 0).int), .i ((g y5 1).int), .i ((g y5 2).int), .i ((g y5 3).int), .i ((g y5 4).int), .i ((g y5 5).int), .i ((g y5 6).int), .i ((g y5 7).int), .i ((g y5 8).int), .i ((g y5 9).int), .i ((g y5 10).int), .s ((g y5 11).str), .i ((g y5 12).int), .s ((g y5 13).str), .s ((g y5 14).str), .l a20, .l a21, .l a22, .l ((g y5 15).list), .l ((g y5 16).list), .l ((g y5 17).list), .l ((g y5 18).list), .l ((g y5 19).list), .l ((g y5 20).list), .l ((g y5 21).list), .l [], .l [], .l [], .l [], .l [], .l [], .l []]) (
 cond (a14 == 4) (
 (Lqc0 none [.i a14, .s a15, .i a16, .s a17, .i a18, .i a19, .i a3, .i a4, .i a5, .i a6, .l a7, .l a21, .l a22]).bind fun y6 =>
 (Lqdd none [.i a0, .i a1, .l a2, .l a20, .i a3, .i a4, .i a5, .i a6, .l a7, .l a21, .l a22, .i a8, .l a9, .l a10, .i a11, .i a12, .i a13, .s ((g y6 0).str), .i a19]).bind fun y7 =>
 Lqbq (some 21) [.i a0, .i a1, .l a2, .i a3, .i a4, .i a5, .i a6, .l a7, .i a8, .l a9, .l a10, .i a11, .i a12, .i a13, .i 0, .i 0, .i 0, .i 0, .i 0, .i 0, .i 0, .i 0, .i 0, .i 0, .i ((g y7 0).int), .i ((g y7 1).int), .i ((g y7 2).int), .i ((g y7 3).int), .i ((g y7 4).int), .i ((g y7 5).int), .i ((g y7 6).int), .i ((g y7 7).int), .i ((g y7 8).int), .i ((g y7 9).int), .i ((g y7 10).int), .s ((g y7 11).str), .i ((g y7 12).int), .s ((g y7 13).str), .s ((g y7 14).str), .l a20, .l a21, .l a22, .l ((g y7 15).list), .l ((g y7 16).list), .l ((g y7 17).list), .l ((g y7 18).list), .l ((g y7 19).list), .l ((g y7 20).list), .l ((g y7 21).list), .l [], .l [], .l [], .l [], .l [], .l [], .l []]) (
 cond (a14 == 5) (
 (Lqda none [.i a14, .s a15, .i a16, .s a17, .i a18, .i a19, .i a3, .i a4, .i a5, .i a6, .l a7, .l a21, .l a22]).bind fun y8 =>
 (Lqde none [.i a0, .i a1, .l a2, .l a20, .i a3, .i a4, .i a5, .i a6, .l a7, .l a21, .l a22, .i a8, .l a9, .l a10, .i a11, .i a12, .i a13, .i ((g y8 0).int)]).bind fun y9 =>
 Lqbq (some 21) [.i a0, .i a1, .l a2, .i a3, .i a4, .i a5, .i a6, .l a7, .i a8, .l a9, .l a10, .i a11, .i a12, .i a13, .i 0, .i 0, .i 0, .i 0, .i 0, .i 0, .i 0, .i 0, .i 0, .i 0, .i ((g y9 0).int), .i ((g y9 1).int), .i ((g y9 2).int), .i ((g y9 3).int), .i ((g y9 4).int), .i ((g y9 5).int), .i ((g y9 6).int), .i ((g y9 7).int), .i ((g y9 8).int), .i ((g y9 9).int), .i ((g y9 10).int), .s ((g y9 11).str), .i ((g y9 12).int), .s ((g y9 13).str), .s ((g y9 14).str), .l a20, .l a21, .l a22, .l ((g y9 15).list), .l ((g y9 16).list), .l ((g y9 17).list), .l ((g y9 18).list), .l ((g y9 19).list), .l ((g y9 20).list), .l ((g y9 21).list), .l [], .l [], .l [], .l [], .l [], .l [], .l []]) (
 cond (a14 == 6) (
 (Lqdf none [.i a0, .i a1, .l a2, .l a20, .i a3, .i a4, .i a5, .i a6, .l a7, .l a21, .l a22, .i a8, .l a9, .l a10, .i a11, .i a12, .i a13, .i a19]).bind fun y10 =>
 Lqbq (some 21) [.i a0, .i a1, .l a2, .i a3, .i a4, .i a5, .i a6, .l a7, .i a8, .l a9, .l a10, .i a11, .i a12, .i a13, .i 0, .i 0, .i 0, .i 0, .i 0, .i 0, .i 0, .i 0, .i 0, .i 0, .i ((g y10 0).int), .i ((g y10 1).int), .i ((g y10 2).int), .i ((g y10 3).int), .i ((g y10 4).int), .i ((g y10 5).int), .i ((g y10 6).int), .i ((g y10 7).int), .i ((g y10 8).int), .i ((g y10 9).int), .i ((g y10 10).int), .s ((g y10 11).str), .i ((g y10 12).int), .s ((g y10 13).str), .s ((g y10 14).str), .l a20, .l a21, .l a22, .l ((g y10 15).list), .l ((g y10 16).list), .l ((g y10 17).list), .l ((g y10 18).list), .l ((g y10 19).list), .l ((g y10 20).list), .l ((g y10 21).list), .l [], .l [], .l [], .l [], .l [], .l [], .l []]) (
 cond (a14 == 8) (
 (Lqdy none [.i a0, .i a1, .l a2, .l a20, .i a3, .i a4, .i a5, .i a6, .l a7, .l a21, .l a22, .i a8, .l a9, .l a10, .i a11, .i a12, .i a13]).bind fun y11 =>
 some [.i ((g y11 0).int), .i ((g y11 1).int), .l ((g y11 10).list), .i ((g y11 2).int), .i ((g y11 3).int), .i ((g y11 4).int), .i ((g y11 5).int), .l ((g y11 12).list), .i ((g y11 6).int), .l ((g y11 15).list), .l ((g y11 16).list), .i ((g y11 7).int), .i ((g y11 8).int), .i ((g y11 9).int), .l ((g y11 11).list), .l ((g y11 13).list), .l ((g y11 14).list)]) (
 cond (a14 == 9) (
 (Lqdg none [.i a0, .i a1, .l a2, .l a20, .i a3, .i a4, .i a5, .i a6, .l a7, .l a21, .l a22, .i a8, .l a9, .l a10, .i a11, .i a12, .i a13, .i (a18.tmod 6)]).bind fun y12 =>
 some [.i ((g y12 0).int), .i ((g y12 1).int), .l ((g y12 12).list), .i ((g y12 2).int), .i ((g y12 3).int), .i ((g y12 4).int), .i ((g y12 5).int), .l ((g y12 14).list), .i ((g y12 6).int), .l ((g y12 7).list), .l ((g y12 8).list), .i ((g y12 9).int), .i ((g y12 10).int), .i ((g y12 11).int), .l ((g y12 13).list), .l ((g y12 15).list), .l ((g y12 16).list)]) (
 cond (a14 == 10) (
 (Lqcg none [.i a0, .i a1, .l a2, .l a20, .i a3, .i a4, .i a5, .i a6, .l a7, .l a21, .l a22, .i a8, .l a9, .l a10, .i a11, .i a12, .i a13, .i a18]).bind fun y13 =>
 some [.i ((g y13 1).int), .i ((g y13 2).int), .l ((g y13 12).list), .i ((g y13 3).int), .i ((g y13 4).int), .i ((g y13 5).int), .i ((g y13 6).int), .l ((g y13 14).list), .i ((g y13 7).int), .l ((g y13 17).list), .l ((g y13 18).list), .i ((g y13 8).int), .i ((g y13 9).int), .i ((g y13 10).int), .l ((g y13 13).list), .l ((g y13 15).list), .l ((g y13 16).list)]) (
 Lqbq (some 21) [.i a0, .i a1, .l a2, .i a3, .i a4, .i a5, .i a6, .l a7, .i a8, .l a9, .l a10, .i a11, .i a12, .i a13, .i 0, .i 0, .i 0, .i 0, .i 0, .i 0, .i 0, .i 0, .i 0, .i 0, .i 1, .i 0, .i 0, .i 0, .i 0, .i 0, .i 0, .i 0, .i 0, .i 0, .i 0, .s (⟨#[]⟩ : ByteArray), .i 0, .s (⟨#[]⟩ : ByteArray), .s (⟨#[]⟩ : ByteArray), .l a20, .l a21, .l a22, .l [], .l [], .l [], .l [], .l [], .l [], .l [], .l [], .l [], .l [], .l [], .l [], .l [], .l []]))))))))) := (zd _ _).trans (by kernel_rfl)
theorem eqbq_21 (a0 a1 : Int) (a2 : Rw) (a3 a4 a5 a6 : Int) (a7 : Rw) (a8 : Int) (a9 a10 : Rw) (a11 a12 a13 a14 a15 a16 a17 a18 a19 a20 a21 a22 a23 a24 a25 a26 a27 a28 a29 a30 a31 a32 a33 a34 : Int) (a35 : ByteArray) (a36 : Int) (a37 a38 : ByteArray) (a39 a40 a41 a42 a43 a44 a45 a46 a47 a48 a49 a50 a51 a52 a53 a54 a55 : Rw) : Lqbq (some 21) [.i a0, .i a1, .l a2, .i a3, .i a4, .i a5, .i a6, .l a7, .i a8, .l a9, .l a10, .i a11, .i a12, .i a13, .i a14, .i a15, .i a16, .i a17, .i a18, .i a19, .i a20, .i a21, .i a22, .i a23, .i a24, .i a25, .i a26, .i a27, .i a28, .i a29, .i a30, .i a31, .i a32, .i a33, .i a34, .s a35, .i a36, .s a37, .s a38, .l a39, .l a40, .l a41, .l a42, .l a43, .l a44, .l a45, .l a46, .l a47, .l a48, .l a49, .l a50, .l a51, .l a52, .l a53, .l a54, .l a55] =
 cond (a24 == 0) (
 some [.i a25, .i a26, .l a42, .i a27, .i a28, .i a29, .i a30, .l a44, .i a31, .l a47, .l a48, .i a32, .i a33, .i a34, .l a43, .l a45, .l a46]) (
 some [.i a0, .i a1, .l a2, .i a3, .i a4, .i a5, .i a6, .l a7, .i a8, .l a9, .l a10, .i a11, .i a12, .i a13, .l a39, .l a40, .l a41]) := (zd _ _).trans (by kernel_rfl)
theorem kqbq : SigOk Tryz.prog (dqbq.sig (Lqbq none)) ∧ (dqbq.sig (Lqbq none)).ok = true := zf (zb kqbn (by kernel_rfl) (zb kqc0 (by kernel_rfl) (zb kqda (by kernel_rfl) (zb kqco (by kernel_rfl) (zb kqdb (by kernel_rfl) (zb kqdc (by kernel_rfl) (zb kqdd (by kernel_rfl) (zb kqde (by kernel_rfl) (zb kqdf (by kernel_rfl) (zb kqcg (by kernel_rfl) (zb kqdy (by kernel_rfl) (zb kqdg (by kernel_rfl) ze)))))))))))) (by kernel_rfl) (by kernel_rfl) (by kernel_rfl)
def dqbr : FD := { fn := 109, nb := 1, pre := ⟨[.sc (.pt 0 0)], [.bx [.fz 5 false 0, .i .i64 1]]⟩, post := ⟨[.ag [.i .i64 0, .i .i64 1, .fz 9 true 2, .ow 1, .i .i64 3, .i .i64 4, .i .i64 5, .i .i64 6, .fz 90 true 7, .ow 2, .ow 3, .i .i64 8, .fz 9 true 9, .fz 9 true 10, .i .i64 11, .i .i64 12, .i .i64 13]], [.bx [.fz 5 false 14, .i .i64 15], .rw 9 true 16, .rw 156 true 17, .rw 158 true 18]⟩, sh := true, cuts := [⟨8, [0, 2, 4, 6], ⟨[.sc (.pt 0 0), .sc (.pt 1 0), .sc (.pt 2 0), .sc (.i .i64 0)], [.bx [.fz 5 false 1, .i .i64 2], .bx [.i .i64 3, .i .i64 4, .ow 3, .ow 4, .i .i64 5, .i .i64 6, .i .i64 7, .i .i64 8, .ow 5, .ow 6, .ow 7, .i .i64 9, .ow 8, .ow 9, .i .i64 10, .i .i64 11, .i .i64 12], .bx [.i .i64 13, .i .i64 14, .fz 9 true 15, .ow 10, .i .i64 16, .i .i64 17, .i .i64 18, .i .i64 19, .fz 90 true 20, .ow 11, .ow 12, .i .i64 21, .fz 9 true 22, .fz 9 true 23, .i .i64 24, .i .i64 25, .i .i64 26], .rw 9 true 27, .rw 9 true 28, .rw 90 true 29, .rw 156 true 30, .rw 158 true 31, .rw 9 true 32, .rw 9 true 33, .rw 9 true 34, .rw 156 true 35, .rw 158 true 36]⟩⟩] }
noncomputable def Lqbr : Option Nat → Lv → Option Lv := Lim Tryz.prog [dqb.sig (Lqb none), dqc9.sig (Lqc9 none), dqcz.sig (Lqcz none), dqbw.sig (Lqbw none), dqbq.sig (Lqbq none)] dqbr Tryz.f109
theorem eqbr_i (a0 : Rw) (a1 : Int) : Lqbr none [.l a0, .i a1] =
 (Lqb none [.i 6, .l a0, .i a1]).bind fun y1 =>
 cond ((g y1 0).int == 0) (
 (Lqb none [.i 60, .l ((g y1 1).list), .i ((g y1 2).int)]).bind fun y2 =>
 (Lqc9 none [.l ((g y2 1).list), .i ((g y2 2).int)]).bind fun y3 =>
 (Lqbw none [.i ((g y3 0).int), .i (IntKind.i64.wrap (20 + (g y2 0).int)), .l ([]), .l ([])]).bind fun y4 =>
 (Lqb none [.i 14, .l ((g y3 1).list), .i ((g y3 2).int)]).bind fun y5 =>
 (Lqb none [.i 6, .l ((g y5 1).list), .i ((g y5 2).int)]).bind fun y6 =>
 cond ((g y6 0).int == 0) (
 Lqbr (some 8) [.i (IntKind.i64.wrap ((g y5 0).int + 12)), .l ((g y6 1).list), .i ((g y6 2).int), .i 0, .i 0, .i 0, .i 0, .i 0, .i 0, .i 0, .i 0, .i 0, .i 0, .i ((g y4 0).int), .i ((g y4 1).int), .l ((g y4 13).list), .i ((g y4 2).int), .i ((g y4 3).int), .i ((g y4 4).int), .i ((g y4 5).int), .l ((g y4 15).list), .i ((g y4 6).int), .l ((g y4 7).list), .l ((g y4 8).list), .i ((g y4 9).int), .i ((g y4 10).int), .i ((g y4 11).int), .l [], .l [], .l [], .l [], .l [], .l [], .l [], .l ((g y4 14).list), .l ((g y4 16).list), .l ((g y4 17).list)]) (
 Lqbr (some 8) [.i ((g y5 0).int), .l ((g y6 1).list), .i ((g y6 2).int), .i 0, .i 0, .i 0, .i 0, .i 0, .i 0, .i 0, .i 0, .i 0, .i 0, .i ((g y4 0).int), .i ((g y4 1).int), .l ((g y4 13).list), .i ((g y4 2).int), .i ((g y4 3).int), .i ((g y4 4).int), .i ((g y4 5).int), .l ((g y4 15).list), .i ((g y4 6).int), .l ((g y4 7).list), .l ((g y4 8).list), .i ((g y4 9).int), .i ((g y4 10).int), .i ((g y4 11).int), .l [], .l [], .l [], .l [], .l [], .l [], .l [], .l ((g y4 14).list), .l ((g y4 16).list), .l ((g y4 17).list)])) (
 (Lqc9 none [.l ((g y1 1).list), .i ((g y1 2).int)]).bind fun y7 =>
 (Lqbw none [.i ((g y7 0).int), .i 1000000, .l ([]), .l ([])]).bind fun y8 =>
 (Lqb none [.i 14, .l ((g y7 1).list), .i ((g y7 2).int)]).bind fun y9 =>
 (Lqb none [.i 6, .l ((g y9 1).list), .i ((g y9 2).int)]).bind fun y10 =>
 cond ((g y10 0).int == 0) (
 Lqbr (some 8) [.i (IntKind.i64.wrap ((g y9 0).int + 12)), .l ((g y10 1).list), .i ((g y10 2).int), .i 0, .i 0, .i 0, .i 0, .i 0, .i 0, .i 0, .i 0, .i 0, .i 0, .i ((g y8 0).int), .i ((g y8 1).int), .l ((g y8 13).list), .i ((g y8 2).int), .i ((g y8 3).int), .i ((g y8 4).int), .i ((g y8 5).int), .l ((g y8 15).list), .i ((g y8 6).int), .l ((g y8 7).list), .l ((g y8 8).list), .i ((g y8 9).int), .i ((g y8 10).int), .i ((g y8 11).int), .l [], .l [], .l [], .l [], .l [], .l [], .l [], .l ((g y8 14).list), .l ((g y8 16).list), .l ((g y8 17).list)]) (
 Lqbr (some 8) [.i ((g y9 0).int), .l ((g y10 1).list), .i ((g y10 2).int), .i 0, .i 0, .i 0, .i 0, .i 0, .i 0, .i 0, .i 0, .i 0, .i 0, .i ((g y8 0).int), .i ((g y8 1).int), .l ((g y8 13).list), .i ((g y8 2).int), .i ((g y8 3).int), .i ((g y8 4).int), .i ((g y8 5).int), .l ((g y8 15).list), .i ((g y8 6).int), .l ((g y8 7).list), .l ((g y8 8).list), .i ((g y8 9).int), .i ((g y8 10).int), .i ((g y8 11).int), .l [], .l [], .l [], .l [], .l [], .l [], .l [], .l ((g y8 14).list), .l ((g y8 16).list), .l ((g y8 17).list)])) := (zd _ _).trans (by kernel_rfl)
theorem eqbr_8 (a0 : Int) (a1 : Rw) (a2 a3 a4 a5 a6 a7 a8 a9 a10 a11 a12 a13 a14 : Int) (a15 : Rw) (a16 a17 a18 a19 : Int) (a20 : Rw) (a21 : Int) (a22 a23 : Rw) (a24 a25 a26 : Int) (a27 a28 a29 a30 a31 a32 a33 a34 a35 a36 : Rw) : Lqbr (some 8) [.i a0, .l a1, .i a2, .i a3, .i a4, .i a5, .i a6, .i a7, .i a8, .i a9, .i a10, .i a11, .i a12, .i a13, .i a14, .l a15, .i a16, .i a17, .i a18, .i a19, .l a20, .i a21, .l a22, .l a23, .i a24, .i a25, .i a26, .l a27, .l a28, .l a29, .l a30, .l a31, .l a32, .l a33, .l a34, .l a35, .l a36] =
 cond (decide (0 < a0)) (
 (Lqcz none [.l a1, .i a2]).bind fun y1 =>
 (Lqbq none [.i a13, .i a14, .l a15, .i a16, .i a17, .i a18, .i a19, .l a20, .i a21, .l a22, .l a23, .i a24, .i a25, .i a26, .i ((g y1 0).int), .s ((g y1 1).str), .i ((g y1 2).int), .s ((g y1 3).str), .i ((g y1 4).int), .i ((g y1 5).int), .l a34, .l a35, .l a36]).bind fun y2 =>
 Lqbr (some 8) [.i (IntKind.i64.wrap (a0 - 1)), .l ((g y1 6).list), .i ((g y1 7).int), .i a3, .i a4, .i a5, .i a6, .i a7, .i a8, .i a9, .i a10, .i a11, .i a12, .i ((g y2 0).int), .i ((g y2 1).int), .l ((g y2 2).list), .i ((g y2 3).int), .i ((g y2 4).int), .i ((g y2 5).int), .i ((g y2 6).int), .l ((g y2 7).list), .i ((g y2 8).int), .l ((g y2 9).list), .l ((g y2 10).list), .i ((g y2 11).int), .i ((g y2 12).int), .i ((g y2 13).int), .l a27, .l a28, .l a29, .l a30, .l a31, .l a32, .l a33, .l ((g y2 14).list), .l ((g y2 15).list), .l ((g y2 16).list)]) (
 some [.i a13, .i a14, .l a15, .i a16, .i a17, .i a18, .i a19, .l a20, .i a21, .l a22, .l a23, .i a24, .i a25, .i a26, .l a1, .i a2, .l a34, .l a35, .l a36]) := (zd _ _).trans (by kernel_rfl)
theorem kqbr : SigOk Tryz.prog (dqbr.sig (Lqbr none)) ∧ (dqbr.sig (Lqbr none)).ok = true := zf (zb kqb (by kernel_rfl) (zb kqc9 (by kernel_rfl) (zb kqcz (by kernel_rfl) (zb kqbw (by kernel_rfl) (zb kqbq (by kernel_rfl) ze))))) (by kernel_rfl) (by kernel_rfl) (by kernel_rfl)
def dqbb : FD := { fn := 223, nb := 0, pre := ⟨[.sc (.i .i64 0)], []⟩, post := ⟨[.sc (.s 0)], []⟩, sh := false, cuts := [] }
noncomputable def Rqbb (n : Nat) : Option Nat → Lv → Option Lv := Nat.rec (fun _ _ => none) (fun _ r => Lim Tryz.prog [dqbb.sig (r none)] dqbb Tryz.f223) n
theorem eqbb_i (m : Nat) (a0 : Int) : Rqbb (m + 1) none [.i a0] =
 cond (decide (a0 < 10)) (
 some [.s (bytesOf ([[.i (IntKind.u8.wrap (IntKind.i64.wrap (48 + a0)))]] : Rw))]) (
 (Rqbb m none [.i (IntKind.i64.wrap (a0.tdiv 10))]).bind fun y1 =>
 cond (decide (((g y1 0).str).size + (bytesOf ([[.i (IntKind.u8.wrap (IntKind.i64.wrap (48 + (a0.tmod 10))))]] : Rw)).size ≤ most)) (
 some [.s (((g y1 0).str) ++ (bytesOf ([[.i (IntKind.u8.wrap (IntKind.i64.wrap (48 + (a0.tmod 10))))]] : Rw)))]) (
 none)) := (zd _ _).trans (by kernel_rfl)
theorem kRqbb : ∀ n, SigOk Tryz.prog (dqbb.sig (Rqbb n none)) ∧ (dqbb.sig (Rqbb n none)).ok = true
 | 0 => ⟨(fun w args x y X0 h1 h2 h3 h4 h5 h6 => nomatch h6), by kernel_rfl⟩
 | n + 1 => zf (zb (kRqbb n) (by kernel_rfl) ze) (by kernel_rfl) (by kernel_rfl) (by kernel_rfl)
noncomputable def Lqbb : Option Nat → Lv → Option Lv := Rqbb 20
theorem kqbb : SigOk Tryz.prog (dqbb.sig (Lqbb none)) ∧ (dqbb.sig (Lqbb none)).ok = true := kRqbb 20
def dqbe : FD := { fn := 196, nb := 0, pre := ⟨[.sc (.i .i64 0), .sc (.b 1)], []⟩, post := ⟨[.ag [.i .i64 0, .i .i64 1, .i .i64 2, .i .i64 3, .ow 0, .ow 1, .ow 2]], [.rw 90 true 4, .rw 156 true 5, .rw 158 true 6]⟩, sh := false, cuts := [⟨4, [0, 1, 4, 5, 6, 7], ⟨[.sc (.i .i64 0), .sc (.b 1), .sc (.pt 0 0), .sc (.pt 1 0), .sc (.s 2), .sc (.i .i64 3)], [.bx [.i .i64 4, .i .i64 5, .i .i64 6, .i .i64 7, .ow 2, .ow 3, .ow 4], .bx [.i .i64 8, .i .i64 9, .i .i64 10, .i .i64 11, .ow 5, .ow 6, .ow 7], .rw 90 true 12, .rw 156 true 13, .rw 158 true 14, .rw 90 true 15, .rw 156 true 16, .rw 158 true 17]⟩⟩, ⟨11, [0, 1, 4, 5, 6, 7, 8, 9], ⟨[.sc (.i .i64 0), .sc (.b 1), .sc (.pt 0 0), .sc (.pt 1 0), .sc (.s 2), .sc (.i .i64 3), .sc (.pt 2 0), .sc (.i .i64 4)], [.bx [.i .i64 5, .i .i64 6, .i .i64 7, .i .i64 8, .ow 3, .ow 4, .ow 5], .bx [.i .i64 9, .i .i64 10, .i .i64 11, .i .i64 12, .ow 6, .ow 7, .ow 8], .bx [.s 13, .ow 9], .rw 90 true 14, .rw 156 true 15, .rw 158 true 16, .rw 90 true 17, .rw 156 true 18, .rw 158 true 19, .rw 9 true 20]⟩⟩] }
noncomputable def Lqbe : Option Nat → Lv → Option Lv := Lim Tryz.prog [dqi.sig (Lqi none), dqd.sig (Lqd none), dqbb.sig (Lqbb none)] dqbe Tryz.f196
theorem eqbe_i (a0 : Int) (a1 : Bool) : Lqbe none [.i a0, .b a1] =
 Lqbe (some 4) [.i a0, .b a1, .s (⟨#[]⟩ : ByteArray), .i 1, .i 0, .i 0, .i 0, .i 0, .i 8, .i 0, .i 0, .i a0, .l [], .l [], .l [], .l [], .l [], .l []] := (zd _ _).trans (by kernel_rfl)
theorem eqbe_4 (a0 : Int) (a1 : Bool) (a2 : ByteArray) (a3 a4 a5 a6 a7 a8 a9 a10 a11 : Int) (a12 a13 a14 a15 a16 a17 : Rw) : Lqbe (some 4) [.i a0, .b a1, .s a2, .i a3, .i a4, .i a5, .i a6, .i a7, .i a8, .i a9, .i a10, .i a11, .l a12, .l a13, .l a14, .l a15, .l a16, .l a17] =
 cond (decide (a3 ≤ a0)) (
 (Lqbb none [.i a3]).bind fun y1 =>
 cond (!a1) (
 cond (!Eng.seq a2 (⟨#[]⟩ : ByteArray)) (
 (Lqi none [.s ((g y1 0).str), .l ([[.s a2]] : Rw), .i 8]).bind fun y2 =>
 (Lqd none [.s ((g y2 0).str), .i 8]).bind fun y3 =>
 Lqbe (some 11) [.i a0, .b a1, .s ((g y3 0).str), .i a3, .i 0, .i a4, .i a5, .i a6, .i a7, .i a8, .i a9, .i a10, .i a11, .s ((g y1 0).str), .l a12, .l a13, .l a14, .l a15, .l a16, .l a17, .l ([[.s a2]] : Rw)]) (
 (Lqi none [.s ((g y1 0).str), .l ([]), .i 8]).bind fun y4 =>
 (Lqd none [.s ((g y4 0).str), .i 8]).bind fun y5 =>
 Lqbe (some 11) [.i a0, .b a1, .s ((g y5 0).str), .i a3, .i 0, .i a4, .i a5, .i a6, .i a7, .i a8, .i a9, .i a10, .i a11, .s ((g y1 0).str), .l a12, .l a13, .l a14, .l a15, .l a16, .l a17, .l []])) (
 (Lqi none [.s ((g y1 0).str), .l ([]), .i 8]).bind fun y6 =>
 (Lqd none [.s ((g y6 0).str), .i 8]).bind fun y7 =>
 Lqbe (some 11) [.i a0, .b a1, .s ((g y7 0).str), .i a3, .i 0, .i a4, .i a5, .i a6, .i a7, .i a8, .i a9, .i a10, .i a11, .s ((g y1 0).str), .l a12, .l a13, .l a14, .l a15, .l a16, .l a17, .l []])) (
 some [.i a8, .i a9, .i a10, .i a11, .l a15, .l a16, .l a17]) := (zd _ _).trans (by kernel_rfl)
theorem eqbe_11 (a0 : Int) (a1 : Bool) (a2 : ByteArray) (a3 a4 a5 a6 a7 a8 a9 a10 a11 a12 : Int) (a13 : ByteArray) (a14 a15 a16 a17 a18 a19 a20 : Rw) : Lqbe (some 11) [.i a0, .b a1, .s a2, .i a3, .i a4, .i a5, .i a6, .i a7, .i a8, .i a9, .i a10, .i a11, .i a12, .s a13, .l a14, .l a15, .l a16, .l a17, .l a18, .l a19, .l a20] =
 cond (decide (a4 < (a17.length : Int))) (
 cond (inb a4 a17.length) (
 cond (slt ((rd a17 a4.toNat 0).str) a2) (
 Lqbe (some 11) [.i a0, .b a1, .s a2, .i a3, .i (IntKind.i64.wrap (a4 + 1)), .i a5, .i a6, .i a7, .i a8, .i a9, .i a10, .i a11, .i a12, .s a13, .l a14, .l a15, .l a16, .l a17, .l a18, .l a19, .l a20]) (
 cond (decide (0 ≤ a4)) (
 cond (decide (a4 ≤ (a17.length : Int))) (
 cond (decide (([] : Rw).length + (Eng.sub a17 0 a4.toNat).length ≤ most)) (
 cond (decide ((([] : Rw) ++ (Eng.sub a17 0 a4.toNat)).length + ([[.s a2, .i a3, .s a13, .l a20]] : Rw).length ≤ most)) (
 cond (decide (0 ≤ a4)) (
 cond (decide (a4 ≤ (a17.length : Int))) (
 cond (decide (((([] : Rw) ++ (Eng.sub a17 0 a4.toNat)) ++ ([[.s a2, .i a3, .s a13, .l a20]] : Rw)).length + (Eng.sub a17 a4.toNat a17.length).length ≤ most)) (
 Lqbe (some 4) [.i a0, .b a1, .s a2, .i (IntKind.i64.wrap (a3 + 1)), .i a5, .i a6, .i a7, .i a8, .i a9, .i a10, .i a11, .i a12, .l a14, .l a15, .l a16, .l (((([] : Rw) ++ (Eng.sub a17 0 a4.toNat)) ++ ([[.s a2, .i a3, .s a13, .l a20]] : Rw)) ++ (Eng.sub a17 a4.toNat a17.length)), .l a18, .l a19]) (
 none)) (
 none)) (
 none)) (
 none)) (
 none)) (
 none)) (
 none))) (
 none)) (
 cond (decide (0 ≤ a4)) (
 cond (decide (a4 ≤ (a17.length : Int))) (
 cond (decide (([] : Rw).length + (Eng.sub a17 0 a4.toNat).length ≤ most)) (
 cond (decide ((([] : Rw) ++ (Eng.sub a17 0 a4.toNat)).length + ([[.s a2, .i a3, .s a13, .l a20]] : Rw).length ≤ most)) (
 cond (decide (0 ≤ a4)) (
 cond (decide (a4 ≤ (a17.length : Int))) (
 cond (decide (((([] : Rw) ++ (Eng.sub a17 0 a4.toNat)) ++ ([[.s a2, .i a3, .s a13, .l a20]] : Rw)).length + (Eng.sub a17 a4.toNat a17.length).length ≤ most)) (
 Lqbe (some 4) [.i a0, .b a1, .s a2, .i (IntKind.i64.wrap (a3 + 1)), .i a5, .i a6, .i a7, .i a8, .i a9, .i a10, .i a11, .i a12, .l a14, .l a15, .l a16, .l (((([] : Rw) ++ (Eng.sub a17 0 a4.toNat)) ++ ([[.s a2, .i a3, .s a13, .l a20]] : Rw)) ++ (Eng.sub a17 a4.toNat a17.length)), .l a18, .l a19]) (
 none)) (
 none)) (
 none)) (
 none)) (
 none)) (
 none)) (
 none)) := (zd _ _).trans (by kernel_rfl)
theorem kqbe : SigOk Tryz.prog (dqbe.sig (Lqbe none)) ∧ (dqbe.sig (Lqbe none)).ok = true := zf (zb kqi (by kernel_rfl) (zb kqd (by kernel_rfl) (zb kqbb (by kernel_rfl) ze))) (by kernel_rfl) (by kernel_rfl) (by kernel_rfl)
end KV
end
section
set_option maxRecDepth 100000
namespace KV
open Go Go.Eng Go.Proofs
def dqdh : FD := { fn := 195, nb := 1, pre := ⟨[.sc (.pt 0 0), .ag [.i .i64 0, .i .i64 1, .i .i64 2, .i .i64 3, .fz 90 false 4, .fz 156 false 5, .fz 158 false 6]], [.bx [.fz 5 false 7, .i .i64 8]]⟩, post := ⟨[.ag [.i .i64 0, .i .i64 1, .i .i64 2, .i .i64 3, .ow 1, .ow 2, .ow 3]], [.bx [.fz 5 false 4, .i .i64 5], .rw 90 true 6, .rw 156 true 7, .rw 158 true 8]⟩, sh := true, cuts := [] }
noncomputable def Lqdh : Option Nat → Lv → Option Lv := Lim Tryz.prog [dqb.sig (Lqb none), dqb2.sig (Lqb2 none), dqd.sig (Lqd none), dqo.sig (Lqo none), dqbe.sig (Lqbe none)] dqdh Tryz.f195
theorem eqdh_i (a0 a1 a2 a3 : Int) (a4 a5 a6 a7 : Rw) (a8 : Int) : Lqdh none [.i a0, .i a1, .i a2, .i a3, .l a4, .l a5, .l a6, .l a7, .i a8] =
 (Lqo none [.i a0, .i a1, .i a2, .i a3, .l a4, .l a5, .l a6]).bind fun y1 =>
 (Lqb none [.i (((g y1 4).list).length : Int), .l a7, .i a8]).bind fun y2 =>
 (Lqb none [.i 12, .l ((g y2 1).list), .i ((g y2 2).int)]).bind fun y3 =>
 cond ((g y3 0).int == 0) (
 (Lqb none [.i 11, .l ((g y3 1).list), .i ((g y3 2).int)]).bind fun y4 =>
 some [.i (IntKind.i64.wrap ((g y4 0).int - 1)), .i ((g y1 1).int), .i ((g y1 2).int), .i ((g y1 3).int), .l ((g y4 1).list), .i ((g y4 2).int), .l ((g y1 4).list), .l ((g y1 5).list), .l ((g y1 6).list)]) (
 cond ((g y3 0).int == 1) (
 (Lqb none [.i 3, .l ((g y3 1).list), .i ((g y3 2).int)]).bind fun y5 =>
 cond (inb ((g y5 0).int) (([[.i (-1)], [.i 1000000000], [.i 1000000001]] : Rw).length)) (
 some [.i ((g y1 0).int), .i ((rd ([[.i (-1)], [.i 1000000000], [.i 1000000001]] : Rw) (((g y5 0).int).toNat) 0).int), .i ((g y1 2).int), .i ((g y1 3).int), .l ((g y5 1).list), .i ((g y5 2).int), .l ((g y1 4).list), .l ((g y1 5).list), .l ((g y1 6).list)]) (
 none)) (
 cond ((g y3 0).int == 2) (
 (Lqb none [.i 5, .l ((g y3 1).list), .i ((g y3 2).int)]).bind fun y6 =>
 cond (inb ((g y6 0).int) (([[.i (-1)], [.i 0], [.i 1], [.i 1000000000], [.i 1000000001]] : Rw).length)) (
 some [.i ((g y1 0).int), .i ((g y1 1).int), .i ((g y1 2).int), .i ((rd ([[.i (-1)], [.i 0], [.i 1], [.i 1000000000], [.i 1000000001]] : Rw) (((g y6 0).int).toNat) 0).int), .l ((g y6 1).list), .i ((g y6 2).int), .l ((g y1 4).list), .l ((g y1 5).list), .l ((g y1 6).list)]) (
 none)) (
 cond ((g y3 0).int == 3) (
 (Lqb none [.i 4, .l ((g y3 1).list), .i ((g y3 2).int)]).bind fun y7 =>
 cond (inb ((g y7 0).int) (([[.i (-1)], [.i 0], [.i 1000000000], [.i 1000000001]] : Rw).length)) (
 some [.i ((g y1 0).int), .i ((g y1 1).int), .i ((rd ([[.i (-1)], [.i 0], [.i 1000000000], [.i 1000000001]] : Rw) (((g y7 0).int).toNat) 0).int), .i ((g y1 3).int), .l ((g y7 1).list), .i ((g y7 2).int), .l ((g y1 4).list), .l ((g y1 5).list), .l ((g y1 6).list)]) (
 none)) (
 cond ((g y3 0).int == 4) (
 cond (decide (0 < (((g y1 4).list).length : Int))) (
 cond (inb ((g y2 0).int) (((g y1 4).list).length)) (
 (Lqb2 none [.s ((rd ((g y1 4).list) (((g y2 0).int).toNat) 2).str), .l ((rd ((g y1 4).list) (((g y2 0).int).toNat) 3).list), .l ((g y3 1).list), .i ((g y3 2).int)]).bind fun y8 =>
 cond (inb ((g y2 0).int) (((g y1 4).list).length)) (
 some [.i ((g y1 0).int), .i ((g y1 1).int), .i ((g y1 2).int), .i ((g y1 3).int), .l ((g y8 1).list), .i ((g y8 2).int), .l (wrs ((g y1 4).list) (((g y2 0).int).toNat) 2 ([.s ((g y8 0).str), .l ((g y8 3).list)] : List C)), .l ((g y1 5).list), .l ((g y1 6).list)]) (
 none)) (
 none)) (
 some [.i ((g y1 0).int), .i ((g y1 1).int), .i ((g y1 2).int), .i ((g y1 3).int), .l ((g y3 1).list), .i ((g y3 2).int), .l ((g y1 4).list), .l ((g y1 5).list), .l ((g y1 6).list)])) (
 cond ((g y3 0).int == 5) (
 cond (decide (1 < (((g y1 4).list).length : Int))) (
 cond (inb 1 (((g y1 4).list).length)) (
 cond (inb 0 (((g y1 4).list).length)) (
 some [.i ((g y1 0).int), .i ((g y1 1).int), .i ((g y1 2).int), .i ((g y1 3).int), .l ((g y3 1).list), .i ((g y3 2).int), .l (wrs ((g y1 4).list) 0 1 ([.i ((rd ((g y1 4).list) 1 1).int)] : List C)), .l ((g y1 5).list), .l ((g y1 6).list)]) (
 none)) (
 none)) (
 some [.i ((g y1 0).int), .i ((g y1 1).int), .i ((g y1 2).int), .i ((g y1 3).int), .l ((g y3 1).list), .i ((g y3 2).int), .l ((g y1 4).list), .l ((g y1 5).list), .l ((g y1 6).list)])) (
 cond ((g y3 0).int == 6) (
 cond (decide (0 < (((g y1 4).list).length : Int))) (
 cond (decide (0 ≤ (g y2 0).int)) (
 cond (decide ((g y2 0).int ≤ (((g y1 4).list).length : Int))) (
 cond (decide (([] : Rw).length + (Eng.sub ((g y1 4).list) 0 ((g y2 0).int).toNat).length ≤ most)) (
 cond (decide (0 ≤ (IntKind.i64.wrap ((g y2 0).int + 1)))) (
 cond (decide ((IntKind.i64.wrap ((g y2 0).int + 1)) ≤ (((g y1 4).list).length : Int))) (
 cond (decide ((([] : Rw) ++ (Eng.sub ((g y1 4).list) 0 ((g y2 0).int).toNat)).length + (Eng.sub ((g y1 4).list) (IntKind.i64.wrap ((g y2 0).int + 1)).toNat ((g y1 4).list).length).length ≤ most)) (
 some [.i ((g y1 0).int), .i ((g y1 1).int), .i ((g y1 2).int), .i ((g y1 3).int), .l ((g y3 1).list), .i ((g y3 2).int), .l ((([] : Rw) ++ (Eng.sub ((g y1 4).list) 0 ((g y2 0).int).toNat)) ++ (Eng.sub ((g y1 4).list) (IntKind.i64.wrap ((g y2 0).int + 1)).toNat ((g y1 4).list).length)), .l ((g y1 5).list), .l ((g y1 6).list)]) (
 none)) (
 none)) (
 none)) (
 none)) (
 none)) (
 none)) (
 some [.i ((g y1 0).int), .i ((g y1 1).int), .i ((g y1 2).int), .i ((g y1 3).int), .l ((g y3 1).list), .i ((g y3 2).int), .l ((g y1 4).list), .l ((g y1 5).list), .l ((g y1 6).list)])) (
 cond ((g y3 0).int == 7) (
 (Lqb none [.i 4, .l ((g y3 1).list), .i ((g y3 2).int)]).bind fun y9 =>
 cond (inb ((g y9 0).int) (([[.s (⟨#[112]⟩ : ByteArray)], [.s (⟨#[122]⟩ : ByteArray)], [.s (⟨#[]⟩ : ByteArray)], [.s (⟨#[120, 32, 121]⟩ : ByteArray)]] : Rw).length)) (
 (Lqd none [.s (⟨#[113]⟩ : ByteArray), .i a0]).bind fun y10 =>
 cond (decide (((g y1 5).list).length + ([[.s ((rd ([[.s (⟨#[112]⟩ : ByteArray)], [.s (⟨#[122]⟩ : ByteArray)], [.s (⟨#[]⟩ : ByteArray)], [.s (⟨#[120, 32, 121]⟩ : ByteArray)]] : Rw) (((g y9 0).int).toNat) 0).str), .s ((g y10 0).str)]] : Rw).length ≤ most)) (
 some [.i ((g y1 0).int), .i ((g y1 1).int), .i ((g y1 2).int), .i ((g y1 3).int), .l ((g y9 1).list), .i ((g y9 2).int), .l ((g y1 4).list), .l ((g y1 5).list ++ ([[.s ((rd ([[.s (⟨#[112]⟩ : ByteArray)], [.s (⟨#[122]⟩ : ByteArray)], [.s (⟨#[]⟩ : ByteArray)], [.s (⟨#[120, 32, 121]⟩ : ByteArray)]] : Rw) (((g y9 0).int).toNat) 0).str), .s ((g y10 0).str)]] : Rw)), .l ((g y1 6).list)]) (
 none)) (
 none)) (
 cond ((g y3 0).int == 8) (
 cond (decide (0 < (((g y1 4).list).length : Int))) (
 (Lqb none [.i 2, .l ((g y3 1).list), .i ((g y3 2).int)]).bind fun y11 =>
 cond (inb ((g y11 0).int) (([[.s (⟨#[97]⟩ : ByteArray)], [.s (⟨#[122]⟩ : ByteArray)]] : Rw).length)) (
 cond (inb ((g y2 0).int) (((g y1 4).list).length)) (
 cond (decide (((g y1 5).list).length + ([[.s ((rd ([[.s (⟨#[97]⟩ : ByteArray)], [.s (⟨#[122]⟩ : ByteArray)]] : Rw) (((g y11 0).int).toNat) 0).str), .s ((rd ((g y1 4).list) (((g y2 0).int).toNat) 0).str)]] : Rw).length ≤ most)) (
 some [.i ((g y1 0).int), .i ((g y1 1).int), .i ((g y1 2).int), .i ((g y1 3).int), .l ((g y11 1).list), .i ((g y11 2).int), .l ((g y1 4).list), .l ((g y1 5).list ++ ([[.s ((rd ([[.s (⟨#[97]⟩ : ByteArray)], [.s (⟨#[122]⟩ : ByteArray)]] : Rw) (((g y11 0).int).toNat) 0).str), .s ((rd ((g y1 4).list) (((g y2 0).int).toNat) 0).str)]] : Rw)), .l ((g y1 6).list)]) (
 none)) (
 none)) (
 none)) (
 some [.i ((g y1 0).int), .i ((g y1 1).int), .i ((g y1 2).int), .i ((g y1 3).int), .l ((g y3 1).list), .i ((g y3 2).int), .l ((g y1 4).list), .l ((g y1 5).list), .l ((g y1 6).list)])) (
 cond ((g y3 0).int == 9) (
 cond (decide (0 < (((g y1 6).list).length : Int))) (
 (Lqb none [.i 4, .l ((g y3 1).list), .i ((g y3 2).int)]).bind fun y12 =>
 cond (inb ((g y12 0).int) (([[.i 0], [.i 1], [.i 100000], [.i 100001]] : Rw).length)) (
 cond (inb 0 (((g y1 6).list).length)) (
 some [.i ((g y1 0).int), .i ((g y1 1).int), .i ((g y1 2).int), .i ((g y1 3).int), .l ((g y12 1).list), .i ((g y12 2).int), .l ((g y1 4).list), .l ((g y1 5).list), .l (wrs ((g y1 6).list) 0 2 ([.i (IntKind.i64.wrap ((g y1 1).int + (rd ([[.i 0], [.i 1], [.i 100000], [.i 100001]] : Rw) (((g y12 0).int).toNat) 0).int))] : List C))]) (
 none)) (
 none)) (
 some [.i ((g y1 0).int), .i ((g y1 1).int), .i ((g y1 2).int), .i ((g y1 3).int), .l ((g y3 1).list), .i ((g y3 2).int), .l ((g y1 4).list), .l ((g y1 5).list), .l ((g y1 6).list)])) (
 cond ((g y3 0).int == 10) (
 cond (decide (0 < (((g y1 6).list).length : Int))) (
 (Lqb none [.i 3, .l ((g y3 1).list), .i ((g y3 2).int)]).bind fun y13 =>
 cond (inb ((g y13 0).int) (([[.i 0], [.i ((g y1 2).int)], [.i (IntKind.i64.wrap ((g y1 2).int + 1))]] : Rw).length)) (
 cond (inb 0 (((g y1 6).list).length)) (
 some [.i ((g y1 0).int), .i ((g y1 1).int), .i ((g y1 2).int), .i ((g y1 3).int), .l ((g y13 1).list), .i ((g y13 2).int), .l ((g y1 4).list), .l ((g y1 5).list), .l (wrs ((g y1 6).list) 0 0 ([.i ((rd ([[.i 0], [.i ((g y1 2).int)], [.i (IntKind.i64.wrap ((g y1 2).int + 1))]] : Rw) (((g y13 0).int).toNat) 0).int)] : List C))]) (
 none)) (
 none)) (
 some [.i ((g y1 0).int), .i ((g y1 1).int), .i ((g y1 2).int), .i ((g y1 3).int), .l ((g y3 1).list), .i ((g y3 2).int), .l ((g y1 4).list), .l ((g y1 5).list), .l ((g y1 6).list)])) (
 (Lqb none [.i 2, .l ((g y3 1).list), .i ((g y3 2).int)]).bind fun y14 =>
 (Lqb none [.i 2, .l ((g y14 1).list), .i ((g y14 2).int)]).bind fun y15 =>
 (Lqbe none [.i (IntKind.i64.wrap (600 + (g y14 0).int)), .b ((g y15 0).int == 0)]).bind fun y16 =>
 some [.i ((g y16 0).int), .i ((g y16 1).int), .i ((g y16 2).int), .i ((g y16 3).int), .l ((g y15 1).list), .i ((g y15 2).int), .l ((g y16 4).list), .l ((g y16 5).list), .l ((g y16 6).list)]))))))))))) := (zd _ _).trans (by kernel_rfl)
theorem kqdh : SigOk Tryz.prog (dqdh.sig (Lqdh none)) ∧ (dqdh.sig (Lqdh none)).ok = true := zf (zb kqb (by kernel_rfl) (zb kqb2 (by kernel_rfl) (zb kqd (by kernel_rfl) (zb kqo (by kernel_rfl) (zb kqbe (by kernel_rfl) ze))))) (by kernel_rfl) (by kernel_rfl) (by kernel_rfl)
def dqc : FD := { fn := 126, nb := 0, pre := ⟨[.ag [.i .i64 0, .i .i64 1, .i .i64 2, .i .i64 3, .fz 90 false 4, .fz 156 false 5, .fz 158 false 6]], []⟩, post := ⟨[.sc (.b 0)], []⟩, sh := false, cuts := [⟨4, [1, 3, 4, 5], ⟨[.sc (.pt 0 0), .sc (.ow 1), .sc (.ow 2), .sc (.i .i64 0)], [.bx [.i .i64 1, .i .i64 2, .i .i64 3, .i .i64 4, .fz 90 false 5, .fz 156 false 6, .fz 158 false 7], .rw 4 true 8, .rw 3 true 9]⟩⟩, ⟨14, [1, 3, 4, 5, 6, 7], ⟨[.sc (.pt 0 0), .sc (.ow 1), .sc (.ow 2), .sc (.i .i64 0), .sc (.pt 3 0), .sc (.i .i64 1)], [.bx [.i .i64 2, .i .i64 3, .i .i64 4, .i .i64 5, .fz 90 false 6, .fz 156 false 7, .fz 158 false 8], .rw 4 true 9, .rw 3 true 10, .bx [.s 11, .i .i64 12, .s 13, .fz 9 false 14]]⟩⟩, ⟨20, [1, 8], ⟨[.sc (.pt 0 0), .sc (.i .i64 0)], [.bx [.i .i64 1, .i .i64 2, .i .i64 3, .i .i64 4, .fz 90 false 5, .fz 156 false 6, .fz 158 false 7]]⟩⟩, ⟨23, [1, 8, 9], ⟨[.sc (.pt 0 0), .sc (.i .i64 0), .sc (.i .i64 1)], [.bx [.i .i64 2, .i .i64 3, .i .i64 4, .i .i64 5, .fz 90 false 6, .fz 156 false 7, .fz 158 false 8]]⟩⟩] }
noncomputable def Lqc : Option Nat → Lv → Option Lv := Lim Tryz.prog [dq6.sig (Lq6 none), dqi.sig (Lqi none), dqd.sig (Lqd none), dqg.sig (Lqg none), dqx.sig (Lqx none)] dqc Tryz.f126
theorem eqc_i (a0 a1 a2 a3 : Int) (a4 a5 a6 : Rw) : Lqc none [.i a0, .i a1, .i a2, .i a3, .l a4, .l a5, .l a6] =
 Lqc (some 4) [.i 0, .i a0, .i a1, .i a2, .i a3, .l a4, .l a5, .l a6, .l (List.replicate 601 ([.b false] : List C)), .l ([] : Rw)] := (zd _ _).trans (by kernel_rfl)
theorem eqc_4 (a0 a1 a2 a3 a4 : Int) (a5 a6 a7 a8 a9 : Rw) : Lqc (some 4) [.i a0, .i a1, .i a2, .i a3, .i a4, .l a5, .l a6, .l a7, .l a8, .l a9] =
 cond (decide (a0 < (a5.length : Int))) (
 cond (inb a0 a5.length) (
 (Lq6 none [.s ((rd a5 a0.toNat 2).str), .l ((rd a5 a0.toNat 3).list), .i a1]).bind fun y1 =>
 cond (!(g y1 0).bool) (
 some [.b false]) (
 (Lqi none [.s ((rd a5 a0.toNat 2).str), .l ((rd a5 a0.toNat 3).list), .i a1]).bind fun y2 =>
 (Lqd none [.s ((g y2 0).str), .i a1]).bind fun y3 =>
 cond (!Eng.seq ((rd a5 a0.toNat 0).str) ((g y3 0).str)) (
 some [.b false]) (
 cond (decide (0 < a0)) (
 cond (inb (IntKind.i64.wrap (a0 - 1)) a5.length) (
 cond (!slt ((rd a5 ((IntKind.i64.wrap (a0 - 1)).toNat) 0).str) ((rd a5 a0.toNat 0).str)) (
 some [.b false]) (
 (Lqx none [.i ((rd a5 a0.toNat 1).int), .i 1, .i a4]).bind fun y4 =>
 cond (!(g y4 0).bool) (
 some [.b false]) (
 cond (decide ((rd a5 a0.toNat 1).int ≤ 600)) (
 cond (inb ((rd a5 a0.toNat 1).int) a8.length) (
 cond ((rd a8 (((rd a5 a0.toNat 1).int).toNat) 0).bool) (
 some [.b false]) (
 cond (inb ((rd a5 a0.toNat 1).int) a8.length) (
 Lqc (some 4) [.i (IntKind.i64.wrap (a0 + 1)), .i a1, .i a2, .i a3, .i a4, .l a5, .l a6, .l a7, .l (wrs a8 (((rd a5 a0.toNat 1).int).toNat) 0 ([.b true] : List C)), .l a9]) (
 none))) (
 none)) (
 Lqc (some 14) [.i a0, .i 0, .i a1, .i a2, .i a3, .i a4, .l a5, .l a6, .l a7, .l a8, .l a9, .s ((rd a5 a0.toNat 0).str), .i ((rd a5 a0.toNat 1).int), .s ((rd a5 a0.toNat 2).str), .l ((rd a5 a0.toNat 3).list)])))) (
 none)) (
 (Lqx none [.i ((rd a5 a0.toNat 1).int), .i 1, .i a4]).bind fun y5 =>
 cond (!(g y5 0).bool) (
 some [.b false]) (
 cond (decide ((rd a5 a0.toNat 1).int ≤ 600)) (
 cond (inb ((rd a5 a0.toNat 1).int) a8.length) (
 cond ((rd a8 (((rd a5 a0.toNat 1).int).toNat) 0).bool) (
 some [.b false]) (
 cond (inb ((rd a5 a0.toNat 1).int) a8.length) (
 Lqc (some 4) [.i (IntKind.i64.wrap (a0 + 1)), .i a1, .i a2, .i a3, .i a4, .l a5, .l a6, .l a7, .l (wrs a8 (((rd a5 a0.toNat 1).int).toNat) 0 ([.b true] : List C)), .l a9]) (
 none))) (
 none)) (
 Lqc (some 14) [.i a0, .i 0, .i a1, .i a2, .i a3, .i a4, .l a5, .l a6, .l a7, .l a8, .l a9, .s ((rd a5 a0.toNat 0).str), .i ((rd a5 a0.toNat 1).int), .s ((rd a5 a0.toNat 2).str), .l ((rd a5 a0.toNat 3).list)])))))) (
 none)) (
 Lqc (some 20) [.i 0, .i a1, .i a2, .i a3, .i a4, .l a5, .l a6, .l a7]) := (zd _ _).trans (by kernel_rfl)
theorem eqc_14 (a0 a1 a2 a3 a4 a5 : Int) (a6 a7 a8 a9 a10 : Rw) (a11 : ByteArray) (a12 : Int) (a13 : ByteArray) (a14 : Rw) : Lqc (some 14) [.i a0, .i a1, .i a2, .i a3, .i a4, .i a5, .l a6, .l a7, .l a8, .l a9, .l a10, .s a11, .i a12, .s a13, .l a14] =
 cond (decide (a1 < (a10.length : Int))) (
 cond (inb a1 a10.length) (
 cond ((rd a10 a1.toNat 0).int == a12) (
 some [.b false]) (
 Lqc (some 14) [.i a0, .i (IntKind.i64.wrap (a1 + 1)), .i a2, .i a3, .i a4, .i a5, .l a6, .l a7, .l a8, .l a9, .l a10, .s a11, .i a12, .s a13, .l a14])) (
 none)) (
 cond (decide (a10.length + ([[.i a12]] : Rw).length ≤ most)) (
 Lqc (some 4) [.i (IntKind.i64.wrap (a0 + 1)), .i a2, .i a3, .i a4, .i a5, .l a6, .l a7, .l a8, .l a9, .l (a10 ++ ([[.i a12]] : Rw))]) (
 none)) := (zd _ _).trans (by kernel_rfl)
theorem eqc_20 (a0 a1 a2 a3 a4 : Int) (a5 a6 a7 : Rw) : Lqc (some 20) [.i a0, .i a1, .i a2, .i a3, .i a4, .l a5, .l a6, .l a7] =
 cond (decide (a0 < (a5.length : Int))) (
 Lqc (some 23) [.i a0, .i 0, .i a1, .i a2, .i a3, .i a4, .l a5, .l a6, .l a7]) (
 some [.b true]) := (zd _ _).trans (by kernel_rfl)
theorem eqc_23 (a0 a1 a2 a3 a4 a5 : Int) (a6 a7 a8 : Rw) : Lqc (some 23) [.i a0, .i a1, .i a2, .i a3, .i a4, .i a5, .l a6, .l a7, .l a8] =
 cond (inb a0 a6.length) (
 cond (decide (a1 < (((rd a6 a0.toNat 3).list).length : Int))) (
 cond (inb a0 a6.length) (
 cond (inb a1 (((rd a6 a0.toNat 3).list).length)) (
 (Lqg none [.i a2, .i a3, .i a4, .i a5, .l a6, .l a7, .l a8, .s ((rd ((rd a6 a0.toNat 3).list) a1.toNat 0).str)]).bind fun y1 =>
 cond (decide ((g y1 0).int < 0)) (
 some [.b false]) (
 cond (inb ((g y1 0).int) a6.length) (
 cond (inb a0 a6.length) (
 cond (decide ((rd a6 a0.toNat 1).int ≤ (rd a6 (((g y1 0).int).toNat) 1).int)) (
 some [.b false]) (
 Lqc (some 23) [.i a0, .i (IntKind.i64.wrap (a1 + 1)), .i a2, .i a3, .i a4, .i a5, .l a6, .l a7, .l a8])) (
 none)) (
 none))) (
 none)) (
 none)) (
 Lqc (some 20) [.i (IntKind.i64.wrap (a0 + 1)), .i a2, .i a3, .i a4, .i a5, .l a6, .l a7, .l a8])) (
 none) := (zd _ _).trans (by kernel_rfl)
theorem kqc : SigOk Tryz.prog (dqc.sig (Lqc none)) ∧ (dqc.sig (Lqc none)).ok = true := zf (zb kq6 (by kernel_rfl) (zb kqi (by kernel_rfl) (zb kqd (by kernel_rfl) (zb kqg (by kernel_rfl) (zb kqx (by kernel_rfl) ze))))) (by kernel_rfl) (by kernel_rfl) (by kernel_rfl)
def dqy : FD := { fn := 42, nb := 0, pre := ⟨[.ag [.i .i64 0, .i .i64 1, .i .i64 2, .i .i64 3, .fz 90 false 4, .fz 156 false 5, .fz 158 false 6]], []⟩, post := ⟨[.sc (.b 0)], []⟩, sh := false, cuts := [⟨6, [1, 3], ⟨[.sc (.pt 0 0), .sc (.i .i64 0)], [.bx [.i .i64 1, .i .i64 2, .i .i64 3, .i .i64 4, .fz 90 false 5, .fz 156 false 6, .fz 158 false 7]]⟩⟩, ⟨11, [1, 4], ⟨[.sc (.pt 0 0), .sc (.i .i64 0)], [.bx [.i .i64 1, .i .i64 2, .i .i64 3, .i .i64 4, .fz 90 false 5, .fz 156 false 6, .fz 158 false 7]]⟩⟩] }
noncomputable def Lqy : Option Nat → Lv → Option Lv := Lim Tryz.prog [dqh.sig (Lqh none), dqbp.sig (Lqbp none), dqg.sig (Lqg none), dqx.sig (Lqx none), dqc.sig (Lqc none)] dqy Tryz.f42
theorem eqy_i (a0 a1 a2 a3 : Int) (a4 a5 a6 : Rw) : Lqy none [.i a0, .i a1, .i a2, .i a3, .l a4, .l a5, .l a6] =
 (Lqh none [.i a0]).bind fun y1 =>
 cond (!(g y1 0).bool) (
 some [.b false]) (
 (Lqx none [.i a1, .i 0, .i 1000000000]).bind fun y2 =>
 cond (!(g y2 0).bool) (
 some [.b false]) (
 (Lqx none [.i a2, .i 0, .i 1000000000]).bind fun y3 =>
 cond (!(g y3 0).bool) (
 some [.b false]) (
 (Lqx none [.i a3, .i 0, .i 1000000000]).bind fun y4 =>
 cond (!(g y4 0).bool) (
 some [.b false]) (
 cond (decide (600 < (a4.length : Int))) (
 some [.b false]) (
 cond (decide (100 < (a5.length : Int))) (
 some [.b false]) (
 cond (decide (200 < (a6.length : Int))) (
 some [.b false]) (
 (Lqc none [.i a0, .i a1, .i a2, .i a3, .l a4, .l a5, .l a6]).bind fun y5 =>
 cond (!(g y5 0).bool) (
 some [.b false]) (
 Lqy (some 6) [.i 0, .i a0, .i a1, .i a2, .i a3, .l a4, .l a5, .l a6])))))))) := (zd _ _).trans (by kernel_rfl)
theorem eqy_6 (a0 a1 a2 a3 a4 : Int) (a5 a6 a7 : Rw) : Lqy (some 6) [.i a0, .i a1, .i a2, .i a3, .i a4, .l a5, .l a6, .l a7] =
 cond (decide (a0 < (a6.length : Int))) (
 cond (inb a0 a6.length) (
 (Lqbp none [.s ((rd a6 a0.toNat 0).str)]).bind fun y1 =>
 cond (!(g y1 0).bool) (
 some [.b false]) (
 cond (decide (0 < a0)) (
 cond (inb (IntKind.i64.wrap (a0 - 1)) a6.length) (
 cond (inb a0 a6.length) (
 cond (!slt ((rd a6 ((IntKind.i64.wrap (a0 - 1)).toNat) 0).str) ((rd a6 a0.toNat 0).str)) (
 some [.b false]) (
 cond (inb a0 a6.length) (
 (Lqg none [.i a1, .i a2, .i a3, .i a4, .l a5, .l a6, .l a7, .s ((rd a6 a0.toNat 1).str)]).bind fun y2 =>
 cond (decide ((g y2 0).int < 0)) (
 some [.b false]) (
 Lqy (some 6) [.i (IntKind.i64.wrap (a0 + 1)), .i a1, .i a2, .i a3, .i a4, .l a5, .l a6, .l a7])) (
 none))) (
 none)) (
 none)) (
 cond (inb a0 a6.length) (
 (Lqg none [.i a1, .i a2, .i a3, .i a4, .l a5, .l a6, .l a7, .s ((rd a6 a0.toNat 1).str)]).bind fun y3 =>
 cond (decide ((g y3 0).int < 0)) (
 some [.b false]) (
 Lqy (some 6) [.i (IntKind.i64.wrap (a0 + 1)), .i a1, .i a2, .i a3, .i a4, .l a5, .l a6, .l a7])) (
 none)))) (
 none)) (
 Lqy (some 11) [.i 0, .i a1, .i a2, .i a3, .i a4, .l a5, .l a6, .l a7]) := (zd _ _).trans (by kernel_rfl)
theorem eqy_11 (a0 a1 a2 a3 a4 : Int) (a5 a6 a7 : Rw) : Lqy (some 11) [.i a0, .i a1, .i a2, .i a3, .i a4, .l a5, .l a6, .l a7] =
 cond (decide (a0 < (a7.length : Int))) (
 cond (inb a0 a7.length) (
 (Lqx none [.i ((rd a7 a0.toNat 0).int), .i 1, .i a3]).bind fun y1 =>
 cond (!(g y1 0).bool) (
 some [.b false]) (
 cond (decide (0 < a0)) (
 cond (inb (IntKind.i64.wrap (a0 - 1)) a7.length) (
 cond (decide ((rd a7 a0.toNat 0).int ≤ (rd a7 ((IntKind.i64.wrap (a0 - 1)).toNat) 0).int)) (
 some [.b false]) (
 (Lqg none [.i a1, .i a2, .i a3, .i a4, .l a5, .l a6, .l a7, .s ((rd a7 a0.toNat 1).str)]).bind fun y2 =>
 cond (decide ((g y2 0).int < 0)) (
 some [.b false]) (
 cond (decide ((rd a7 a0.toNat 2).int ≤ a2)) (
 some [.b false]) (
 cond (decide ((IntKind.i64.wrap (a2 + 100000)) < (rd a7 a0.toNat 2).int)) (
 some [.b false]) (
 Lqy (some 11) [.i (IntKind.i64.wrap (a0 + 1)), .i a1, .i a2, .i a3, .i a4, .l a5, .l a6, .l a7]))))) (
 none)) (
 (Lqg none [.i a1, .i a2, .i a3, .i a4, .l a5, .l a6, .l a7, .s ((rd a7 a0.toNat 1).str)]).bind fun y3 =>
 cond (decide ((g y3 0).int < 0)) (
 some [.b false]) (
 cond (decide ((rd a7 a0.toNat 2).int ≤ a2)) (
 some [.b false]) (
 cond (decide ((IntKind.i64.wrap (a2 + 100000)) < (rd a7 a0.toNat 2).int)) (
 some [.b false]) (
 Lqy (some 11) [.i (IntKind.i64.wrap (a0 + 1)), .i a1, .i a2, .i a3, .i a4, .l a5, .l a6, .l a7])))))) (
 none)) (
 some [.b true]) := (zd _ _).trans (by kernel_rfl)
theorem kqy : SigOk Tryz.prog (dqy.sig (Lqy none)) ∧ (dqy.sig (Lqy none)).ok = true := zf (zb kqh (by kernel_rfl) (zb kqbp (by kernel_rfl) (zb kqg (by kernel_rfl) (zb kqx (by kernel_rfl) (zb kqc (by kernel_rfl) ze))))) (by kernel_rfl) (by kernel_rfl) (by kernel_rfl)
def dqdi : FD := { fn := 232, nb := 0, pre := ⟨[.ag [.i .i64 0, .i .i64 1, .i .i64 2, .i .i64 3, .fz 90 false 4, .fz 156 false 5, .fz 158 false 6], .ag [.i .i64 7, .fz 9 false 8, .fz 9 false 9, .i .i64 10, .i .i64 11, .i .i64 12]], []⟩, post := ⟨[.sc (.b 0)], []⟩, sh := false, cuts := [] }
noncomputable def Lqdi : Option Nat → Lv → Option Lv := Lim Tryz.prog [dqr.sig (Lqr none), dqy.sig (Lqy none)] dqdi Tryz.f232
theorem eqdi_i (a0 a1 a2 a3 : Int) (a4 a5 a6 : Rw) (a7 : Int) (a8 a9 : Rw) (a10 a11 a12 : Int) : Lqdi none [.i a0, .i a1, .i a2, .i a3, .l a4, .l a5, .l a6, .i a7, .l a8, .l a9, .i a10, .i a11, .i a12] =
 (Lqy none [.i a0, .i a1, .i a2, .i a3, .l a4, .l a5, .l a6]).bind fun y1 =>
 cond ((g y1 0).bool) (
 (Lqr none [.i a0, .i a1, .i a2, .i a3, .l a4, .l a5, .l a6, .i a7, .l a8, .l a9, .i a10, .i a11, .i a12]).bind fun y2 =>
 some [.b ((g y2 0).bool)]) (
 some [.b false]) := (zd _ _).trans (by kernel_rfl)
theorem kqdi : SigOk Tryz.prog (dqdi.sig (Lqdi none)) ∧ (dqdi.sig (Lqdi none)).ok = true := zf (zb kqr (by kernel_rfl) (zb kqy (by kernel_rfl) ze)) (by kernel_rfl) (by kernel_rfl) (by kernel_rfl)
def dqdj : FD := { fn := 224, nb := 0, pre := ⟨[.ag [.i .i64 0, .i .i64 1, .i .i64 2, .i .i64 3, .fz 90 false 4, .fz 156 false 5, .fz 158 false 6], .ag [.i .i64 7, .fz 9 false 8, .fz 9 false 9, .i .i64 10, .i .i64 11, .i .i64 12]], []⟩, post := ⟨[.ag [.i .i64 0, .i .i64 1, .i .i64 2, .i .i64 3, .i .i64 4, .ow 0, .ow 1, .ow 2, .i .i64 5, .fz 9 true 6, .fz 9 true 7, .i .i64 8, .i .i64 9, .i .i64 10, .ow 3]], [.rw 90 true 11, .rw 156 true 12, .rw 158 true 13, .rw 9 true 14]⟩, sh := false, cuts := [] }
noncomputable def Lqdj : Option Nat → Lv → Option Lv := Lim Tryz.prog [dqo.sig (Lqo none), dqbg.sig (Lqbg none), dqbh.sig (Lqbh none), dqdi.sig (Lqdi none)] dqdj Tryz.f224
theorem eqdj_i (a0 a1 a2 a3 : Int) (a4 a5 a6 : Rw) (a7 : Int) (a8 a9 : Rw) (a10 a11 a12 : Int) : Lqdj none [.i a0, .i a1, .i a2, .i a3, .l a4, .l a5, .l a6, .i a7, .l a8, .l a9, .i a10, .i a11, .i a12] =
 (Lqdi none [.i a0, .i a1, .i a2, .i a3, .l a4, .l a5, .l a6, .i a7, .l a8, .l a9, .i a10, .i a11, .i a12]).bind fun y1 =>
 cond (!(g y1 0).bool) (
 some [.i 1, .i 0, .i 0, .i 0, .i 0, .i 0, .l ([]), .l ([]), .i 0, .i 0, .i 0, .l [], .l [], .l [], .l []]) (
 cond (decide (1000000000 ≤ a12)) (
 some [.i 1, .i 0, .i 0, .i 0, .i 0, .i 0, .l ([]), .l ([]), .i 0, .i 0, .i 0, .l [], .l [], .l [], .l []]) (
 (Lqo none [.i a0, .i a1, .i a2, .i a3, .l a4, .l a5, .l a6]).bind fun y2 =>
 (Lqbg none [.i a7, .l a8, .l a9, .i a10, .i a11, .i a12]).bind fun y3 =>
 (Lqbh none [.i ((g y2 0).int), .i ((g y2 1).int), .i ((g y2 2).int), .i ((g y2 3).int), .l ((g y2 4).list), .l ((g y2 5).list), .l ((g y2 6).list), .i ((g y3 0).int), .l ((g y3 4).list), .l ((g y3 5).list), .i ((g y3 1).int), .i ((g y3 2).int), .i ((g y3 3).int)]).bind fun y4 =>
 (Lqo none [.i ((g y4 1).int), .i ((g y4 2).int), .i ((g y4 3).int), .i ((g y4 4).int), .l ((g y4 5).list), .l ((g y4 6).list), .l ((g y4 7).list)]).bind fun y5 =>
 some [.i ((g y4 0).int), .i ((g y5 0).int), .i ((g y5 1).int), .i ((g y5 2).int), .i ((g y5 3).int), .i ((g y4 8).int), .l ((g y4 9).list), .l ((g y4 10).list), .i ((g y4 11).int), .i ((g y4 12).int), .i ((g y4 13).int), .l ((g y5 4).list), .l ((g y5 5).list), .l ((g y5 6).list), .l ((g y4 14).list)])) := (zd _ _).trans (by kernel_rfl)
theorem kqdj : SigOk Tryz.prog (dqdj.sig (Lqdj none)) ∧ (dqdj.sig (Lqdj none)).ok = true := zf (zb kqo (by kernel_rfl) (zb kqbg (by kernel_rfl) (zb kqbh (by kernel_rfl) (zb kqdi (by kernel_rfl) ze)))) (by kernel_rfl) (by kernel_rfl) (by kernel_rfl)
def dq9 : FD := { fn := 197, nb := 1, pre := ⟨[.sc (.pt 0 0)], [.bx [.fz 5 false 0, .i .i64 1]]⟩, post := ⟨[.ag [.i .i64 0, .i .i64 1, .ow 1, .ow 2, .i .i64 2, .i .i64 3, .i .i64 4, .i .i64 5, .ow 3, .ow 4, .ow 5, .i .i64 6, .fz 9 true 7, .fz 9 true 8, .i .i64 9, .i .i64 10, .i .i64 11]], [.bx [.fz 5 false 12, .i .i64 13], .rw 9 true 14, .rw 9 true 15, .rw 90 true 16, .rw 156 true 17, .rw 158 true 18]⟩, sh := true, cuts := [⟨5, [0, 2, 3, 4, 5, 6], ⟨[.sc (.pt 0 0), .sc (.pt 1 0), .sc (.i .i64 0), .sc (.pt 2 0), .sc (.s 1), .sc (.i .i64 2)], [.bx [.fz 5 false 3, .i .i64 4], .bx [.i .i64 5, .i .i64 6, .ow 3, .ow 4, .i .i64 7, .i .i64 8, .i .i64 9, .i .i64 10, .ow 5, .ow 6, .ow 7, .i .i64 11, .ow 8, .ow 9, .i .i64 12, .i .i64 13, .i .i64 14], .bx [.ow 10, .ow 11], .rw 9 true 15, .rw 9 true 16, .rw 90 true 17, .rw 156 true 18, .rw 158 true 19, .rw 9 true 20, .rw 9 true 21, .rw 9 true 22, .rw 9 true 23]⟩⟩, ⟨14, [0, 2, 3, 4, 8, 9], ⟨[.sc (.pt 0 0), .sc (.pt 1 0), .sc (.i .i64 0), .sc (.pt 2 0), .sc (.s 1), .sc (.i .i64 2)], [.bx [.fz 5 false 3, .i .i64 4], .bx [.i .i64 5, .i .i64 6, .ow 3, .ow 4, .i .i64 7, .i .i64 8, .i .i64 9, .i .i64 10, .ow 5, .ow 6, .ow 7, .i .i64 11, .ow 8, .ow 9, .i .i64 12, .i .i64 13, .i .i64 14], .bx [.ow 10, .ow 11], .rw 9 true 15, .rw 9 true 16, .rw 90 true 17, .rw 156 true 18, .rw 158 true 19, .rw 9 true 20, .rw 9 true 21, .rw 9 true 22, .rw 9 true 23]⟩⟩, ⟨18, [2, 10, 12], ⟨[.sc (.pt 1 0), .sc (.pt 2 0), .sc (.i .i64 0)], [.bx [.fz 5 false 1, .i .i64 2], .bx [.i .i64 3, .i .i64 4, .ow 3, .ow 4, .i .i64 5, .i .i64 6, .i .i64 7, .i .i64 8, .ow 5, .ow 6, .ow 7, .i .i64 9, .ow 8, .ow 9, .i .i64 10, .i .i64 11, .i .i64 12], .bx [.i .i64 13, .i .i64 14, .ow 10, .ow 11, .i .i64 15, .i .i64 16, .i .i64 17, .i .i64 18, .ow 12, .ow 13, .ow 14, .i .i64 19, .fz 9 true 20, .fz 9 true 21, .i .i64 22, .i .i64 23, .i .i64 24], .rw 9 true 25, .rw 9 true 26, .rw 90 true 27, .rw 156 true 28, .rw 158 true 29, .rw 9 true 30, .rw 9 true 31, .rw 9 true 32, .rw 9 true 33, .rw 90 true 34, .rw 156 true 35, .rw 158 true 36]⟩⟩] }
noncomputable def Lq9 : Option Nat → Lv → Option Lv := Lim Tryz.prog [dqi.sig (Lqi none), dqb.sig (Lqb none), dqd.sig (Lqd none), dqv.sig (Lqv none), dqbw.sig (Lqbw none), dqbb.sig (Lqbb none), dqdj.sig (Lqdj none)] dq9 Tryz.f197
theorem eq9_i (a0 : Rw) (a1 : Int) : Lq9 none [.l a0, .i a1] =
 (Lqb none [.i 2, .l a0, .i a1]).bind fun y1 =>
 cond (inb ((g y1 0).int) (([[.i 8], [.i 1]] : Rw).length)) (
 Lq9 (some 5) [.i ((rd ([[.i 8], [.i 1]] : Rw) (((g y1 0).int).toNat) 0).int), .s (⟨#[]⟩ : ByteArray), .i 0, .l ((g y1 1).list), .i ((g y1 2).int), .i 0, .i 0, .i 0, .i 0, .i 0, .i 0, .i 0, .i 0, .i 0, .i 0, .l [], .l [], .l [], .l [], .l [], .l [], .l [], .l [], .l []]) (
 none) := (zd _ _).trans (by kernel_rfl)
theorem eq9_5 (a0 : Int) (a1 : ByteArray) (a2 : Int) (a3 : Rw) (a4 a5 a6 a7 a8 a9 a10 a11 a12 a13 a14 : Int) (a15 a16 a17 a18 a19 a20 a21 a22 a23 : Rw) : Lq9 (some 5) [.i a0, .s a1, .i a2, .l a3, .i a4, .i a5, .i a6, .i a7, .i a8, .i a9, .i a10, .i a11, .i a12, .i a13, .i a14, .l a15, .l a16, .l a17, .l a18, .l a19, .l a20, .l a21, .l a22, .l a23] =
 cond (decide (a2 < 4)) (
 (Lqbb none [.i a2]).bind fun y1 =>
 cond (decide ((⟨#[102, 117, 108, 108]⟩ : ByteArray).size + ((g y1 0).str).size ≤ most)) (
 cond (!Eng.seq a1 (⟨#[]⟩ : ByteArray)) (
 (Lqi none [.s ((⟨#[102, 117, 108, 108]⟩ : ByteArray) ++ ((g y1 0).str)), .l ([[.s a1]] : Rw), .i a0]).bind fun y2 =>
 (Lqd none [.s ((g y2 0).str), .i a0]).bind fun y3 =>
 (Lqv none [.i 1, .s (⟨#[]⟩ : ByteArray), .s (⟨#[]⟩ : ByteArray), .i 1, .s ((⟨#[102, 117, 108, 108]⟩ : ByteArray) ++ ((g y1 0).str)), .l ([[.s a1]] : Rw), .i a0]).bind fun y4 =>
 cond (decide (a22.length + ([[.s ((g y4 0).str)]] : Rw).length ≤ most)) (
 Lq9 (some 5) [.i a0, .s ((g y3 0).str), .i (IntKind.i64.wrap (a2 + 1)), .l a3, .i a4, .i a5, .i a6, .i a7, .i a8, .i a9, .i a10, .i a11, .i a12, .i a13, .i a14, .l a15, .l a16, .l a17, .l a18, .l a19, .l a20, .l a21, .l (a22 ++ ([[.s ((g y4 0).str)]] : Rw)), .l a23]) (
 none)) (
 (Lqi none [.s ((⟨#[102, 117, 108, 108]⟩ : ByteArray) ++ ((g y1 0).str)), .l ([]), .i a0]).bind fun y5 =>
 (Lqd none [.s ((g y5 0).str), .i a0]).bind fun y6 =>
 (Lqv none [.i 1, .s (⟨#[]⟩ : ByteArray), .s (⟨#[]⟩ : ByteArray), .i 1, .s ((⟨#[102, 117, 108, 108]⟩ : ByteArray) ++ ((g y1 0).str)), .l ([]), .i a0]).bind fun y7 =>
 cond (decide (a22.length + ([[.s ((g y7 0).str)]] : Rw).length ≤ most)) (
 Lq9 (some 5) [.i a0, .s ((g y6 0).str), .i (IntKind.i64.wrap (a2 + 1)), .l a3, .i a4, .i a5, .i a6, .i a7, .i a8, .i a9, .i a10, .i a11, .i a12, .i a13, .i a14, .l a15, .l a16, .l a17, .l a18, .l a19, .l a20, .l a21, .l (a22 ++ ([[.s ((g y7 0).str)]] : Rw)), .l a23]) (
 none))) (
 none)) (
 (Lqv none [.i 6, .s (⟨#[]⟩ : ByteArray), .s (⟨#[]⟩ : ByteArray), .i 1, .s (⟨#[]⟩ : ByteArray), .l ([]), .i a0]).bind fun y8 =>
 (Lqb none [.i 4, .l a3, .i a4]).bind fun y9 =>
 Lq9 (some 14) [.i a0, .s ((g y8 0).str), .i (IntKind.i64.wrap (4000 - (g y9 0).int)), .l ((g y9 1).list), .i ((g y9 2).int), .i a5, .i a6, .i a7, .i a8, .i a9, .i a10, .i a11, .i a12, .i a13, .i a14, .l a15, .l a16, .l a17, .l a18, .l a19, .l a20, .l a21, .l a22, .l a23]) := (zd _ _).trans (by kernel_rfl)
theorem eq9_14 (a0 : Int) (a1 : ByteArray) (a2 : Int) (a3 : Rw) (a4 a5 a6 a7 a8 a9 a10 a11 a12 a13 a14 : Int) (a15 a16 a17 a18 a19 a20 a21 a22 a23 : Rw) : Lq9 (some 14) [.i a0, .s a1, .i a2, .l a3, .i a4, .i a5, .i a6, .i a7, .i a8, .i a9, .i a10, .i a11, .i a12, .i a13, .i a14, .l a15, .l a16, .l a17, .l a18, .l a19, .l a20, .l a21, .l a22, .l a23] =
 cond (decide ((a22.length : Int) < a2)) (
 cond (decide (a22.length + ([[.s a1]] : Rw).length ≤ most)) (
 Lq9 (some 14) [.i a0, .s a1, .i a2, .l a3, .i a4, .i a5, .i a6, .i a7, .i a8, .i a9, .i a10, .i a11, .i a12, .i a13, .i a14, .l a15, .l a16, .l a17, .l a18, .l a19, .l a20, .l a21, .l (a22 ++ ([[.s a1]] : Rw)), .l a23]) (
 none)) (
 (Lqb none [.i 2, .l a3, .i a4]).bind fun y1 =>
 cond (inb ((g y1 0).int) (([[.i 1000000], [.i 60]] : Rw).length)) (
 (Lqbw none [.i a0, .i ((rd ([[.i 1000000], [.i 60]] : Rw) (((g y1 0).int).toNat) 0).int), .l a22, .l a23]).bind fun y2 =>
 (Lqb none [.i 14, .l ((g y1 1).list), .i ((g y1 2).int)]).bind fun y3 =>
 Lq9 (some 18) [.i ((g y3 0).int), .l ((g y3 1).list), .i ((g y3 2).int), .i a5, .i a6, .i a7, .i a8, .i a9, .i a10, .i a11, .i a12, .i a13, .i a14, .i ((g y2 0).int), .i ((g y2 1).int), .i ((g y2 2).int), .i ((g y2 3).int), .i ((g y2 4).int), .i ((g y2 5).int), .i ((g y2 6).int), .l ((g y2 7).list), .l ((g y2 8).list), .i ((g y2 9).int), .i ((g y2 10).int), .i ((g y2 11).int), .l a15, .l a16, .l a17, .l a18, .l a19, .l a20, .l a21, .l ((g y2 13).list), .l ((g y2 14).list), .l ((g y2 15).list), .l ((g y2 16).list), .l ((g y2 17).list)]) (
 none)) := (zd _ _).trans (by kernel_rfl)
theorem eq9_18 (a0 : Int) (a1 : Rw) (a2 a3 a4 a5 a6 a7 a8 a9 a10 a11 a12 a13 a14 a15 a16 a17 a18 a19 : Int) (a20 a21 : Rw) (a22 a23 a24 : Int) (a25 a26 a27 a28 a29 a30 a31 a32 a33 a34 a35 a36 : Rw) : Lq9 (some 18) [.i a0, .l a1, .i a2, .i a3, .i a4, .i a5, .i a6, .i a7, .i a8, .i a9, .i a10, .i a11, .i a12, .i a13, .i a14, .i a15, .i a16, .i a17, .i a18, .i a19, .l a20, .l a21, .i a22, .i a23, .i a24, .l a25, .l a26, .l a27, .l a28, .l a29, .l a30, .l a31, .l a32, .l a33, .l a34, .l a35, .l a36] =
 cond (decide (0 < a0)) (
 (Lqdj none [.i a15, .i a16, .i a17, .i a18, .l a34, .l a35, .l a36, .i a19, .l a20, .l a21, .i a22, .i a23, .i a24]).bind fun y1 =>
 cond (decide (0 < (((g y1 14).list).length : Int))) (
 some [.i a13, .i a14, .i a15, .i a16, .i a17, .i a18, .i a19, .l a20, .l a21, .i a22, .i a23, .i a24, .l a1, .i a2, .l a32, .l a33, .l a34, .l a35, .l a36]) (
 Lq9 (some 18) [.i (IntKind.i64.wrap (a0 - 1)), .l a1, .i a2, .i a3, .i a4, .i a5, .i a6, .i a7, .i a8, .i a9, .i a10, .i a11, .i a12, .i a13, .i a14, .i a15, .i a16, .i a17, .i a18, .i ((g y1 5).int), .l ((g y1 6).list), .l ((g y1 7).list), .i ((g y1 8).int), .i ((g y1 9).int), .i ((g y1 10).int), .l a25, .l a26, .l a27, .l a28, .l a29, .l a30, .l a31, .l a32, .l a33, .l a34, .l a35, .l a36])) (
 some [.i a13, .i a14, .i a15, .i a16, .i a17, .i a18, .i a19, .l a20, .l a21, .i a22, .i a23, .i a24, .l a1, .i a2, .l a32, .l a33, .l a34, .l a35, .l a36]) := (zd _ _).trans (by kernel_rfl)
theorem kq9 : SigOk Tryz.prog (dq9.sig (Lq9 none)) ∧ (dq9.sig (Lq9 none)).ok = true := zf (zb kqi (by kernel_rfl) (zb kqb (by kernel_rfl) (zb kqd (by kernel_rfl) (zb kqv (by kernel_rfl) (zb kqbw (by kernel_rfl) (zb kqbb (by kernel_rfl) (zb kqdj (by kernel_rfl) ze))))))) (by kernel_rfl) (by kernel_rfl) (by kernel_rfl)
def dq4 : FD := { fn := 198, nb := 1, pre := ⟨[.sc (.pt 0 0), .ag [.i .i64 0, .i .i64 1, .i .i64 2, .i .i64 3, .fz 90 false 4, .fz 156 false 5, .fz 158 false 6], .ag [.i .i64 7, .fz 9 false 8, .fz 9 false 9, .i .i64 10, .i .i64 11, .i .i64 12]], [.bx [.fz 5 false 13, .i .i64 14]]⟩, post := ⟨[.ag [.i .i64 0, .ow 1, .ow 2, .i .i64 1, .i .i64 2, .i .i64 3]], [.bx [.fz 5 false 4, .i .i64 5], .rw 9 true 6, .rw 9 true 7]⟩, sh := true, cuts := [⟨6, [0, 4, 6, 7], ⟨[.sc (.pt 0 0), .sc (.pt 1 0), .sc (.pt 2 0), .sc (.pt 3 0)], [.bx [.fz 5 false 0, .i .i64 1], .bx [.i .i64 2, .i .i64 3, .i .i64 4, .i .i64 5, .fz 90 false 6, .fz 156 false 7, .fz 158 false 8], .bx [.i .i64 9, .ow 6, .ow 7, .i .i64 10, .i .i64 11, .i .i64 12], .bx [.i .i64 13, .ow 4, .ow 5, .i .i64 14, .i .i64 15, .i .i64 16], .rw 9 true 17, .rw 9 true 18, .rw 9 true 19, .rw 9 true 20]⟩⟩, ⟨10, [4, 6, 7, 9], ⟨[.sc (.pt 1 0), .sc (.pt 2 0), .sc (.pt 3 0), .sc (.i .i64 0)], [.bx [.fz 5 false 1, .i .i64 2], .bx [.i .i64 3, .i .i64 4, .i .i64 5, .i .i64 6, .fz 90 false 7, .fz 156 false 8, .fz 158 false 9], .bx [.i .i64 10, .ow 4, .ow 5, .i .i64 11, .i .i64 12, .i .i64 13], .bx [.i .i64 14, .ow 6, .ow 7, .i .i64 15, .i .i64 16, .i .i64 17], .rw 9 true 18, .rw 9 true 19, .rw 9 true 20, .rw 9 true 21]⟩⟩, ⟨28, [4, 6, 7, 10], ⟨[.sc (.pt 1 0), .sc (.pt 2 0), .sc (.pt 3 0), .sc (.i .i64 0)], [.bx [.fz 5 false 1, .i .i64 2], .bx [.i .i64 3, .i .i64 4, .i .i64 5, .i .i64 6, .fz 90 false 7, .fz 156 false 8, .fz 158 false 9], .bx [.i .i64 10, .ow 4, .ow 5, .i .i64 11, .i .i64 12, .i .i64 13], .bx [.i .i64 14, .ow 6, .ow 7, .i .i64 15, .i .i64 16, .i .i64 17], .rw 9 true 18, .rw 9 true 19, .rw 9 true 20, .rw 9 true 21]⟩⟩] }
noncomputable def Lq4 : Option Nat → Lv → Option Lv := Lim Tryz.prog [dqh.sig (Lqh none), dqb.sig (Lqb none), dqd.sig (Lqd none), dqbg.sig (Lqbg none), dqbb.sig (Lqbb none)] dq4 Tryz.f198
theorem eq4_i (a0 a1 a2 a3 : Int) (a4 a5 a6 : Rw) (a7 : Int) (a8 a9 : Rw) (a10 a11 a12 : Int) (a13 : Rw) (a14 : Int) : Lq4 none [.i a0, .i a1, .i a2, .i a3, .l a4, .l a5, .l a6, .i a7, .l a8, .l a9, .i a10, .i a11, .i a12, .l a13, .i a14] =
 (Lqbg none [.i a7, .l a8, .l a9, .i a10, .i a11, .i a12]).bind fun y1 =>
 cond (a7 == 2) (
 cond (decide (0 < (((g y1 5).list).length : Int))) (
 (Lqb none [.i 2, .l a13, .i a14]).bind fun y2 =>
 cond ((g y2 0).int == 0) (
 (Lqb none [.i (((g y1 5).list).length : Int), .l ((g y2 1).list), .i ((g y2 2).int)]).bind fun y3 =>
 cond (decide (0 ≤ (g y3 0).int)) (
 cond (decide ((g y3 0).int ≤ (((g y1 5).list).length : Int))) (
 cond (decide (([] : Rw).length + (Eng.sub ((g y1 5).list) 0 ((g y3 0).int).toNat).length ≤ most)) (
 cond (decide (0 ≤ (IntKind.i64.wrap ((g y3 0).int + 1)))) (
 cond (decide ((IntKind.i64.wrap ((g y3 0).int + 1)) ≤ (((g y1 5).list).length : Int))) (
 cond (decide ((([] : Rw) ++ (Eng.sub ((g y1 5).list) 0 ((g y3 0).int).toNat)).length + (Eng.sub ((g y1 5).list) (IntKind.i64.wrap ((g y3 0).int + 1)).toNat ((g y1 5).list).length).length ≤ most)) (
 some [.i ((g y1 0).int), .i ((g y1 1).int), .i ((g y1 2).int), .i ((g y1 3).int), .l ((g y3 1).list), .i ((g y3 2).int), .l ((g y1 4).list), .l ((([] : Rw) ++ (Eng.sub ((g y1 5).list) 0 ((g y3 0).int).toNat)) ++ (Eng.sub ((g y1 5).list) (IntKind.i64.wrap ((g y3 0).int + 1)).toNat ((g y1 5).list).length))]) (
 none)) (
 none)) (
 none)) (
 none)) (
 none)) (
 none)) (
 Lq4 (some 6) [.l ((g y2 1).list), .i ((g y2 2).int), .i a0, .i a1, .i a2, .i a3, .l a4, .l a5, .l a6, .i 0, .i 0, .i 0, .i 0, .i ((g y1 0).int), .i ((g y1 1).int), .i ((g y1 2).int), .i ((g y1 3).int), .l ((g y1 4).list), .l ((g y1 5).list), .l [], .l []])) (
 Lq4 (some 6) [.l a13, .i a14, .i a0, .i a1, .i a2, .i a3, .l a4, .l a5, .l a6, .i 0, .i 0, .i 0, .i 0, .i ((g y1 0).int), .i ((g y1 1).int), .i ((g y1 2).int), .i ((g y1 3).int), .l ((g y1 4).list), .l ((g y1 5).list), .l [], .l []])) (
 Lq4 (some 6) [.l a13, .i a14, .i a0, .i a1, .i a2, .i a3, .l a4, .l a5, .l a6, .i 0, .i 0, .i 0, .i 0, .i ((g y1 0).int), .i ((g y1 1).int), .i ((g y1 2).int), .i ((g y1 3).int), .l ((g y1 4).list), .l ((g y1 5).list), .l [], .l []]) := (zd _ _).trans (by kernel_rfl)
theorem eq4_6 (a0 : Rw) (a1 a2 a3 a4 a5 : Int) (a6 a7 a8 : Rw) (a9 a10 a11 a12 a13 a14 a15 a16 : Int) (a17 a18 a19 a20 : Rw) : Lq4 (some 6) [.l a0, .i a1, .i a2, .i a3, .i a4, .i a5, .l a6, .l a7, .l a8, .i a9, .i a10, .i a11, .i a12, .i a13, .i a14, .i a15, .i a16, .l a17, .l a18, .l a19, .l a20] =
 (Lqb none [.i 9, .l a0, .i a1]).bind fun y1 =>
 cond ((g y1 0).int == 7) (
 Lq4 (some 10) [.i 0, .l ((g y1 1).list), .i ((g y1 2).int), .i a2, .i a3, .i a4, .i a5, .l a6, .l a7, .l a8, .i a9, .i a10, .i a11, .i a12, .i a13, .i a14, .i a15, .i a16, .l a19, .l a20, .l a17, .l a18]) (
 cond ((g y1 0).int == 0) (
 (Lqb none [.i 5, .l ((g y1 1).list), .i ((g y1 2).int)]).bind fun y2 =>
 some [.i (IntKind.i64.wrap ((g y2 0).int - 1)), .i a14, .i a15, .i a16, .l ((g y2 1).list), .i ((g y2 2).int), .l a17, .l a18]) (
 cond ((g y1 0).int == 1) (
 (Lqb none [.i 5, .l ((g y1 1).list), .i ((g y1 2).int)]).bind fun y3 =>
 cond (inb ((g y3 0).int) (([[.i 0], [.i 1], [.i a14], [.i (IntKind.i64.wrap (a14 + 1))], [.i (IntKind.i64.wrap (a14 + 2))]] : Rw).length)) (
 some [.i a13, .i a14, .i ((rd ([[.i 0], [.i 1], [.i a14], [.i (IntKind.i64.wrap (a14 + 1))], [.i (IntKind.i64.wrap (a14 + 2))]] : Rw) (((g y3 0).int).toNat) 0).int), .i a16, .l ((g y3 1).list), .i ((g y3 2).int), .l a17, .l a18]) (
 none)) (
 cond ((g y1 0).int == 2) (
 (Lqb none [.i 4, .l ((g y1 1).list), .i ((g y1 2).int)]).bind fun y4 =>
 cond (inb ((g y4 0).int) (([[.i (-1)], [.i 0], [.i a5], [.i (IntKind.i64.wrap (a5 + 1))]] : Rw).length)) (
 some [.i a13, .i ((rd ([[.i (-1)], [.i 0], [.i a5], [.i (IntKind.i64.wrap (a5 + 1))]] : Rw) (((g y4 0).int).toNat) 0).int), .i a15, .i a16, .l ((g y4 1).list), .i ((g y4 2).int), .l a17, .l a18]) (
 none)) (
 cond ((g y1 0).int == 3) (
 (Lqd none [.s (⟨#[113]⟩ : ByteArray), .i a2]).bind fun y5 =>
 cond (decide (a17.length + ([[.s ((g y5 0).str)]] : Rw).length ≤ most)) (
 some [.i a13, .i a14, .i a15, .i a16, .l ((g y1 1).list), .i ((g y1 2).int), .l (a17 ++ ([[.s ((g y5 0).str)]] : Rw)), .l a18]) (
 none)) (
 cond ((g y1 0).int == 4) (
 (Lqd none [.s (⟨#[109]⟩ : ByteArray), .i a2]).bind fun y6 =>
 cond (decide (a18.length + ([[.s ((g y6 0).str)]] : Rw).length ≤ most)) (
 some [.i a13, .i a14, .i a15, .i a16, .l ((g y1 1).list), .i ((g y1 2).int), .l a17, .l (a18 ++ ([[.s ((g y6 0).str)]] : Rw))]) (
 none)) (
 cond ((g y1 0).int == 5) (
 cond (decide (a17.length + ([[.s (⟨#[116, 111, 111, 108, 111, 110, 103, 102, 111, 114, 97, 110, 121]⟩ : ByteArray)]] : Rw).length ≤ most)) (
 some [.i a13, .i a14, .i a15, .i a16, .l ((g y1 1).list), .i ((g y1 2).int), .l (a17 ++ ([[.s (⟨#[116, 111, 111, 108, 111, 110, 103, 102, 111, 114, 97, 110, 121]⟩ : ByteArray)]] : Rw)), .l a18]) (
 none)) (
 cond ((g y1 0).int == 6) (
 cond (decide (0 < (a6.length : Int))) (
 (Lqh none [.i a2]).bind fun y7 =>
 cond ((g y7 0).bool) (
 (Lqb none [.i 2, .l ((g y1 1).list), .i ((g y1 2).int)]).bind fun y8 =>
 Lq4 (some 28) [.i (IntKind.i64.wrap (23200 + (g y8 0).int)), .l ((g y8 1).list), .i ((g y8 2).int), .i a2, .i a3, .i a4, .i a5, .l a6, .l a7, .l a8, .i a9, .i a10, .i a11, .i a12, .i a13, .i a14, .i a15, .i a16, .l a19, .l a20, .l a17, .l a18]) (
 some [.i a13, .i a14, .i a15, .i a16, .l ((g y1 1).list), .i ((g y1 2).int), .l a17, .l a18])) (
 some [.i a13, .i a14, .i a15, .i a16, .l ((g y1 1).list), .i ((g y1 2).int), .l a17, .l a18])) (
 (Lqb none [.i 4, .l ((g y1 1).list), .i ((g y1 2).int)]).bind fun y9 =>
 cond (inb ((g y9 0).int) (([[.i (-1)], [.i 1000000000], [.i 999999999], [.i 1000000001]] : Rw).length)) (
 some [.i a13, .i a14, .i a15, .i ((rd ([[.i (-1)], [.i 1000000000], [.i 999999999], [.i 1000000001]] : Rw) (((g y9 0).int).toNat) 0).int), .l ((g y9 1).list), .i ((g y9 2).int), .l a17, .l a18]) (
 none))))))))) := (zd _ _).trans (by kernel_rfl)
theorem eq4_10 (a0 : Int) (a1 : Rw) (a2 a3 a4 a5 a6 : Int) (a7 a8 a9 : Rw) (a10 a11 a12 a13 a14 a15 a16 a17 : Int) (a18 a19 a20 a21 : Rw) : Lq4 (some 10) [.i a0, .l a1, .i a2, .i a3, .i a4, .i a5, .i a6, .l a7, .l a8, .l a9, .i a10, .i a11, .i a12, .i a13, .i a14, .i a15, .i a16, .i a17, .l a18, .l a19, .l a20, .l a21] =
 cond (decide ((a21.length : Int) < 600)) (
 (Lqh none [.i a3]).bind fun y1 =>
 cond ((g y1 0).bool) (
 (Lqbb none [.i a0]).bind fun y2 =>
 cond (decide ((⟨#[102, 117, 108, 108, 32]⟩ : ByteArray).size + ((g y2 0).str).size ≤ most)) (
 (Lqd none [.s ((⟨#[102, 117, 108, 108, 32]⟩ : ByteArray) ++ ((g y2 0).str)), .i a3]).bind fun y3 =>
 cond (decide (a21.length + ([[.s ((g y3 0).str)]] : Rw).length ≤ most)) (
 Lq4 (some 10) [.i (IntKind.i64.wrap (a0 + 1)), .l a1, .i a2, .i a3, .i a4, .i a5, .i a6, .l a7, .l a8, .l a9, .i a10, .i a11, .i a12, .i a13, .i a14, .i a15, .i a16, .i a17, .l a18, .l a19, .l a20, .l (a21 ++ ([[.s ((g y3 0).str)]] : Rw))]) (
 none)) (
 none)) (
 some [.i a14, .i a15, .i a16, .i a17, .l a1, .i a2, .l a20, .l a21])) (
 some [.i a14, .i a15, .i a16, .i a17, .l a1, .i a2, .l a20, .l a21]) := (zd _ _).trans (by kernel_rfl)
theorem eq4_28 (a0 : Int) (a1 : Rw) (a2 a3 a4 a5 a6 : Int) (a7 a8 a9 : Rw) (a10 a11 a12 a13 a14 a15 a16 a17 : Int) (a18 a19 a20 a21 : Rw) : Lq4 (some 28) [.i a0, .l a1, .i a2, .i a3, .i a4, .i a5, .i a6, .l a7, .l a8, .l a9, .i a10, .i a11, .i a12, .i a13, .i a14, .i a15, .i a16, .i a17, .l a18, .l a19, .l a20, .l a21] =
 cond (decide ((a20.length : Int) < a0)) (
 cond (inb 0 a7.length) (
 cond (decide (a20.length + ([[.s ((rd a7 0 0).str)]] : Rw).length ≤ most)) (
 Lq4 (some 28) [.i a0, .l a1, .i a2, .i a3, .i a4, .i a5, .i a6, .l a7, .l a8, .l a9, .i a10, .i a11, .i a12, .i a13, .i a14, .i a15, .i a16, .i a17, .l a18, .l a19, .l (a20 ++ ([[.s ((rd a7 0 0).str)]] : Rw)), .l a21]) (
 none)) (
 none)) (
 some [.i a14, .i a15, .i a16, .i a17, .l a1, .i a2, .l a20, .l a21]) := (zd _ _).trans (by kernel_rfl)
theorem kq4 : SigOk Tryz.prog (dq4.sig (Lq4 none)) ∧ (dq4.sig (Lq4 none)).ok = true := zf (zb kqh (by kernel_rfl) (zb kqb (by kernel_rfl) (zb kqd (by kernel_rfl) (zb kqbg (by kernel_rfl) (zb kqbb (by kernel_rfl) ze))))) (by kernel_rfl) (by kernel_rfl) (by kernel_rfl)
def dqdk : FD := { fn := 131, nb := 1, pre := ⟨[.sc (.pt 0 0)], [.bx [.fz 5 false 0, .i .i64 1]]⟩, post := ⟨[.ag [.i .i64 0, .i .i64 1, .fz 9 true 2, .fz 9 true 3, .i .i64 4, .i .i64 5, .i .i64 6, .i .i64 7, .fz 90 true 8, .fz 156 true 9, .fz 158 true 10, .i .i64 11, .fz 9 true 12, .fz 9 true 13, .i .i64 14, .i .i64 15, .i .i64 16]], [.bx [.fz 5 false 17, .i .i64 18]]⟩, sh := true, cuts := [] }
noncomputable def Lqdk : Option Nat → Lv → Option Lv := Lim Tryz.prog [dqb.sig (Lqb none), dqv.sig (Lqv none), dqbr.sig (Lqbr none), dqdh.sig (Lqdh none), dq9.sig (Lq9 none), dq4.sig (Lq4 none)] dqdk Tryz.f131
theorem eqdk_i (a0 : Rw) (a1 : Int) : Lqdk none [.l a0, .i a1] =
 (Lqb none [.i 24, .l a0, .i a1]).bind fun y1 =>
 cond ((g y1 0).int == 0) (
 (Lq9 none [.l ((g y1 1).list), .i ((g y1 2).int)]).bind fun y2 =>
 some [.i ((g y2 0).int), .i ((g y2 1).int), .l ((g y2 14).list), .l ((g y2 15).list), .i ((g y2 2).int), .i ((g y2 3).int), .i ((g y2 4).int), .i ((g y2 5).int), .l ((g y2 16).list), .l ((g y2 17).list), .l ((g y2 18).list), .i ((g y2 6).int), .l ((g y2 7).list), .l ((g y2 8).list), .i ((g y2 9).int), .i ((g y2 10).int), .i ((g y2 11).int), .l ((g y2 12).list), .i ((g y2 13).int)]) (
 (Lqbr none [.l ((g y1 1).list), .i ((g y1 2).int)]).bind fun y3 =>
 (Lqb none [.i 8, .l ((g y3 14).list), .i ((g y3 15).int)]).bind fun y4 =>
 cond (decide (0 < (g y4 0).int)) (
 some [.i ((g y3 0).int), .i ((g y3 1).int), .l ((g y3 2).list), .l ((g y3 16).list), .i ((g y3 3).int), .i ((g y3 4).int), .i ((g y3 5).int), .i ((g y3 6).int), .l ((g y3 7).list), .l ((g y3 17).list), .l ((g y3 18).list), .i ((g y3 8).int), .l ((g y3 9).list), .l ((g y3 10).list), .i ((g y3 11).int), .i ((g y3 12).int), .i ((g y3 13).int), .l ((g y4 1).list), .i ((g y4 2).int)]) (
 (Lqb none [.i 6, .l ((g y4 1).list), .i ((g y4 2).int)]).bind fun y5 =>
 cond ((g y5 0).int == 0) (
 (Lqdh none [.i ((g y3 3).int), .i ((g y3 4).int), .i ((g y3 5).int), .i ((g y3 6).int), .l ((g y3 7).list), .l ((g y3 17).list), .l ((g y3 18).list), .l ((g y5 1).list), .i ((g y5 2).int)]).bind fun y6 =>
 some [.i ((g y3 0).int), .i ((g y3 1).int), .l ((g y3 2).list), .l ((g y3 16).list), .i ((g y6 0).int), .i ((g y6 1).int), .i ((g y6 2).int), .i ((g y6 3).int), .l ((g y6 6).list), .l ((g y6 7).list), .l ((g y6 8).list), .i ((g y3 8).int), .l ((g y3 9).list), .l ((g y3 10).list), .i ((g y3 11).int), .i ((g y3 12).int), .i ((g y3 13).int), .l ((g y6 4).list), .i ((g y6 5).int)]) (
 cond ((g y5 0).int == 5) (
 (Lqb none [.i 3, .l ((g y5 1).list), .i ((g y5 2).int)]).bind fun y7 =>
 some [.i ((g y3 0).int), .i ((g y3 1).int), .l ((g y3 2).list), .l ((g y3 16).list), .i ((g y3 3).int), .i ((g y3 4).int), .i ((g y3 5).int), .i ((g y3 6).int), .l ((g y3 7).list), .l ((g y3 17).list), .l ((g y3 18).list), .i ((g y3 8).int), .l ((g y3 9).list), .l ((g y3 10).list), .i ((g y3 11).int), .i ((g y3 12).int), .i (IntKind.i64.wrap (1000000000 - (g y7 0).int)), .l ((g y7 1).list), .i ((g y7 2).int)]) (
 cond ((g y5 0).int == 1) (
 (Lq4 none [.i ((g y3 3).int), .i ((g y3 4).int), .i ((g y3 5).int), .i ((g y3 6).int), .l ((g y3 7).list), .l ((g y3 17).list), .l ((g y3 18).list), .i ((g y3 8).int), .l ((g y3 9).list), .l ((g y3 10).list), .i ((g y3 11).int), .i ((g y3 12).int), .i ((g y3 13).int), .l ((g y5 1).list), .i ((g y5 2).int)]).bind fun y8 =>
 some [.i ((g y3 0).int), .i ((g y3 1).int), .l ((g y3 2).list), .l ((g y3 16).list), .i ((g y3 3).int), .i ((g y3 4).int), .i ((g y3 5).int), .i ((g y3 6).int), .l ((g y3 7).list), .l ((g y3 17).list), .l ((g y3 18).list), .i ((g y8 0).int), .l ((g y8 6).list), .l ((g y8 7).list), .i ((g y8 1).int), .i ((g y8 2).int), .i ((g y8 3).int), .l ((g y8 4).list), .i ((g y8 5).int)]) (
 cond ((g y5 0).int == 2) (
 (Lqb none [.i 2, .l ((g y5 1).list), .i ((g y5 2).int)]).bind fun y9 =>
 cond (inb ((g y9 0).int) (([[.i (-1)], [.i 1000001]] : Rw).length)) (
 some [.i ((g y3 0).int), .i ((rd ([[.i (-1)], [.i 1000001]] : Rw) (((g y9 0).int).toNat) 0).int), .l ((g y3 2).list), .l ((g y3 16).list), .i ((g y3 3).int), .i ((g y3 4).int), .i ((g y3 5).int), .i ((g y3 6).int), .l ((g y3 7).list), .l ((g y3 17).list), .l ((g y3 18).list), .i ((g y3 8).int), .l ((g y3 9).list), .l ((g y3 10).list), .i ((g y3 11).int), .i ((g y3 12).int), .i ((g y3 13).int), .l ((g y9 1).list), .i ((g y9 2).int)]) (
 none)) (
 cond ((g y5 0).int == 3) (
 (Lqb none [.i 10, .l ((g y5 1).list), .i ((g y5 2).int)]).bind fun y10 =>
 some [.i ((g y10 0).int), .i ((g y3 1).int), .l ((g y3 2).list), .l ((g y3 16).list), .i ((g y3 3).int), .i ((g y3 4).int), .i ((g y3 5).int), .i ((g y3 6).int), .l ((g y3 7).list), .l ((g y3 17).list), .l ((g y3 18).list), .i ((g y3 8).int), .l ((g y3 9).list), .l ((g y3 10).list), .i ((g y3 11).int), .i ((g y3 12).int), .i ((g y3 13).int), .l ((g y10 1).list), .i ((g y10 2).int)]) (
 (Lqv none [.i 6, .s (⟨#[]⟩ : ByteArray), .s (⟨#[]⟩ : ByteArray), .i 1, .s (⟨#[]⟩ : ByteArray), .l ([]), .i 8]).bind fun y11 =>
 cond (decide (((g y3 16).list).length + ([[.s ((g y11 0).str)]] : Rw).length ≤ most)) (
 some [.i ((g y3 0).int), .i ((g y3 1).int), .l ((g y3 2).list), .l ((g y3 16).list ++ ([[.s ((g y11 0).str)]] : Rw)), .i ((g y3 3).int), .i ((g y3 4).int), .i ((g y3 5).int), .i ((g y3 6).int), .l ((g y3 7).list), .l ((g y3 17).list), .l ((g y3 18).list), .i ((g y3 8).int), .l ((g y3 9).list), .l ((g y3 10).list), .i ((g y3 11).int), .i ((g y3 12).int), .i ((g y3 13).int), .l ((g y5 1).list), .i ((g y5 2).int)]) (
 none)))))))) := (zd _ _).trans (by kernel_rfl)
theorem kqdk : SigOk Tryz.prog (dqdk.sig (Lqdk none)) ∧ (dqdk.sig (Lqdk none)).ok = true := zf (zb kqb (by kernel_rfl) (zb kqv (by kernel_rfl) (zb kqbr (by kernel_rfl) (zb kqdh (by kernel_rfl) (zb kq9 (by kernel_rfl) (zb kq4 (by kernel_rfl) ze)))))) (by kernel_rfl) (by kernel_rfl) (by kernel_rfl)
end KV
end
section
set_option maxRecDepth 100000
namespace KV
open Go Go.Eng Go.Proofs
def dqbx : FD := { fn := 58, nb := 0, pre := ⟨[.sc (.fz 5 false 0)], []⟩, post := ⟨[.tu [(true, [.i .i64 0, .i .i64 1, .fz 9 true 2, .fz 9 true 3, .i .i64 4, .i .i64 5, .i .i64 6, .i .i64 7, .fz 90 true 8, .fz 156 true 9, .fz 158 true 10, .i .i64 11, .fz 9 true 12, .fz 9 true 13, .i .i64 14, .i .i64 15, .i .i64 16]), (true, [.s 17, .ow 0]), (false, [.i .i64 18])]], [.rw 9 true 19]⟩, sh := false, cuts := [⟨9, [2, 3, 5, 6, 7, 8], ⟨[.sc (.pt 0 0), .sc (.pt 1 0), .sc (.pt 2 0), .sc (.pt 3 0), .sc (.pt 4 0), .sc (.pt 5 0)], [.bx [.i .i64 0, .i .i64 1, .ow 7, .ow 8, .i .i64 2, .i .i64 3, .i .i64 4, .i .i64 5, .ow 9, .ow 10, .ow 11, .i .i64 6, .ow 12, .ow 13, .i .i64 7, .i .i64 8, .i .i64 9], .bx [.s 10, .ow 14], .bx [.fz 5 false 11, .i .i64 12], .bx [.i .i64 13, .i .i64 14, .fz 9 true 15, .fz 9 true 16, .i .i64 17, .i .i64 18, .i .i64 19, .i .i64 20, .fz 90 true 21, .fz 156 true 22, .fz 158 true 23, .i .i64 24, .fz 9 true 25, .fz 9 true 26, .i .i64 27, .i .i64 28, .i .i64 29], .bx [.i .i64 30, .s 31, .i .i64 32, .s 33, .i .i64 34, .i .i64 35], .bx [.s 36, .ow 6], .rw 9 true 37, .rw 9 true 38, .rw 9 true 39, .rw 90 true 40, .rw 156 true 41, .rw 158 true 42, .rw 9 true 43, .rw 9 true 44, .rw 9 true 45]⟩⟩] }
noncomputable def Lqbx : Option Nat → Lv → Option Lv := Lim Tryz.prog [dqh.sig (Lqh none), dqc8.sig (Lqc8 none), dqb.sig (Lqb none), dqb2.sig (Lqb2 none), dqd.sig (Lqd none), dqcz.sig (Lqcz none), dqbn.sig (Lqbn none), dqdk.sig (Lqdk none)] dqbx Tryz.f58
theorem eqbx_i (a0 : Rw) : Lqbx none [.l a0] =
 (Lqc8 none [.l a0]).bind fun y1 =>
 (Lqdk none [.l ((g y1 0).list), .i ((g y1 1).int)]).bind fun y2 =>
 (Lqcz none [.l ((g y2 17).list), .i ((g y2 18).int)]).bind fun y3 =>
 (Lqbn none [.i ((g y3 0).int), .s ((g y3 1).str), .i ((g y3 2).int), .s ((g y3 3).str), .i ((g y3 4).int), .i ((g y3 5).int), .i ((g y2 4).int), .i ((g y2 5).int), .i ((g y2 6).int), .i ((g y2 7).int), .l ((g y2 8).list), .l ((g y2 9).list), .l ((g y2 10).list)]).bind fun y4 =>
 (Lqb none [.i 8, .l ((g y3 6).list), .i ((g y3 7).int)]).bind fun y5 =>
 cond ((g y5 0).int == 0) (
 (Lqb2 none [.s ((g y4 0).str), .l ((g y4 1).list), .l ((g y5 1).list), .i ((g y5 2).int)]).bind fun y6 =>
 (Lqb none [.i 6, .l ((g y6 1).list), .i ((g y6 2).int)]).bind fun y7 =>
 cond ((g y7 0).int == 0) (
 (Lqh none [.i ((g y2 0).int)]).bind fun y8 =>
 cond ((g y8 0).bool) (
 cond (decide ((⟨#[110, 111, 110, 101]⟩ : ByteArray).size + ((g y3 1).str).size ≤ most)) (
 (Lqd none [.s ((⟨#[110, 111, 110, 101]⟩ : ByteArray) ++ ((g y3 1).str)), .i ((g y2 0).int)]).bind fun y9 =>
 Lqbx (some 9) [.i 0, .i 0, .i 0, .i 0, .i 0, .i 0, .i 0, .i 0, .i 0, .i 0, .s (⟨#[]⟩ : ByteArray), .l ((g y7 1).list), .i ((g y7 2).int), .i ((g y2 0).int), .i ((g y2 1).int), .l ((g y2 2).list), .l ((g y2 3).list), .i ((g y2 4).int), .i ((g y2 5).int), .i ((g y2 6).int), .i ((g y2 7).int), .l ((g y2 8).list), .l ((g y2 9).list), .l ((g y2 10).list), .i ((g y2 11).int), .l ((g y2 12).list), .l ((g y2 13).list), .i ((g y2 14).int), .i ((g y2 15).int), .i ((g y2 16).int), .i ((g y3 0).int), .s ((g y3 1).str), .i ((g y3 2).int), .s ((g y3 3).str), .i ((g y3 4).int), .i ((g y3 5).int), .s ((g y6 0).str), .l ([[.s ((g y9 0).str)]] : Rw), .l [], .l [], .l [], .l [], .l [], .l [], .l [], .l []]) (
 none)) (
 Lqbx (some 9) [.i 0, .i 0, .i 0, .i 0, .i 0, .i 0, .i 0, .i 0, .i 0, .i 0, .s (⟨#[]⟩ : ByteArray), .l ((g y7 1).list), .i ((g y7 2).int), .i ((g y2 0).int), .i ((g y2 1).int), .l ((g y2 2).list), .l ((g y2 3).list), .i ((g y2 4).int), .i ((g y2 5).int), .i ((g y2 6).int), .i ((g y2 7).int), .l ((g y2 8).list), .l ((g y2 9).list), .l ((g y2 10).list), .i ((g y2 11).int), .l ((g y2 12).list), .l ((g y2 13).list), .i ((g y2 14).int), .i ((g y2 15).int), .i ((g y2 16).int), .i ((g y3 0).int), .s ((g y3 1).str), .i ((g y3 2).int), .s ((g y3 3).str), .i ((g y3 4).int), .i ((g y3 5).int), .s ((g y6 0).str), .l ((g y6 3).list), .l [], .l [], .l [], .l [], .l [], .l [], .l [], .l []])) (
 Lqbx (some 9) [.i 0, .i 0, .i 0, .i 0, .i 0, .i 0, .i 0, .i 0, .i 0, .i 0, .s (⟨#[]⟩ : ByteArray), .l ((g y7 1).list), .i ((g y7 2).int), .i ((g y2 0).int), .i ((g y2 1).int), .l ((g y2 2).list), .l ((g y2 3).list), .i ((g y2 4).int), .i ((g y2 5).int), .i ((g y2 6).int), .i ((g y2 7).int), .l ((g y2 8).list), .l ((g y2 9).list), .l ((g y2 10).list), .i ((g y2 11).int), .l ((g y2 12).list), .l ((g y2 13).list), .i ((g y2 14).int), .i ((g y2 15).int), .i ((g y2 16).int), .i ((g y3 0).int), .s ((g y3 1).str), .i ((g y3 2).int), .s ((g y3 3).str), .i ((g y3 4).int), .i ((g y3 5).int), .s ((g y6 0).str), .l ((g y6 3).list), .l [], .l [], .l [], .l [], .l [], .l [], .l [], .l []])) (
 (Lqb none [.i 6, .l ((g y5 1).list), .i ((g y5 2).int)]).bind fun y10 =>
 cond ((g y10 0).int == 0) (
 (Lqh none [.i ((g y2 0).int)]).bind fun y11 =>
 cond ((g y11 0).bool) (
 cond (decide ((⟨#[110, 111, 110, 101]⟩ : ByteArray).size + ((g y3 1).str).size ≤ most)) (
 (Lqd none [.s ((⟨#[110, 111, 110, 101]⟩ : ByteArray) ++ ((g y3 1).str)), .i ((g y2 0).int)]).bind fun y12 =>
 Lqbx (some 9) [.i 0, .i 0, .i 0, .i 0, .i 0, .i 0, .i 0, .i 0, .i 0, .i 0, .s (⟨#[]⟩ : ByteArray), .l ((g y10 1).list), .i ((g y10 2).int), .i ((g y2 0).int), .i ((g y2 1).int), .l ((g y2 2).list), .l ((g y2 3).list), .i ((g y2 4).int), .i ((g y2 5).int), .i ((g y2 6).int), .i ((g y2 7).int), .l ((g y2 8).list), .l ((g y2 9).list), .l ((g y2 10).list), .i ((g y2 11).int), .l ((g y2 12).list), .l ((g y2 13).list), .i ((g y2 14).int), .i ((g y2 15).int), .i ((g y2 16).int), .i ((g y3 0).int), .s ((g y3 1).str), .i ((g y3 2).int), .s ((g y3 3).str), .i ((g y3 4).int), .i ((g y3 5).int), .s ((g y4 0).str), .l ([[.s ((g y12 0).str)]] : Rw), .l [], .l [], .l [], .l [], .l [], .l [], .l [], .l []]) (
 none)) (
 Lqbx (some 9) [.i 0, .i 0, .i 0, .i 0, .i 0, .i 0, .i 0, .i 0, .i 0, .i 0, .s (⟨#[]⟩ : ByteArray), .l ((g y10 1).list), .i ((g y10 2).int), .i ((g y2 0).int), .i ((g y2 1).int), .l ((g y2 2).list), .l ((g y2 3).list), .i ((g y2 4).int), .i ((g y2 5).int), .i ((g y2 6).int), .i ((g y2 7).int), .l ((g y2 8).list), .l ((g y2 9).list), .l ((g y2 10).list), .i ((g y2 11).int), .l ((g y2 12).list), .l ((g y2 13).list), .i ((g y2 14).int), .i ((g y2 15).int), .i ((g y2 16).int), .i ((g y3 0).int), .s ((g y3 1).str), .i ((g y3 2).int), .s ((g y3 3).str), .i ((g y3 4).int), .i ((g y3 5).int), .s ((g y4 0).str), .l ((g y4 1).list), .l [], .l [], .l [], .l [], .l [], .l [], .l [], .l []])) (
 Lqbx (some 9) [.i 0, .i 0, .i 0, .i 0, .i 0, .i 0, .i 0, .i 0, .i 0, .i 0, .s (⟨#[]⟩ : ByteArray), .l ((g y10 1).list), .i ((g y10 2).int), .i ((g y2 0).int), .i ((g y2 1).int), .l ((g y2 2).list), .l ((g y2 3).list), .i ((g y2 4).int), .i ((g y2 5).int), .i ((g y2 6).int), .i ((g y2 7).int), .l ((g y2 8).list), .l ((g y2 9).list), .l ((g y2 10).list), .i ((g y2 11).int), .l ((g y2 12).list), .l ((g y2 13).list), .i ((g y2 14).int), .i ((g y2 15).int), .i ((g y2 16).int), .i ((g y3 0).int), .s ((g y3 1).str), .i ((g y3 2).int), .s ((g y3 3).str), .i ((g y3 4).int), .i ((g y3 5).int), .s ((g y4 0).str), .l ((g y4 1).list), .l [], .l [], .l [], .l [], .l [], .l [], .l [], .l []])) := (zd _ _).trans (by kernel_rfl)
theorem eqbx_9 (a0 a1 a2 a3 a4 a5 a6 a7 a8 a9 : Int) (a10 : ByteArray) (a11 : Rw) (a12 a13 a14 : Int) (a15 a16 : Rw) (a17 a18 a19 a20 : Int) (a21 a22 a23 : Rw) (a24 : Int) (a25 a26 : Rw) (a27 a28 a29 a30 : Int) (a31 : ByteArray) (a32 : Int) (a33 : ByteArray) (a34 a35 : Int) (a36 : ByteArray) (a37 a38 a39 a40 a41 a42 a43 a44 a45 : Rw) : Lqbx (some 9) [.i a0, .i a1, .i a2, .i a3, .i a4, .i a5, .i a6, .i a7, .i a8, .i a9, .s a10, .l a11, .i a12, .i a13, .i a14, .l a15, .l a16, .i a17, .i a18, .i a19, .i a20, .l a21, .l a22, .l a23, .i a24, .l a25, .l a26, .i a27, .i a28, .i a29, .i a30, .s a31, .i a32, .s a33, .i a34, .i a35, .s a36, .l a37, .l a38, .l a39, .l a40, .l a41, .l a42, .l a43, .l a44, .l a45] =
 (Lqb none [.i 10, .l a11, .i a12]).bind fun y1 =>
 cond ((g y1 0).int == 0) (
 (Lqb none [.i 4, .l ((g y1 1).list), .i ((g y1 2).int)]).bind fun y2 =>
 cond (inb ((g y2 0).int) (([[.i 0], [.i (-1)], [.i 100000], [.i 100001]] : Rw).length)) (
 some [.i a13, .i a14, .l a15, .l a16, .i a17, .i a18, .i a19, .i a20, .l a21, .l a22, .l a23, .i a24, .l a25, .l a26, .i a27, .i a28, .i a29, .s a36, .i ((rd ([[.i 0], [.i (-1)], [.i 100000], [.i 100001]] : Rw) (((g y2 0).int).toNat) 0).int), .l a37]) (
 none)) (
 some [.i a13, .i a14, .l a15, .l a16, .i a17, .i a18, .i a19, .i a20, .l a21, .l a22, .l a23, .i a24, .l a25, .l a26, .i a27, .i a28, .i a29, .s a36, .i a35, .l a37]) := (zd _ _).trans (by kernel_rfl)
theorem kqbx : SigOk Tryz.prog (dqbx.sig (Lqbx none)) ∧ (dqbx.sig (Lqbx none)).ok = true := zf (zb kqh (by kernel_rfl) (zb kqc8 (by kernel_rfl) (zb kqb (by kernel_rfl) (zb kqb2 (by kernel_rfl) (zb kqd (by kernel_rfl) (zb kqcz (by kernel_rfl) (zb kqbn (by kernel_rfl) (zb kqdk (by kernel_rfl) ze)))))))) (by kernel_rfl) (by kernel_rfl) (by kernel_rfl)
def dqdn : FD := { fn := 193, nb := 3, pre := ⟨[.sc (.s 0), .sc (.pt 0 0), .sc (.pt 2 0)], [.bx [.mp 1], .mp 9 4 1, .bx [.i .i64 2, .ow 3, .fz 9 false 3, .i .i64 4, .i .i64 5, .i .i64 6], .rw 9 false 7]⟩, post := ⟨[.tu []], [.bx [.mp 1], .mp 9 4 0, .bx [.i .i64 1, .ow 3, .fz 9 false 2, .i .i64 3, .i .i64 4, .i .i64 5], .rw 9 false 6]⟩, sh := true, cuts := [] }
noncomputable def Lqdn : Option Nat → Lv → Option Lv := Lim Tryz.prog [] dqdn Tryz.f193
theorem eqdn_i (a0 : ByteArray) (a1 : List (C × C)) (a2 : Int) (a3 : Rw) (a4 a5 a6 : Int) (a7 : Rw) : Lqdn none [.s a0, .m a1, .i a2, .l a3, .i a4, .i a5, .i a6, .l a7] =
 cond (!((mget .s (.s a0) a1).getD (.b false)).bool) (
 cond (decide (a7.length + ([[.s a0]] : Rw).length ≤ most)) (
 some [.m (mput .s (.s a0) (.b true) a1), .i a2, .l a3, .i a4, .i a5, .i a6, .l (a7 ++ ([[.s a0]] : Rw))]) (
 none)) (
 some [.m a1, .i a2, .l a3, .i a4, .i a5, .i a6, .l a7]) := (zd _ _).trans (by kernel_rfl)
theorem kqdn : SigOk Tryz.prog (dqdn.sig (Lqdn none)) ∧ (dqdn.sig (Lqdn none)).ok = true := zf ze (by kernel_rfl) (by kernel_rfl) (by kernel_rfl)
def dqf : FD := { fn := 124, nb := 0, pre := ⟨[.sc (.pt 0 0), .ag [.i .i64 0, .fz 9 false 1, .fz 9 false 2, .i .i64 3, .i .i64 4, .i .i64 5]], [.rb [.i .i64 6, .i .i64 7, .i .i64 8, .i .i64 9, .fz 90 false 10, .fz 156 false 11, .fz 158 false 12]]⟩, post := ⟨[.tu [(true, [.i .i64 0, .ow 0, .fz 9 true 1, .i .i64 2, .i .i64 3, .i .i64 4]), (false, [.s 5]), (false, [.b 6])]], [.rw 9 true 7]⟩, sh := false, cuts := [⟨9, [0, 4, 7, 9, 49, 50, 51], ⟨[.sc (.pt 0 0), .sc (.pt 1 0), .sc (.pt 2 0), .sc (.fn 193 [(3, 0), (2, 0)]), .sc (.fz 156 false 0), .sc (.i .i64 1), .sc (.i .i64 2)], [.rb [.i .i64 3, .i .i64 4, .i .i64 5, .i .i64 6, .fz 90 false 7, .fz 156 false 8, .fz 158 false 9], .bx [.i .i64 10, .ow 4, .ow 5, .i .i64 11, .i .i64 12, .i .i64 13], .bx [.i .i64 14, .ow 6, .fz 9 true 15, .i .i64 16, .i .i64 17, .i .i64 18], .bx [.mp 7], .rw 9 true 19, .rw 9 true 20, .rw 9 true 21, .mp 9 4 22]⟩⟩, ⟨14, [4, 7, 9, 63, 64, 65], ⟨[.sc (.pt 0 0), .sc (.pt 1 0), .sc (.fn 193 [(2, 0), (1, 0)]), .sc (.fz 158 false 0), .sc (.i .i64 1), .sc (.i .i64 2)], [.bx [.i .i64 3, .ow 3, .ow 4, .i .i64 4, .i .i64 5, .i .i64 6], .bx [.i .i64 7, .ow 5, .fz 9 true 8, .i .i64 9, .i .i64 10, .i .i64 11], .bx [.mp 6], .rw 9 true 12, .rw 9 true 13, .rw 9 true 14, .mp 9 4 15]⟩⟩, ⟨26, [4, 7, 115, 116, 117], ⟨[.sc (.pt 0 0), .sc (.pt 1 0), .sc (.fz 9 false 0), .sc (.i .i64 1), .sc (.i .i64 2)], [.bx [.i .i64 3, .ow 2, .ow 3, .i .i64 4, .i .i64 5, .i .i64 6], .bx [.i .i64 7, .ow 4, .ow 5, .i .i64 8, .i .i64 9, .i .i64 10], .rw 9 true 11, .rw 9 true 12, .rw 9 true 13, .rw 9 true 14]⟩⟩, ⟨35, [0, 3, 4, 7, 19, 138, 139, 140], ⟨[.sc (.pt 0 0), .sc (.pt 1 0), .sc (.pt 2 0), .sc (.pt 3 0), .sc (.i .i64 0), .sc (.fz 90 false 1), .sc (.i .i64 2), .sc (.i .i64 3)], [.rb [.i .i64 4, .i .i64 5, .i .i64 6, .i .i64 7, .fz 90 false 8, .fz 156 false 9, .fz 158 false 10], .bx [.i .i64 11, .fz 9 false 12, .fz 9 false 13, .i .i64 14, .i .i64 15, .i .i64 16], .bx [.i .i64 17, .ow 4, .ow 5, .i .i64 18, .i .i64 19, .i .i64 20], .bx [.i .i64 21, .ow 6, .ow 7, .i .i64 22, .i .i64 23, .i .i64 24], .rw 9 true 25, .rw 9 true 26, .rw 9 true 27, .rw 9 true 28]⟩⟩] }
noncomputable def Lqf : Option Nat → Lv → Option Lv := Lim Tryz.prog [dqbk.sig (Lqbk none), dq0.sig (Lq0 none), dq2.sig (Lq2 none), dqcb.sig (Lqcb none), dqdn.sig (Lqdn none), dqbl.sig (Lqbl none)] dqf Tryz.f124
theorem eqf_i (a0 : Int) (a1 a2 : Rw) (a3 a4 a5 a6 a7 a8 a9 : Int) (a10 a11 a12 : Rw) : Lqf none [.i a0, .l a1, .l a2, .i a3, .i a4, .i a5, .i a6, .i a7, .i a8, .i a9, .l a10, .l a11, .l a12] =
 (Lqcb none [.i a0, .l a1, .l a2, .i a3, .i a4, .i a5]).bind fun y1 =>
 cond (a5 == 1000000000) (
 some [.i 0, .l ([]), .i 0, .i 0, .i 0, .s (⟨#[]⟩ : ByteArray), .b false, .l []]) (
 cond (a0 == 0) (
 Lqf (some 9) [.l a11, .i (a11.length : Int), .i 0, .i a6, .i a7, .i a8, .i a9, .l a10, .l a11, .l a12, .i 0, .i 0, .i 0, .i 0, .i 1, .l ((g y1 5).list), .i a9, .i (IntKind.i64.wrap (a9 + 1)), .i ((g y1 3).int), .l [], .l [], .l ((g y1 4).list), .m ([])]) (
 cond (decide (0 < (a1.length : Int))) (
 cond (inb 0 (((g y1 4).list).length)) (
 cond (decide (1 ≤ (((g y1 4).list).length : Int))) (
 (Lqbk none [.s ((rd ((g y1 4).list) 0 0).str), .i a6, .i a7, .i a8, .i a9, .l a10, .l a11, .l a12]).bind fun y2 =>
 cond ((g y2 1).bool) (
 (Lqbl none [.l ((g y1 5).list), .s ((rd ((g y1 4).list) 0 0).str)]).bind fun y3 =>
 cond (!(g y3 0).bool) (
 cond (decide (((g y1 5).list).length + ([[.s ((rd ((g y1 4).list) 0 0).str)]] : Rw).length ≤ most)) (
 cond (inb ((g y2 0).int) a10.length) (
 Lqf (some 26) [.l ((rd a10 (((g y2 0).int).toNat) 3).list), .i (((rd a10 (((g y2 0).int).toNat) 3).list).length : Int), .i 0, .i 0, .i 0, .i 0, .i 0, .i ((g y1 0).int), .i ((g y1 1).int), .i ((g y1 2).int), .i ((g y1 3).int), .l [], .l [], .l (Eng.sub ((g y1 4).list) 1 (((g y1 4).list).length)), .l ((g y1 5).list ++ ([[.s ((rd ((g y1 4).list) 0 0).str)]] : Rw))]) (
 none)) (
 none)) (
 some [.i ((g y1 0).int), .l ((g y1 5).list), .i ((g y1 1).int), .i ((g y1 2).int), .i ((g y1 3).int), .s (⟨#[]⟩ : ByteArray), .b true, .l (Eng.sub ((g y1 4).list) 1 (((g y1 4).list).length))])) (
 some [.i ((g y1 0).int), .l ((g y1 5).list), .i ((g y1 1).int), .i ((g y1 2).int), .i ((g y1 3).int), .s (⟨#[]⟩ : ByteArray), .b true, .l (Eng.sub ((g y1 4).list) 1 (((g y1 4).list).length))])) (
 none)) (
 none)) (
 Lqf (some 35) [.i (-1), .l a10, .i (a10.length : Int), .i 0, .i a6, .i a7, .i a8, .i a9, .l a10, .l a11, .l a12, .i a0, .l a1, .l a2, .i a3, .i a4, .i a5, .i 0, .i 0, .i 0, .i 0, .i 2, .i ((g y1 1).int), .i ((g y1 2).int), .i ((g y1 3).int), .l [], .l [], .l ((g y1 4).list), .l ((g y1 5).list)]))) := (zd _ _).trans (by kernel_rfl)
theorem eqf_9 (a0 : Rw) (a1 a2 a3 a4 a5 a6 : Int) (a7 a8 a9 : Rw) (a10 a11 a12 a13 a14 : Int) (a15 : Rw) (a16 a17 a18 : Int) (a19 a20 a21 : Rw) (a22 : List (C × C)) : Lqf (some 9) [.l a0, .i a1, .i a2, .i a3, .i a4, .i a5, .i a6, .l a7, .l a8, .l a9, .i a10, .i a11, .i a12, .i a13, .i a14, .l a15, .i a16, .i a17, .i a18, .l a19, .l a20, .l a21, .m a22] =
 cond (decide (a2 < a1)) (
 cond (inb a2 a0.length) (
 (Lqdn none [.s ((rd a0 a2.toNat 1).str), .m a22, .i a14, .l a15, .i a16, .i a17, .i a18, .l a21]).bind fun y1 =>
 Lqf (some 9) [.l a0, .i a1, .i (IntKind.i64.wrap (a2 + 1)), .i a3, .i a4, .i a5, .i a6, .l a7, .l a8, .l a9, .i a10, .i a11, .i a12, .i a13, .i ((g y1 1).int), .l ((g y1 2).list), .i ((g y1 3).int), .i ((g y1 4).int), .i ((g y1 5).int), .l a19, .l a20, .l ((g y1 6).list), .m ((g y1 0).map)]) (
 none)) (
 Lqf (some 14) [.l a9, .i (a9.length : Int), .i 0, .i a10, .i a11, .i a12, .i a13, .i a14, .l a15, .i a16, .i a17, .i a18, .l a19, .l a20, .l a21, .m a22]) := (zd _ _).trans (by kernel_rfl)
theorem eqf_14 (a0 : Rw) (a1 a2 a3 a4 a5 a6 a7 : Int) (a8 : Rw) (a9 a10 a11 : Int) (a12 a13 a14 : Rw) (a15 : List (C × C)) : Lqf (some 14) [.l a0, .i a1, .i a2, .i a3, .i a4, .i a5, .i a6, .i a7, .l a8, .i a9, .i a10, .i a11, .l a12, .l a13, .l a14, .m a15] =
 cond (decide (a2 < a1)) (
 cond (inb a2 a0.length) (
 (Lqdn none [.s ((rd a0 a2.toNat 1).str), .m a15, .i a7, .l a8, .i a9, .i a10, .i a11, .l a14]).bind fun y1 =>
 Lqf (some 14) [.l a0, .i a1, .i (IntKind.i64.wrap (a2 + 1)), .i a3, .i a4, .i a5, .i a6, .i ((g y1 1).int), .l ((g y1 2).list), .i ((g y1 3).int), .i ((g y1 4).int), .i ((g y1 5).int), .l a12, .l a13, .l ((g y1 6).list), .m ((g y1 0).map)]) (
 none)) (
 some [.i a7, .l a8, .i a9, .i a10, .i a11, .s (⟨#[]⟩ : ByteArray), .b true, .l a14]) := (zd _ _).trans (by kernel_rfl)
theorem eqf_26 (a0 : Rw) (a1 a2 a3 a4 a5 a6 a7 a8 a9 a10 : Int) (a11 a12 a13 a14 : Rw) : Lqf (some 26) [.l a0, .i a1, .i a2, .i a3, .i a4, .i a5, .i a6, .i a7, .i a8, .i a9, .i a10, .l a11, .l a12, .l a13, .l a14] =
 cond (decide (a2 < a1)) (
 cond (inb a2 a0.length) (
 (Lqbl none [.l a14, .s ((rd a0 a2.toNat 0).str)]).bind fun y1 =>
 cond (!(g y1 0).bool) (
 cond (decide (a13.length + ([[.s ((rd a0 a2.toNat 0).str)]] : Rw).length ≤ most)) (
 Lqf (some 26) [.l a0, .i a1, .i (IntKind.i64.wrap (a2 + 1)), .i a3, .i a4, .i a5, .i a6, .i a7, .i a8, .i a9, .i a10, .l a11, .l a12, .l (a13 ++ ([[.s ((rd a0 a2.toNat 0).str)]] : Rw)), .l a14]) (
 none)) (
 Lqf (some 26) [.l a0, .i a1, .i (IntKind.i64.wrap (a2 + 1)), .i a3, .i a4, .i a5, .i a6, .i a7, .i a8, .i a9, .i a10, .l a11, .l a12, .l a13, .l a14])) (
 none)) (
 some [.i a7, .l a14, .i a8, .i a9, .i a10, .s (⟨#[]⟩ : ByteArray), .b true, .l a13]) := (zd _ _).trans (by kernel_rfl)
theorem eqf_35 (a0 : Int) (a1 : Rw) (a2 a3 a4 a5 a6 a7 : Int) (a8 a9 a10 : Rw) (a11 : Int) (a12 a13 : Rw) (a14 a15 a16 a17 a18 a19 a20 a21 a22 a23 a24 : Int) (a25 a26 a27 a28 : Rw) : Lqf (some 35) [.i a0, .l a1, .i a2, .i a3, .i a4, .i a5, .i a6, .i a7, .l a8, .l a9, .l a10, .i a11, .l a12, .l a13, .i a14, .i a15, .i a16, .i a17, .i a18, .i a19, .i a20, .i a21, .i a22, .i a23, .i a24, .l a25, .l a26, .l a27, .l a28] =
 cond (decide (a3 < a2)) (
 cond (inb a3 a1.length) (
 cond (decide ((rd a1 a3.toNat 1).int < a15)) (
 cond (decide (a0 < 0)) (
 Lqf (some 35) [.i a3, .l a1, .i a2, .i (IntKind.i64.wrap (a3 + 1)), .i a4, .i a5, .i a6, .i a7, .l a8, .l a9, .l a10, .i a11, .l a12, .l a13, .i a14, .i a15, .i a16, .i a17, .i a18, .i a19, .i a20, .i a21, .i a22, .i a23, .i a24, .l a25, .l a26, .l a27, .l a28]) (
 cond (inb a0 a8.length) (
 cond (decide ((rd a8 a0.toNat 1).int < (rd a1 a3.toNat 1).int)) (
 Lqf (some 35) [.i a3, .l a1, .i a2, .i (IntKind.i64.wrap (a3 + 1)), .i a4, .i a5, .i a6, .i a7, .l a8, .l a9, .l a10, .i a11, .l a12, .l a13, .i a14, .i a15, .i a16, .i a17, .i a18, .i a19, .i a20, .i a21, .i a22, .i a23, .i a24, .l a25, .l a26, .l a27, .l a28]) (
 Lqf (some 35) [.i a0, .l a1, .i a2, .i (IntKind.i64.wrap (a3 + 1)), .i a4, .i a5, .i a6, .i a7, .l a8, .l a9, .l a10, .i a11, .l a12, .l a13, .i a14, .i a15, .i a16, .i a17, .i a18, .i a19, .i a20, .i a21, .i a22, .i a23, .i a24, .l a25, .l a26, .l a27, .l a28])) (
 none))) (
 Lqf (some 35) [.i a0, .l a1, .i a2, .i (IntKind.i64.wrap (a3 + 1)), .i a4, .i a5, .i a6, .i a7, .l a8, .l a9, .l a10, .i a11, .l a12, .l a13, .i a14, .i a15, .i a16, .i a17, .i a18, .i a19, .i a20, .i a21, .i a22, .i a23, .i a24, .l a25, .l a26, .l a27, .l a28])) (
 none)) (
 cond (decide (0 ≤ a0)) (
 cond (inb a0 a8.length) (
 (Lqbl none [.l a28, .s ((rd a8 a0.toNat 0).str)]).bind fun y1 =>
 cond (!(g y1 0).bool) (
 (Lq0 none [.s ((rd a8 a0.toNat 0).str), .i a4, .i a5, .i a6, .i a7, .l a8, .l a9, .l a10]).bind fun y2 =>
 cond (!(g y2 0).bool) (
 (Lq2 none [.s ((rd a8 a0.toNat 0).str), .i a4, .i a5, .i a6, .i a7, .l a8, .l a9, .l a10]).bind fun y3 =>
 cond (!(g y3 0).bool) (
 some [.i a21, .l a28, .i a22, .i ((rd a8 a0.toNat 1).int), .i a24, .s ((rd a8 a0.toNat 0).str), .b true, .l a27]) (
 some [.i a21, .l a28, .i a22, .i ((rd a8 a0.toNat 1).int), .i a24, .s (⟨#[]⟩ : ByteArray), .b true, .l a27])) (
 some [.i a21, .l a28, .i a22, .i ((rd a8 a0.toNat 1).int), .i a24, .s (⟨#[]⟩ : ByteArray), .b true, .l a27])) (
 some [.i a21, .l a28, .i a22, .i ((rd a8 a0.toNat 1).int), .i a24, .s (⟨#[]⟩ : ByteArray), .b true, .l a27])) (
 none)) (
 some [.i 0, .l ([]), .i 0, .i 0, .i (IntKind.i64.wrap (a16 + 1)), .s (⟨#[]⟩ : ByteArray), .b true, .l []])) := (zd _ _).trans (by kernel_rfl)
theorem kqf : SigOk Tryz.prog (dqf.sig (Lqf none)) ∧ (dqf.sig (Lqf none)).ok = true := zf (zb kqbk (by kernel_rfl) (zb kq0 (by kernel_rfl) (zb kq2 (by kernel_rfl) (zb kqcb (by kernel_rfl) (zb kqdn (by kernel_rfl) (zb kqbl (by kernel_rfl) ze)))))) (by kernel_rfl) (by kernel_rfl) (by kernel_rfl)
def dqb3 : FD := { fn := 39, nb := 0, pre := ⟨[.ag [.i .i64 0, .i .i64 1, .fz 9 false 2, .fz 9 false 3, .i .i64 4, .i .i64 5, .i .i64 6, .i .i64 7, .fz 90 false 8, .fz 156 false 9, .fz 158 false 10, .i .i64 11, .fz 9 false 12, .fz 9 false 13, .i .i64 14, .i .i64 15, .i .i64 16], .sc (.i .i64 17)], []⟩, post := ⟨[.ag [.i .i64 0, .i .i64 1, .i .i64 2, .ow 0, .ow 1, .i .i64 3, .i .i64 4, .i .i64 5, .i .i64 6, .ow 2, .ow 3, .ow 4, .i .i64 7, .ow 5, .fz 9 true 8, .i .i64 9, .i .i64 10, .i .i64 11, .i .i64 12, .ow 6]], [.rw 9 true 13, .rw 9 true 14, .rw 90 true 15, .rw 156 true 16, .rw 158 true 17, .rw 9 true 18, .rw 9 true 19]⟩, sh := false, cuts := [⟨5, [1, 4, 5, 6], ⟨[.sc (.i .i64 0), .sc (.pt 0 0), .sc (.pt 1 0), .sc (.pt 2 0)], [.bx [.i .i64 1, .i .i64 2, .i .i64 3, .ow 3, .ow 4, .i .i64 4, .i .i64 5, .i .i64 6, .i .i64 7, .ow 5, .ow 6, .ow 7, .i .i64 8, .ow 8, .ow 9, .i .i64 9, .i .i64 10, .i .i64 11, .i .i64 12, .ow 10], .bx [.i .i64 13, .i .i64 14, .ow 11, .ow 12, .i .i64 15, .i .i64 16, .i .i64 17, .i .i64 18, .ow 13, .ow 14, .ow 15, .i .i64 19, .ow 16, .fz 9 true 20, .i .i64 21, .i .i64 22, .i .i64 23], .bx [.i .i64 24, .i .i64 25, .i .i64 26, .ow 17, .ow 18, .i .i64 27, .i .i64 28, .i .i64 29, .i .i64 30, .ow 19, .ow 20, .ow 21, .i .i64 31, .ow 22, .ow 23, .i .i64 32, .i .i64 33, .i .i64 34, .i .i64 35, .ow 24], .rw 9 true 36, .rw 9 true 37, .rw 90 true 38, .rw 156 true 39, .rw 158 true 40, .rw 9 true 41, .rw 9 true 42, .rw 9 true 43, .rw 9 true 44, .rw 9 true 45, .rw 90 true 46, .rw 156 true 47, .rw 158 true 48, .rw 9 true 49, .rw 9 true 50, .rw 9 true 51, .rw 90 true 52, .rw 156 true 53, .rw 158 true 54, .rw 9 true 55, .rw 9 true 56, .rw 9 true 57]⟩⟩] }
noncomputable def Lqb3 : Option Nat → Lv → Option Lv := Lim Tryz.prog [dqa.sig (Lqa none), dqs.sig (Lqs none), dqbs.sig (Lqbs none), dqci.sig (Lqci none), dqcj.sig (Lqcj none), dqf.sig (Lqf none)] dqb3 Tryz.f39
theorem eqb3_i (a0 a1 : Int) (a2 a3 : Rw) (a4 a5 a6 a7 : Int) (a8 a9 a10 : Rw) (a11 : Int) (a12 a13 : Rw) (a14 a15 a16 a17 : Int) : Lqb3 none [.i a0, .i a1, .l a2, .l a3, .i a4, .i a5, .i a6, .i a7, .l a8, .l a9, .l a10, .i a11, .l a12, .l a13, .i a14, .i a15, .i a16, .i a17] =
 (Lqbs none [.i a0, .i a1, .l a2, .l a3, .i a4, .i a5, .i a6, .i a7, .l a8, .l a9, .l a10, .i a11, .l a12, .l a13, .i a14, .i a15, .i a16]).bind fun y1 =>
 cond (!(g y1 0).bool) (
 some [.i 1, .i 0, .i 0, .i 0, .i 0, .i 0, .i 0, .i 0, .l ([]), .i 0, .i 0, .i 0, .i 0, .l [], .l [], .l [], .l [], .l [], .l [], .l []]) (
 cond (decide (a17 < 0)) (
 some [.i 1, .i 0, .i 0, .i 0, .i 0, .i 0, .i 0, .i 0, .l ([]), .i 0, .i 0, .i 0, .i 0, .l [], .l [], .l [], .l [], .l [], .l [], .l []]) (
 cond (decide (10000 < a17)) (
 some [.i 1, .i 0, .i 0, .i 0, .i 0, .i 0, .i 0, .i 0, .l ([]), .i 0, .i 0, .i 0, .i 0, .l [], .l [], .l [], .l [], .l [], .l [], .l []]) (
 (Lqcj none [.i a0, .i a1, .l a2, .l a3, .i a4, .i a5, .i a6, .i a7, .l a8, .l a9, .l a10, .i a11, .l a12, .l a13, .i a14, .i a15, .i a16]).bind fun y2 =>
 Lqb3 (some 5) [.i a17, .i 0, .i 0, .i 0, .i 0, .i 0, .i 0, .i 0, .i 0, .i 0, .i 0, .i 0, .i 0, .i ((g y2 0).int), .i ((g y2 1).int), .i ((g y2 2).int), .i ((g y2 3).int), .i ((g y2 4).int), .i ((g y2 5).int), .i ((g y2 6).int), .l ((g y2 16).list), .i ((g y2 7).int), .i ((g y2 8).int), .i ((g y2 9).int), .i 0, .i 0, .i 0, .i 0, .i 0, .i 0, .i 0, .i 0, .i 0, .i 0, .i 0, .i 0, .l [], .l [], .l [], .l [], .l [], .l [], .l [], .l [], .l ((g y2 10).list), .l ((g y2 11).list), .l ((g y2 12).list), .l ((g y2 13).list), .l ((g y2 14).list), .l ((g y2 15).list), .l [], .l [], .l [], .l [], .l [], .l [], .l [], .l []]))) := (zd _ _).trans (by kernel_rfl)
theorem eqb3_5 (a0 a1 a2 a3 a4 a5 a6 a7 a8 a9 a10 a11 a12 a13 a14 a15 a16 a17 a18 a19 : Int) (a20 : Rw) (a21 a22 a23 a24 a25 a26 a27 a28 a29 a30 a31 a32 a33 a34 a35 : Int) (a36 a37 a38 a39 a40 a41 a42 a43 a44 a45 a46 a47 a48 a49 a50 a51 a52 a53 a54 a55 a56 a57 : Rw) : Lqb3 (some 5) [.i a0, .i a1, .i a2, .i a3, .i a4, .i a5, .i a6, .i a7, .i a8, .i a9, .i a10, .i a11, .i a12, .i a13, .i a14, .i a15, .i a16, .i a17, .i a18, .i a19, .l a20, .i a21, .i a22, .i a23, .i a24, .i a25, .i a26, .i a27, .i a28, .i a29, .i a30, .i a31, .i a32, .i a33, .i a34, .i a35, .l a36, .l a37, .l a38, .l a39, .l a40, .l a41, .l a42, .l a43, .l a44, .l a45, .l a46, .l a47, .l a48, .l a49, .l a50, .l a51, .l a52, .l a53, .l a54, .l a55, .l a56, .l a57] =
 cond (decide (a35 < a0)) (
 (Lqs none [.i a19, .l a49, .l a20, .i a21, .i a22, .i a23, .i a15, .i a16, .i a17, .i a18, .l a46, .l a47, .l a48]).bind fun y1 =>
 cond (!(g y1 0).bool) (
 some [.i 1, .i 0, .i 0, .i 0, .i 0, .i 0, .i 0, .i 0, .l ([]), .i 0, .i 0, .i 0, .i 0, .l [], .l [], .l [], .l [], .l [], .l [], .l []]) (
 (Lqf none [.i a19, .l a49, .l a20, .i a21, .i a22, .i a23, .i a15, .i a16, .i a17, .i a18, .l a46, .l a47, .l a48]).bind fun y2 =>
 cond (!(g y2 6).bool) (
 some [.i 1, .i 0, .i 0, .i 0, .i 0, .i 0, .i 0, .i 0, .l ([]), .i 0, .i 0, .i 0, .i 0, .l [], .l [], .l [], .l [], .l [], .l [], .l []]) (
 cond (!Eng.seq ((g y2 5).str) (⟨#[]⟩ : ByteArray)) (
 cond ((IntKind.i64.wrap ((a44.length : Int) + (a45.length : Int))) == 4000) (
 some [.i a24, .i a13, .i a14, .i a15, .i a16, .i a17, .i a18, .i a19, .l a20, .i a21, .i a22, .i a23, .i a35, .l a44, .l a45, .l a46, .l a47, .l a48, .l a49, .l a57]) (
 (Lqa none [.i 7, .s ((g y2 5).str), .s (⟨#[]⟩ : ByteArray), .i 0, .s (⟨#[]⟩ : ByteArray), .l ([]), .i a15, .i a16, .i a17, .i a18, .l a46, .l a47, .l a48]).bind fun y3 =>
 (Lqci none [.i 7, .s ((g y2 5).str), .s (⟨#[]⟩ : ByteArray), .i 0, .s (⟨#[]⟩ : ByteArray), .l ([]), .i a13]).bind fun y4 =>
 cond (decide (a45.length + ([[.s ((g y4 0).str)]] : Rw).length ≤ most)) (
 cond (decide (a57.length + ([[.s ((g y2 5).str)]] : Rw).length ≤ most)) (
 Lqb3 (some 5) [.i a0, .i a1, .i a2, .i a3, .i a4, .i a5, .i a6, .i a7, .i a8, .i a9, .i a10, .i a11, .i a12, .i a13, .i a14, .i ((g y3 12).int), .i ((g y3 13).int), .i ((g y3 14).int), .i ((g y3 15).int), .i ((g y2 0).int), .l ((g y2 1).list), .i ((g y2 2).int), .i ((g y2 3).int), .i ((g y2 4).int), .i a24, .i a25, .i a26, .i a27, .i a28, .i a29, .i a30, .i a31, .i a32, .i a33, .i a34, .i (IntKind.i64.wrap (a35 + 1)), .l a36, .l a37, .l a38, .l a39, .l a40, .l a41, .l a42, .l a43, .l a44, .l (a45 ++ ([[.s ((g y4 0).str)]] : Rw)), .l ((g y3 16).list), .l ((g y3 17).list), .l ((g y3 18).list), .l ((g y2 7).list), .l a50, .l a51, .l a52, .l a53, .l a54, .l a55, .l a56, .l (a57 ++ ([[.s ((g y2 5).str)]] : Rw))]) (
 none)) (
 none))) (
 Lqb3 (some 5) [.i a0, .i a1, .i a2, .i a3, .i a4, .i a5, .i a6, .i a7, .i a8, .i a9, .i a10, .i a11, .i a12, .i a13, .i a14, .i a15, .i a16, .i a17, .i a18, .i ((g y2 0).int), .l ((g y2 1).list), .i ((g y2 2).int), .i ((g y2 3).int), .i ((g y2 4).int), .i a24, .i a25, .i a26, .i a27, .i a28, .i a29, .i a30, .i a31, .i a32, .i a33, .i a34, .i (IntKind.i64.wrap (a35 + 1)), .l a36, .l a37, .l a38, .l a39, .l a40, .l a41, .l a42, .l a43, .l a44, .l a45, .l a46, .l a47, .l a48, .l ((g y2 7).list), .l a50, .l a51, .l a52, .l a53, .l a54, .l a55, .l a56, .l a57])))) (
 some [.i a24, .i a13, .i a14, .i a15, .i a16, .i a17, .i a18, .i a19, .l a20, .i a21, .i a22, .i a23, .i a35, .l a44, .l a45, .l a46, .l a47, .l a48, .l a49, .l a57]) := (zd _ _).trans (by kernel_rfl)
theorem kqb3 : SigOk Tryz.prog (dqb3.sig (Lqb3 none)) ∧ (dqb3.sig (Lqb3 none)).ok = true := zf (zb kqa (by kernel_rfl) (zb kqs (by kernel_rfl) (zb kqbs (by kernel_rfl) (zb kqci (by kernel_rfl) (zb kqcj (by kernel_rfl) (zb kqf (by kernel_rfl) ze)))))) (by kernel_rfl) (by kernel_rfl) (by kernel_rfl)
def dqch : FD := { fn := 45, nb := 0, pre := ⟨[.ag [.i .i64 0, .i .i64 1, .i .i64 2, .i .i64 3, .fz 90 false 4, .fz 156 false 5, .fz 158 false 6]], []⟩, post := ⟨[.sc (.i .i64 0)], []⟩, sh := false, cuts := [⟨3, [1, 3, 4], ⟨[.sc (.pt 0 0), .sc (.i .i64 0), .sc (.i .i64 1)], [.bx [.i .i64 2, .i .i64 3, .i .i64 4, .i .i64 5, .fz 90 false 6, .fz 156 false 7, .fz 158 false 8]]⟩⟩] }
noncomputable def Lqch : Option Nat → Lv → Option Lv := Lim Tryz.prog [] dqch Tryz.f45
theorem eqch_i (a0 a1 a2 a3 : Int) (a4 a5 a6 : Rw) : Lqch none [.i a0, .i a1, .i a2, .i a3, .l a4, .l a5, .l a6] =
 Lqch (some 3) [.i (IntKind.i64.wrap ((IntKind.i64.wrap ((a4.length : Int) + (a5.length : Int))) + (a6.length : Int))), .i 0, .i a0, .i a1, .i a2, .i a3, .l a4, .l a5, .l a6] := (zd _ _).trans (by kernel_rfl)
theorem eqch_3 (a0 a1 a2 a3 a4 a5 : Int) (a6 a7 a8 : Rw) : Lqch (some 3) [.i a0, .i a1, .i a2, .i a3, .i a4, .i a5, .l a6, .l a7, .l a8] =
 cond (decide (a1 < (a6.length : Int))) (
 cond (inb a1 a6.length) (
 Lqch (some 3) [.i (IntKind.i64.wrap (a0 + (((rd a6 a1.toNat 3).list).length : Int))), .i (IntKind.i64.wrap (a1 + 1)), .i a2, .i a3, .i a4, .i a5, .l a6, .l a7, .l a8]) (
 none)) (
 some [.i (IntKind.i64.wrap ((IntKind.i64.wrap (3 * a0)) + 3))]) := (zd _ _).trans (by kernel_rfl)
theorem kqch : SigOk Tryz.prog (dqch.sig (Lqch none)) ∧ (dqch.sig (Lqch none)).ok = true := zf ze (by kernel_rfl) (by kernel_rfl) (by kernel_rfl)
def dqb4 : FD := { fn := 68, nb := 0, pre := ⟨[.ag [.i .i64 0, .i .i64 1, .fz 9 false 2, .fz 9 false 3, .i .i64 4, .i .i64 5, .i .i64 6, .i .i64 7, .fz 90 false 8, .fz 156 false 9, .fz 158 false 10, .i .i64 11, .fz 9 false 12, .fz 9 false 13, .i .i64 14, .i .i64 15, .i .i64 16]], []⟩, post := ⟨[.tu [(true, [.i .i64 0, .i .i64 1, .fz 9 false 2, .fz 9 false 3, .i .i64 4, .i .i64 5, .i .i64 6, .i .i64 7, .fz 90 false 8, .fz 156 false 9, .fz 158 false 10, .i .i64 11, .fz 9 false 12, .fz 9 false 13, .i .i64 14, .i .i64 15, .i .i64 16]), (false, [.b 17])]], []⟩, sh := true, cuts := [⟨2, [1, 2, 4], ⟨[.sc (.pt 0 0), .sc (.pt 1 0), .sc (.i .i64 0)], [.bx [.i .i64 1, .i .i64 2, .fz 9 false 3, .fz 9 false 4, .i .i64 5, .i .i64 6, .i .i64 7, .i .i64 8, .fz 90 false 9, .fz 156 false 10, .fz 158 false 11, .i .i64 12, .fz 9 false 13, .fz 9 false 14, .i .i64 15, .i .i64 16, .i .i64 17], .bx [.i .i64 18, .i .i64 19, .ow 2, .ow 3, .i .i64 20, .i .i64 21, .i .i64 22, .i .i64 23, .ow 4, .ow 5, .ow 6, .i .i64 24, .ow 7, .ow 8, .i .i64 25, .i .i64 26, .i .i64 27], .rw 9 true 28, .rw 9 true 29, .rw 90 true 30, .rw 156 true 31, .rw 158 true 32, .rw 9 true 33, .rw 9 true 34]⟩⟩] }
noncomputable def Lqb4 : Option Nat → Lv → Option Lv := Lim Tryz.prog [dqb3.sig (Lqb3 none), dqch.sig (Lqch none)] dqb4 Tryz.f68
theorem eqb4_i (a0 a1 : Int) (a2 a3 : Rw) (a4 a5 a6 a7 : Int) (a8 a9 a10 : Rw) (a11 : Int) (a12 a13 : Rw) (a14 a15 a16 : Int) : Lqb4 none [.i a0, .i a1, .l a2, .l a3, .i a4, .i a5, .i a6, .i a7, .l a8, .l a9, .l a10, .i a11, .l a12, .l a13, .i a14, .i a15, .i a16] =
 (Lqch none [.i a4, .i a5, .i a6, .i a7, .l a8, .l a9, .l a10]).bind fun y1 =>
 Lqb4 (some 2) [.i (IntKind.i64.wrap ((IntKind.i64.wrap (3 * (g y1 0).int)) + (a12.length : Int))), .i a0, .i a1, .l a2, .l a3, .i a4, .i a5, .i a6, .i a7, .l a8, .l a9, .l a10, .i a11, .l a12, .l a13, .i a14, .i a15, .i a16, .i 0, .i 0, .i 0, .i 0, .i 0, .i 0, .i 0, .i 0, .i 0, .i 0, .l [], .l [], .l [], .l [], .l [], .l [], .l []] := (zd _ _).trans (by kernel_rfl)
theorem eqb4_2 (a0 a1 a2 : Int) (a3 a4 : Rw) (a5 a6 a7 a8 : Int) (a9 a10 a11 : Rw) (a12 : Int) (a13 a14 : Rw) (a15 a16 a17 a18 a19 a20 a21 a22 a23 a24 a25 a26 a27 : Int) (a28 a29 a30 a31 a32 a33 a34 : Rw) : Lqb4 (some 2) [.i a0, .i a1, .i a2, .l a3, .l a4, .i a5, .i a6, .i a7, .i a8, .l a9, .l a10, .l a11, .i a12, .l a13, .l a14, .i a15, .i a16, .i a17, .i a18, .i a19, .i a20, .i a21, .i a22, .i a23, .i a24, .i a25, .i a26, .i a27, .l a28, .l a29, .l a30, .l a31, .l a32, .l a33, .l a34] =
 cond (decide (0 < a0)) (
 cond (decide (10000 < a0)) (
 (Lqb3 none [.i a1, .i a2, .l a3, .l a4, .i a5, .i a6, .i a7, .i a8, .l a9, .l a10, .l a11, .i a12, .l a13, .l a14, .i a15, .i a16, .i a17, .i 10000]).bind fun y1 =>
 cond ((g y1 0).int != 0) (
 some [.i a1, .i a2, .l a3, .l a4, .i a5, .i a6, .i a7, .i a8, .l a9, .l a10, .l a11, .i a12, .l a13, .l a14, .i a15, .i a16, .i a17, .b false]) (
 cond ((g y1 12).int != 10000) (
 some [.i a1, .i a2, .l a3, .l a4, .i a5, .i a6, .i a7, .i a8, .l a9, .l a10, .l a11, .i a12, .l a13, .l a14, .i a15, .i a16, .i a17, .b false]) (
 Lqb4 (some 2) [.i (IntKind.i64.wrap (a0 - 10000)), .i ((g y1 1).int), .i ((g y1 2).int), .l ((g y1 13).list), .l ((g y1 14).list), .i ((g y1 3).int), .i ((g y1 4).int), .i ((g y1 5).int), .i ((g y1 6).int), .l ((g y1 15).list), .l ((g y1 16).list), .l ((g y1 17).list), .i ((g y1 7).int), .l ((g y1 18).list), .l ((g y1 8).list), .i ((g y1 9).int), .i ((g y1 10).int), .i ((g y1 11).int), .i a18, .i a19, .i a20, .i a21, .i a22, .i a23, .i a24, .i a25, .i a26, .i a27, .l a28, .l a29, .l a30, .l a31, .l a32, .l a33, .l a34]))) (
 (Lqb3 none [.i a1, .i a2, .l a3, .l a4, .i a5, .i a6, .i a7, .i a8, .l a9, .l a10, .l a11, .i a12, .l a13, .l a14, .i a15, .i a16, .i a17, .i a0]).bind fun y2 =>
 cond ((g y2 0).int != 0) (
 some [.i a1, .i a2, .l a3, .l a4, .i a5, .i a6, .i a7, .i a8, .l a9, .l a10, .l a11, .i a12, .l a13, .l a14, .i a15, .i a16, .i a17, .b false]) (
 cond ((g y2 12).int != a0) (
 some [.i a1, .i a2, .l a3, .l a4, .i a5, .i a6, .i a7, .i a8, .l a9, .l a10, .l a11, .i a12, .l a13, .l a14, .i a15, .i a16, .i a17, .b false]) (
 Lqb4 (some 2) [.i (IntKind.i64.wrap (a0 - a0)), .i ((g y2 1).int), .i ((g y2 2).int), .l ((g y2 13).list), .l ((g y2 14).list), .i ((g y2 3).int), .i ((g y2 4).int), .i ((g y2 5).int), .i ((g y2 6).int), .l ((g y2 15).list), .l ((g y2 16).list), .l ((g y2 17).list), .i ((g y2 7).int), .l ((g y2 18).list), .l ((g y2 8).list), .i ((g y2 9).int), .i ((g y2 10).int), .i ((g y2 11).int), .i a18, .i a19, .i a20, .i a21, .i a22, .i a23, .i a24, .i a25, .i a26, .i a27, .l a28, .l a29, .l a30, .l a31, .l a32, .l a33, .l a34])))) (
 some [.i a1, .i a2, .l a3, .l a4, .i a5, .i a6, .i a7, .i a8, .l a9, .l a10, .l a11, .i a12, .l a13, .l a14, .i a15, .i a16, .i a17, .b true]) := (zd _ _).trans (by kernel_rfl)
theorem kqb4 : SigOk Tryz.prog (dqb4.sig (Lqb4 none)) ∧ (dqb4.sig (Lqb4 none)).ok = true := zf (zb kqb3 (by kernel_rfl) (zb kqch (by kernel_rfl) ze)) (by kernel_rfl) (by kernel_rfl) (by kernel_rfl)
def dqcm : FD := { fn := 12, nb := 0, pre := ⟨[.sc (.fz 5 false 0)], []⟩, post := ⟨[.sc (.b 0)], []⟩, sh := false, cuts := [⟨5, [3], ⟨[.sc (.pt 0 0)], [.bx [.i .i64 0, .i .i64 1, .fz 9 true 2, .fz 9 true 3, .i .i64 4, .i .i64 5, .i .i64 6, .i .i64 7, .fz 90 true 8, .fz 156 true 9, .fz 158 true 10, .i .i64 11, .fz 9 true 12, .fz 9 true 13, .i .i64 14, .i .i64 15, .i .i64 16]]⟩⟩] }
noncomputable def Lqcm : Option Nat → Lv → Option Lv := Lim Tryz.prog [dqbs.sig (Lqbs none), dqc4.sig (Lqc4 none), dqcv.sig (Lqcv none), dqbf.sig (Lqbf none), dqco.sig (Lqco none), dqct.sig (Lqct none), dqc7.sig (Lqc7 none), dqcr.sig (Lqcr none), dqbx.sig (Lqbx none), dqb4.sig (Lqb4 none)] dqcm Tryz.f12
theorem eqcm_i (a0 : Rw) : Lqcm none [.l a0] =
 cond (decide (1048576 < (a0.length : Int))) (
 some [.b true]) (
 (Lqbx none [.l a0]).bind fun y1 =>
 (Lqbf none [.i ((g y1 0).int), .i ((g y1 1).int), .l ((g y1 2).list), .l ((g y1 3).list), .i ((g y1 4).int), .i ((g y1 5).int), .i ((g y1 6).int), .i ((g y1 7).int), .l ((g y1 8).list), .l ((g y1 9).list), .l ((g y1 10).list), .i ((g y1 11).int), .l ((g y1 12).list), .l ((g y1 13).list), .i ((g y1 14).int), .i ((g y1 15).int), .i ((g y1 16).int)]).bind fun y2 =>
 cond (!(g y2 0).bool) (
 Lqcm (some 5) [.i ((g y1 0).int), .i ((g y1 1).int), .l ((g y1 2).list), .l ((g y1 3).list), .i ((g y1 4).int), .i ((g y1 5).int), .i ((g y1 6).int), .i ((g y1 7).int), .l ((g y1 8).list), .l ((g y1 9).list), .l ((g y1 10).list), .i ((g y1 11).int), .l ((g y1 12).list), .l ((g y1 13).list), .i ((g y1 14).int), .i ((g y1 15).int), .i ((g y1 16).int)]) (
 cond (decide ((g y1 18).int < 2)) (
 Lqcm (some 5) [.i ((g y1 0).int), .i ((g y1 1).int), .l ((g y1 2).list), .l ((g y1 3).list), .i ((g y1 4).int), .i ((g y1 5).int), .i ((g y1 6).int), .i ((g y1 7).int), .l ((g y1 8).list), .l ((g y1 9).list), .l ((g y1 10).list), .i ((g y1 11).int), .l ((g y1 12).list), .l ((g y1 13).list), .i ((g y1 14).int), .i ((g y1 15).int), .i ((g y1 16).int)]) (
 cond (decide (1000 < (g y1 18).int)) (
 Lqcm (some 5) [.i ((g y1 0).int), .i ((g y1 1).int), .l ((g y1 2).list), .l ((g y1 3).list), .i ((g y1 4).int), .i ((g y1 5).int), .i ((g y1 6).int), .i ((g y1 7).int), .l ((g y1 8).list), .l ((g y1 9).list), .l ((g y1 10).list), .i ((g y1 11).int), .l ((g y1 12).list), .l ((g y1 13).list), .i ((g y1 14).int), .i ((g y1 15).int), .i ((g y1 16).int)]) (
 cond (decide (60 < (((g y1 8).list).length : Int))) (
 Lqcm (some 5) [.i ((g y1 0).int), .i ((g y1 1).int), .l ((g y1 2).list), .l ((g y1 3).list), .i ((g y1 4).int), .i ((g y1 5).int), .i ((g y1 6).int), .i ((g y1 7).int), .l ((g y1 8).list), .l ((g y1 9).list), .l ((g y1 10).list), .i ((g y1 11).int), .l ((g y1 12).list), .l ((g y1 13).list), .i ((g y1 14).int), .i ((g y1 15).int), .i ((g y1 16).int)]) (
 cond (decide (999995000 < (g y1 5).int)) (
 Lqcm (some 5) [.i ((g y1 0).int), .i ((g y1 1).int), .l ((g y1 2).list), .l ((g y1 3).list), .i ((g y1 4).int), .i ((g y1 5).int), .i ((g y1 6).int), .i ((g y1 7).int), .l ((g y1 8).list), .l ((g y1 9).list), .l ((g y1 10).list), .i ((g y1 11).int), .l ((g y1 12).list), .l ((g y1 13).list), .i ((g y1 14).int), .i ((g y1 15).int), .i ((g y1 16).int)]) (
 cond (decide (1000 < (IntKind.i64.wrap ((((g y1 2).list).length : Int) + (((g y1 3).list).length : Int))))) (
 Lqcm (some 5) [.i ((g y1 0).int), .i ((g y1 1).int), .l ((g y1 2).list), .l ((g y1 3).list), .i ((g y1 4).int), .i ((g y1 5).int), .i ((g y1 6).int), .i ((g y1 7).int), .l ((g y1 8).list), .l ((g y1 9).list), .l ((g y1 10).list), .i ((g y1 11).int), .l ((g y1 12).list), .l ((g y1 13).list), .i ((g y1 14).int), .i ((g y1 15).int), .i ((g y1 16).int)]) (
 cond (decide (1000 < (g y1 16).int)) (
 Lqcm (some 5) [.i ((g y1 0).int), .i ((g y1 1).int), .l ((g y1 2).list), .l ((g y1 3).list), .i ((g y1 4).int), .i ((g y1 5).int), .i ((g y1 6).int), .i ((g y1 7).int), .l ((g y1 8).list), .l ((g y1 9).list), .l ((g y1 10).list), .i ((g y1 11).int), .l ((g y1 12).list), .l ((g y1 13).list), .i ((g y1 14).int), .i ((g y1 15).int), .i ((g y1 16).int)]) (
 (Lqc4 none [.i ((g y1 0).int), .i ((g y1 1).int), .l ((g y1 2).list), .l ((g y1 3).list), .i ((g y1 4).int), .i ((g y1 5).int), .i ((g y1 6).int), .i ((g y1 7).int), .l ((g y1 8).list), .l ((g y1 9).list), .l ((g y1 10).list), .i ((g y1 11).int), .l ((g y1 12).list), .l ((g y1 13).list), .i ((g y1 14).int), .i ((g y1 15).int), .i ((g y1 16).int), .s (⟨#[97, 32, 116, 104, 105, 110, 103, 32, 116, 104, 97, 116, 32, 110, 111, 98, 111, 100, 121, 32, 101, 108, 115, 101, 32, 112, 117, 116, 115]⟩ : ByteArray), .l ([]), .i ((g y1 18).int)]).bind fun y3 =>
 cond ((g y3 0).int != 0) (
 (Lqco none [.i ((g y1 0).int), .i ((g y1 1).int), .l ((g y1 2).list), .l ((g y1 3).list), .i ((g y1 4).int), .i ((g y1 5).int), .i ((g y1 6).int), .i ((g y1 7).int), .l ((g y1 8).list), .l ((g y1 9).list), .l ((g y1 10).list), .i ((g y1 11).int), .l ((g y1 12).list), .l ((g y1 13).list), .i ((g y1 14).int), .i ((g y1 15).int), .i ((g y1 16).int), .s (⟨#[97, 32, 116, 104, 105, 110, 103, 32, 116, 104, 97, 116, 32, 110, 111, 98, 111, 100, 121, 32, 101, 108, 115, 101, 32, 112, 117, 116, 115]⟩ : ByteArray), .l ([]), .i ((g y1 18).int)]).bind fun y4 =>
 cond ((g y3 0).int == (g y4 0).int) (
 (Lqc7 none [.i ((g y3 1).int), .i ((g y3 2).int), .l ((g y3 15).list), .l ((g y3 16).list), .i ((g y3 3).int), .i ((g y3 4).int), .i ((g y3 5).int), .i ((g y3 6).int), .l ((g y3 17).list), .l ((g y3 18).list), .l ((g y3 19).list), .i ((g y3 7).int), .l ((g y3 20).list), .l ((g y3 21).list), .i ((g y3 8).int), .i ((g y3 9).int), .i ((g y3 10).int), .i ((g y1 0).int), .i ((g y1 1).int), .l ((g y1 2).list), .l ((g y1 3).list), .i ((g y1 4).int), .i ((g y1 5).int), .i ((g y1 6).int), .i ((g y1 7).int), .l ((g y1 8).list), .l ((g y1 9).list), .l ((g y1 10).list), .i ((g y1 11).int), .l ((g y1 12).list), .l ((g y1 13).list), .i ((g y1 14).int), .i ((g y1 15).int), .i ((g y1 16).int)]).bind fun y5 =>
 some [.b ((g y5 0).bool)]) (
 some [.b false])) (
 (Lqcv none [.i ((g y3 1).int), .i ((g y3 2).int), .l ((g y3 15).list), .l ((g y3 16).list), .i ((g y3 3).int), .i ((g y3 4).int), .i ((g y3 5).int), .i ((g y3 6).int), .l ((g y3 17).list), .l ((g y3 18).list), .l ((g y3 19).list), .i ((g y3 7).int), .l ((g y3 20).list), .l ((g y3 21).list), .i ((g y3 8).int), .i ((g y3 9).int), .i ((g y3 10).int), .i (IntKind.i64.wrap ((g y1 18).int - 1))]).bind fun y6 =>
 cond (decide (600 < (IntKind.i64.wrap ((((g y1 13).list).length : Int) + (((g y6 17).list).length : Int))))) (
 some [.b ((g y6 0).int == 0)]) (
 cond (decide (1000 < (((g y1 12).list).length : Int))) (
 some [.b ((g y6 0).int == 0)]) (
 (Lqb4 none [.i ((g y6 1).int), .i ((g y6 2).int), .l ((g y6 15).list), .l ((g y6 16).list), .i ((g y6 3).int), .i ((g y6 4).int), .i ((g y6 5).int), .i ((g y6 6).int), .l ((g y6 17).list), .l ((g y6 18).list), .l ((g y6 19).list), .i ((g y6 7).int), .l ((g y6 20).list), .l ((g y6 21).list), .i ((g y6 8).int), .i ((g y6 9).int), .i ((g y6 10).int)]).bind fun y7 =>
 (Lqcr none [.i ((g y7 0).int), .i ((g y7 1).int), .l ((g y7 2).list), .l ((g y7 3).list), .i ((g y7 4).int), .i ((g y7 5).int), .i ((g y7 6).int), .i ((g y7 7).int), .l ((g y7 8).list), .l ((g y7 9).list), .l ((g y7 10).list), .i ((g y7 11).int), .l ((g y7 12).list), .l ((g y7 13).list), .i ((g y7 14).int), .i ((g y7 15).int), .i ((g y7 16).int), .s ((g y3 11).str)]).bind fun y8 =>
 cond ((g y6 0).int != 0) (
 some [.b false]) (
 cond (!(g y7 17).bool) (
 some [.b false]) (
 cond (!(g y8 1).bool) (
 some [.b false]) (
 (Lqct none [.s ((g y8 0).str), .l ((g y8 2).list), .s (⟨#[97, 32, 116, 104, 105, 110, 103, 32, 116, 104, 97, 116, 32, 110, 111, 98, 111, 100, 121, 32, 101, 108, 115, 101, 32, 112, 117, 116, 115]⟩ : ByteArray), .l ([])]).bind fun y9 =>
 cond (!(g y9 0).bool) (
 some [.b false]) (
 (Lqcv none [.i ((g y7 0).int), .i ((g y7 1).int), .l ((g y7 2).list), .l ((g y7 3).list), .i ((g y7 4).int), .i ((g y7 5).int), .i ((g y7 6).int), .i ((g y7 7).int), .l ((g y7 8).list), .l ((g y7 9).list), .l ((g y7 10).list), .i ((g y7 11).int), .l ((g y7 12).list), .l ((g y7 13).list), .i ((g y7 14).int), .i ((g y7 15).int), .i ((g y7 16).int), .i 1]).bind fun y10 =>
 (Lqb4 none [.i ((g y10 1).int), .i ((g y10 2).int), .l ((g y10 15).list), .l ((g y10 16).list), .i ((g y10 3).int), .i ((g y10 4).int), .i ((g y10 5).int), .i ((g y10 6).int), .l ((g y10 17).list), .l ((g y10 18).list), .l ((g y10 19).list), .i ((g y10 7).int), .l ((g y10 20).list), .l ((g y10 21).list), .i ((g y10 8).int), .i ((g y10 9).int), .i ((g y10 10).int)]).bind fun y11 =>
 (Lqcr none [.i ((g y11 0).int), .i ((g y11 1).int), .l ((g y11 2).list), .l ((g y11 3).list), .i ((g y11 4).int), .i ((g y11 5).int), .i ((g y11 6).int), .i ((g y11 7).int), .l ((g y11 8).list), .l ((g y11 9).list), .l ((g y11 10).list), .i ((g y11 11).int), .l ((g y11 12).list), .l ((g y11 13).list), .i ((g y11 14).int), .i ((g y11 15).int), .i ((g y11 16).int), .s ((g y3 11).str)]).bind fun y12 =>
 cond ((g y10 0).int == 0) (
 cond ((g y11 17).bool) (
 some [.b (!(g y12 1).bool)]) (
 some [.b false])) (
 some [.b false])))))))))))))))) := (zd _ _).trans (by kernel_rfl)
theorem eqcm_5 (a0 a1 : Int) (a2 a3 : Rw) (a4 a5 a6 a7 : Int) (a8 a9 a10 : Rw) (a11 : Int) (a12 a13 : Rw) (a14 a15 a16 : Int) : Lqcm (some 5) [.i a0, .i a1, .l a2, .l a3, .i a4, .i a5, .i a6, .i a7, .l a8, .l a9, .l a10, .i a11, .l a12, .l a13, .i a14, .i a15, .i a16] =
 (Lqbs none [.i a0, .i a1, .l a2, .l a3, .i a4, .i a5, .i a6, .i a7, .l a8, .l a9, .l a10, .i a11, .l a12, .l a13, .i a14, .i a15, .i a16]).bind fun y1 =>
 (Lqbf none [.i a0, .i a1, .l a2, .l a3, .i a4, .i a5, .i a6, .i a7, .l a8, .l a9, .l a10, .i a11, .l a12, .l a13, .i a14, .i a15, .i a16]).bind fun y2 =>
 some [.b ((g y1 0).bool == (g y2 0).bool)] := (zd _ _).trans (by kernel_rfl)
theorem kqcm : SigOk Tryz.prog (dqcm.sig (Lqcm none)) ∧ (dqcm.sig (Lqcm none)).ok = true := zf (zb kqbs (by kernel_rfl) (zb kqc4 (by kernel_rfl) (zb kqcv (by kernel_rfl) (zb kqbf (by kernel_rfl) (zb kqco (by kernel_rfl) (zb kqct (by kernel_rfl) (zb kqc7 (by kernel_rfl) (zb kqcr (by kernel_rfl) (zb kqbx (by kernel_rfl) (zb kqb4 (by kernel_rfl) ze)))))))))) (by kernel_rfl) (by kernel_rfl) (by kernel_rfl)
end KV
end
