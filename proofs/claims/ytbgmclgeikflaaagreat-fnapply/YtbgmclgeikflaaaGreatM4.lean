/- Walks of Go functions, printed by a program of ours. -/
import Derived.Test.YtbgmclgeikflaaaGreatProg
import Derived.Test.YtbgmclgeikflaaaGreatM1
import Derived.Test.YtbgmclgeikflaaaGreatM2
import Derived.Test.YtbgmclgeikflaaaGreatM3
set_option linter.unusedSimpArgs false
set_option linter.unusedVariables false
set_option linter.unusedSectionVars false
section
set_option maxRecDepth 100000
namespace KV
open Go Go.Eng Go.Proofs
def dqbf : FD := { fn := 175, nb := 0, pre := ⟨[.ag [.i .i64 0, .i .i64 1, .fz 9 false 2, .ow 0, .i .i64 3, .i .i64 4, .i .i64 5, .i .i64 6, .fz 90 false 7, .ow 1, .ow 2, .i .i64 8, .fz 9 false 9, .fz 9 false 10, .i .i64 11, .i .i64 12, .i .i64 13], .ag [.i .i64 14, .s 15, .i .i64 16, .s 17, .i .i64 18, .i .i64 19]], [.rw 9 false 20, .rw 156 false 21, .rw 158 false 22]⟩, post := ⟨[.ag [.i .i64 0, .i .i64 1, .fz 9 false 2, .ow 0, .i .i64 3, .i .i64 4, .i .i64 5, .i .i64 6, .fz 90 false 7, .ow 1, .ow 2, .i .i64 8, .fz 9 false 9, .fz 9 false 10, .i .i64 11, .i .i64 12, .i .i64 13]], [.rw 9 false 14, .rw 156 false 15, .rw 158 false 16]⟩, sh := true, cuts := [⟨21, [2, 4, 5], ⟨[.sc (.pt 0 0), .sc (.pt 1 0), .sc (.pt 2 0)], [.bx [.i .i64 0, .i .i64 1, .fz 9 false 2, .ow 3, .i .i64 3, .i .i64 4, .i .i64 5, .i .i64 6, .fz 90 false 7, .ow 4, .ow 5, .i .i64 8, .fz 9 false 9, .fz 9 false 10, .i .i64 11, .i .i64 12, .i .i64 13], .bx [.i .i64 14, .i .i64 15, .ow 13, .ow 14, .i .i64 16, .i .i64 17, .i .i64 18, .i .i64 19, .ow 15, .ow 16, .ow 17, .i .i64 20, .ow 18, .ow 19, .i .i64 21, .i .i64 22, .i .i64 23], .bx [.i .i64 24, .i .i64 25, .i .i64 26, .ow 6, .ow 7, .i .i64 27, .i .i64 28, .i .i64 29, .i .i64 30, .ow 8, .ow 9, .ow 10, .i .i64 31, .ow 11, .ow 12, .i .i64 32, .i .i64 33, .i .i64 34, .s 35, .i .i64 36, .s 37, .s 38], .rw 9 false 39, .rw 156 false 40, .rw 158 false 41, .rw 9 true 42, .rw 9 true 43, .rw 90 true 44, .rw 156 true 45, .rw 158 true 46, .rw 9 true 47, .rw 9 true 48, .rw 9 true 49, .rw 9 true 50, .rw 90 true 51, .rw 156 true 52, .rw 158 true 53, .rw 9 true 54, .rw 9 true 55]⟩⟩] }
noncomputable def Lqbf : Option Nat → Lv → Option Lv := Lim Tryz.prog [dqbd.sig (Lqbd none), dqb2.sig (Lqb2 none), dqcf.sig (Lqcf none), dqcr.sig (Lqcr none), dqcs.sig (Lqcs none), dqct.sig (Lqct none), dqcu.sig (Lqcu none), dqcv.sig (Lqcv none), dqcw.sig (Lqcw none), dqb6.sig (Lqb6 none), dqc6.sig (Lqc6 none), dqcx.sig (Lqcx none)] dqbf Tryz.f175
theorem eqbf_i (a0 a1 : Int) (a2 : Rw) (a3 a4 a5 a6 : Int) (a7 : Rw) (a8 : Int) (a9 a10 : Rw) (a11 a12 a13 a14 : Int) (a15 : ByteArray) (a16 : Int) (a17 : ByteArray) (a18 a19 : Int) (a20 a21 a22 : Rw) : Lqbf none [.i a0, .i a1, .l a2, .i a3, .i a4, .i a5, .i a6, .l a7, .i a8, .l a9, .l a10, .i a11, .i a12, .i a13, .i a14, .s a15, .i a16, .s a17, .i a18, .i a19, .l a20, .l a21, .l a22] =
 cond (a14 == 1) (
 (Lqbd none [.i a14, .s a15, .i a16, .s a17, .i a18, .i a19, .i a3, .i a4, .i a5, .i a6, .l a7, .l a21, .l a22]).bind fun y1 =>
 (Lqcr none [.i a0, .i a1, .l a2, .l a20, .i a3, .i a4, .i a5, .i a6, .l a7, .l a21, .l a22, .i a8, .l a9, .l a10, .i a11, .i a12, .i a13, .s ((g y1 0).str), .l ((g y1 1).list), .i a19]).bind fun y2 =>
 Lqbf (some 21) [.i a0, .i a1, .l a2, .i a3, .i a4, .i a5, .i a6, .l a7, .i a8, .l a9, .l a10, .i a11, .i a12, .i a13, .i 0, .i 0, .i 0, .i 0, .i 0, .i 0, .i 0, .i 0, .i 0, .i 0, .i ((g y2 0).int), .i ((g y2 1).int), .i ((g y2 2).int), .i ((g y2 3).int), .i ((g y2 4).int), .i ((g y2 5).int), .i ((g y2 6).int), .i ((g y2 7).int), .i ((g y2 8).int), .i ((g y2 9).int), .i ((g y2 10).int), .s ((g y2 11).str), .i ((g y2 12).int), .s ((g y2 13).str), .s ((g y2 14).str), .l a20, .l a21, .l a22, .l ((g y2 15).list), .l ((g y2 16).list), .l ((g y2 17).list), .l ((g y2 18).list), .l ((g y2 19).list), .l ((g y2 20).list), .l ((g y2 21).list), .l [], .l [], .l [], .l [], .l [], .l [], .l []]) (
 cond (a14 == 2) (
 (Lqb2 none [.i a14, .s a15, .i a16, .s a17, .i a18, .i a19, .i a3, .i a4, .i a5, .i a6, .l a7, .l a21, .l a22]).bind fun y3 =>
 (Lqcs none [.i a0, .i a1, .l a2, .l a20, .i a3, .i a4, .i a5, .i a6, .l a7, .l a21, .l a22, .i a8, .l a9, .l a10, .i a11, .i a12, .i a13, .s a17, .s ((g y3 0).str)]).bind fun y4 =>
 Lqbf (some 21) [.i a0, .i a1, .l a2, .i a3, .i a4, .i a5, .i a6, .l a7, .i a8, .l a9, .l a10, .i a11, .i a12, .i a13, .i 0, .i 0, .i 0, .i 0, .i 0, .i 0, .i 0, .i 0, .i 0, .i 0, .i ((g y4 0).int), .i ((g y4 1).int), .i ((g y4 2).int), .i ((g y4 3).int), .i ((g y4 4).int), .i ((g y4 5).int), .i ((g y4 6).int), .i ((g y4 7).int), .i ((g y4 8).int), .i ((g y4 9).int), .i ((g y4 10).int), .s ((g y4 11).str), .i ((g y4 12).int), .s ((g y4 13).str), .s ((g y4 14).str), .l a20, .l a21, .l a22, .l ((g y4 15).list), .l ((g y4 16).list), .l ((g y4 17).list), .l ((g y4 18).list), .l ((g y4 19).list), .l ((g y4 20).list), .l ((g y4 21).list), .l [], .l [], .l [], .l [], .l [], .l [], .l []]) (
 cond (a14 == 3) (
 (Lqct none [.i a0, .i a1, .l a2, .l a20, .i a3, .i a4, .i a5, .i a6, .l a7, .l a21, .l a22, .i a8, .l a9, .l a10, .i a11, .i a12, .i a13, .s a17]).bind fun y5 =>
 Lqbf (some 21) [.i a0, .i a1, .l a2, .i a3, .i a4, .i a5, .i a6, .l a7, .i a8, .l a9, .l a10, .i a11, .i a12, .i a13, .i 0, .i 0, .i 0, .i 0, .i 0, .i 0, .i 0, .i 0, .i 0, .i 0, .i ((g y5 0).int), .i ((g y5 1).int), .i ((g y5 2).int), .i ((g y5 3).int), .i ((g y5 4).int), .i ((g y5 5).int), .i ((g y5 6).int), .i ((g y5 7).int), .i ((g y5 8).int), .i ((g y5 9).int), .i ((g y5 10).int), .s ((g y5 11).str), .i ((g y5 12).int), .s ((g y5 13).str), .s ((g y5 14).str), .l a20, .l a21, .l a22, .l ((g y5 15).list), .l ((g y5 16).list), .l ((g y5 17).list), .l ((g y5 18).list), .l ((g y5 19).list), .l ((g y5 20).list), .l ((g y5 21).list), .l [], .l [], .l [], .l [], .l [], .l [], .l []]) (
 cond (a14 == 4) (
 (Lqb2 none [.i a14, .s a15, .i a16, .s a17, .i a18, .i a19, .i a3, .i a4, .i a5, .i a6, .l a7, .l a21, .l a22]).bind fun y6 =>
 (Lqcu none [.i a0, .i a1, .l a2, .l a20, .i a3, .i a4, .i a5, .i a6, .l a7, .l a21, .l a22, .i a8, .l a9, .l a10, .i a11, .i a12, .i a13, .s ((g y6 0).str), .i a19]).bind fun y7 =>
 Lqbf (some 21) [.i a0, .i a1, .l a2, .i a3, .i a4, .i a5, .i a6, .l a7, .i a8, .l a9, .l a10, .i a11, .i a12, .i a13, .i 0, .i 0, .i 0, .i 0, .i 0, .i 0, .i 0, .i 0, .i 0, .i 0, .i ((g y7 0).int), .i ((g y7 1).int), .i ((g y7 2).int), .i ((g y7 3).int), .i ((g y7 4).int), .i ((g y7 5).int), .i ((g y7 6).int), .i ((g y7 7).int), .i ((g y7 8).int), .i ((g y7 9).int), .i ((g y7 10).int), .s ((g y7 11).str), .i ((g y7 12).int), .s ((g y7 13).str), .s ((g y7 14).str), .l a20, .l a21, .l a22, .l ((g y7 15).list), .l ((g y7 16).list), .l ((g y7 17).list), .l ((g y7 18).list), .l ((g y7 19).list), .l ((g y7 20).list), .l ((g y7 21).list), .l [], .l [], .l [], .l [], .l [], .l [], .l []]) (
 cond (a14 == 5) (
 (Lqcf none [.i a14, .s a15, .i a16, .s a17, .i a18, .i a19, .i a3, .i a4, .i a5, .i a6, .l a7, .l a21, .l a22]).bind fun y8 =>
 (Lqcv none [.i a0, .i a1, .l a2, .l a20, .i a3, .i a4, .i a5, .i a6, .l a7, .l a21, .l a22, .i a8, .l a9, .l a10, .i a11, .i a12, .i a13, .i ((g y8 0).int)]).bind fun y9 =>
 Lqbf (some 21) [.i a0, .i a1, .l a2, .i a3, .i a4, .i a5, .i a6, .l a7, .i a8, .l a9, .l a10, .i a11, .i a12, .i a13, .i 0, .i 0, .i 0, .i 0, .i 0, .i 0, .i 0, .i 0, .i 0, .i 0, .i ((g y9 0).int), .i ((g y9 1).int), .i ((g y9 2).int), .i ((g y9 3).int), .i ((g y9 4).int), .i ((g y9 5).int), .i ((g y9 6).int), .i ((g y9 7).int), .i ((g y9 8).int), .i ((g y9 9).int), .i ((g y9 10).int), .s ((g y9 11).str), .i ((g y9 12).int), .s ((g y9 13).str), .s ((g y9 14).str), .l a20, .l a21, .l a22, .l ((g y9 15).list), .l ((g y9 16).list), .l ((g y9 17).list), .l ((g y9 18).list), .l ((g y9 19).list), .l ((g y9 20).list), .l ((g y9 21).list), .l [], .l [], .l [], .l [], .l [], .l [], .l []]) (
 cond (a14 == 6) (
 (Lqcw none [.i a0, .i a1, .l a2, .l a20, .i a3, .i a4, .i a5, .i a6, .l a7, .l a21, .l a22, .i a8, .l a9, .l a10, .i a11, .i a12, .i a13, .i a19]).bind fun y10 =>
 Lqbf (some 21) [.i a0, .i a1, .l a2, .i a3, .i a4, .i a5, .i a6, .l a7, .i a8, .l a9, .l a10, .i a11, .i a12, .i a13, .i 0, .i 0, .i 0, .i 0, .i 0, .i 0, .i 0, .i 0, .i 0, .i 0, .i ((g y10 0).int), .i ((g y10 1).int), .i ((g y10 2).int), .i ((g y10 3).int), .i ((g y10 4).int), .i ((g y10 5).int), .i ((g y10 6).int), .i ((g y10 7).int), .i ((g y10 8).int), .i ((g y10 9).int), .i ((g y10 10).int), .s ((g y10 11).str), .i ((g y10 12).int), .s ((g y10 13).str), .s ((g y10 14).str), .l a20, .l a21, .l a22, .l ((g y10 15).list), .l ((g y10 16).list), .l ((g y10 17).list), .l ((g y10 18).list), .l ((g y10 19).list), .l ((g y10 20).list), .l ((g y10 21).list), .l [], .l [], .l [], .l [], .l [], .l [], .l []]) (
 cond (a14 == 8) (
 (Lqc6 none [.i a0, .i a1, .l a2, .l a20, .i a3, .i a4, .i a5, .i a6, .l a7, .l a21, .l a22, .i a8, .l a9, .l a10, .i a11, .i a12, .i a13]).bind fun y11 =>
 some [.i ((g y11 0).int), .i ((g y11 1).int), .l ((g y11 10).list), .i ((g y11 2).int), .i ((g y11 3).int), .i ((g y11 4).int), .i ((g y11 5).int), .l ((g y11 12).list), .i ((g y11 6).int), .l ((g y11 15).list), .l ((g y11 16).list), .i ((g y11 7).int), .i ((g y11 8).int), .i ((g y11 9).int), .l ((g y11 11).list), .l ((g y11 13).list), .l ((g y11 14).list)]) (
 cond (a14 == 9) (
 (Lqcx none [.i a0, .i a1, .l a2, .l a20, .i a3, .i a4, .i a5, .i a6, .l a7, .l a21, .l a22, .i a8, .l a9, .l a10, .i a11, .i a12, .i a13, .i (a18.tmod 6)]).bind fun y12 =>
 some [.i ((g y12 0).int), .i ((g y12 1).int), .l ((g y12 12).list), .i ((g y12 2).int), .i ((g y12 3).int), .i ((g y12 4).int), .i ((g y12 5).int), .l ((g y12 14).list), .i ((g y12 6).int), .l ((g y12 7).list), .l ((g y12 8).list), .i ((g y12 9).int), .i ((g y12 10).int), .i ((g y12 11).int), .l ((g y12 13).list), .l ((g y12 15).list), .l ((g y12 16).list)]) (
 cond (a14 == 10) (
 (Lqb6 none [.i a0, .i a1, .l a2, .l a20, .i a3, .i a4, .i a5, .i a6, .l a7, .l a21, .l a22, .i a8, .l a9, .l a10, .i a11, .i a12, .i a13, .i a18]).bind fun y13 =>
 some [.i ((g y13 1).int), .i ((g y13 2).int), .l ((g y13 12).list), .i ((g y13 3).int), .i ((g y13 4).int), .i ((g y13 5).int), .i ((g y13 6).int), .l ((g y13 14).list), .i ((g y13 7).int), .l ((g y13 17).list), .l ((g y13 18).list), .i ((g y13 8).int), .i ((g y13 9).int), .i ((g y13 10).int), .l ((g y13 13).list), .l ((g y13 15).list), .l ((g y13 16).list)]) (
 Lqbf (some 21) [.i a0, .i a1, .l a2, .i a3, .i a4, .i a5, .i a6, .l a7, .i a8, .l a9, .l a10, .i a11, .i a12, .i a13, .i 0, .i 0, .i 0, .i 0, .i 0, .i 0, .i 0, .i 0, .i 0, .i 0, .i 1, .i 0, .i 0, .i 0, .i 0, .i 0, .i 0, .i 0, .i 0, .i 0, .i 0, .s (⟨#[]⟩ : ByteArray), .i 0, .s (⟨#[]⟩ : ByteArray), .s (⟨#[]⟩ : ByteArray), .l a20, .l a21, .l a22, .l [], .l [], .l [], .l [], .l [], .l [], .l [], .l [], .l [], .l [], .l [], .l [], .l [], .l []]))))))))) := (zd _ _).trans (by kernel_rfl)
theorem eqbf_21 (a0 a1 : Int) (a2 : Rw) (a3 a4 a5 a6 : Int) (a7 : Rw) (a8 : Int) (a9 a10 : Rw) (a11 a12 a13 a14 a15 a16 a17 a18 a19 a20 a21 a22 a23 a24 a25 a26 a27 a28 a29 a30 a31 a32 a33 a34 : Int) (a35 : ByteArray) (a36 : Int) (a37 a38 : ByteArray) (a39 a40 a41 a42 a43 a44 a45 a46 a47 a48 a49 a50 a51 a52 a53 a54 a55 : Rw) : Lqbf (some 21) [.i a0, .i a1, .l a2, .i a3, .i a4, .i a5, .i a6, .l a7, .i a8, .l a9, .l a10, .i a11, .i a12, .i a13, .i a14, .i a15, .i a16, .i a17, .i a18, .i a19, .i a20, .i a21, .i a22, .i a23, .i a24, .i a25, .i a26, .i a27, .i a28, .i a29, .i a30, .i a31, .i a32, .i a33, .i a34, .s a35, .i a36, .s a37, .s a38, .l a39, .l a40, .l a41, .l a42, .l a43, .l a44, .l a45, .l a46, .l a47, .l a48, .l a49, .l a50, .l a51, .l a52, .l a53, .l a54, .l a55] =
 cond (a24 == 0) (
 some [.i a25, .i a26, .l a42, .i a27, .i a28, .i a29, .i a30, .l a44, .i a31, .l a47, .l a48, .i a32, .i a33, .i a34, .l a43, .l a45, .l a46]) (
 some [.i a0, .i a1, .l a2, .i a3, .i a4, .i a5, .i a6, .l a7, .i a8, .l a9, .l a10, .i a11, .i a12, .i a13, .l a39, .l a40, .l a41]) := (zd _ _).trans (by kernel_rfl)
theorem kqbf : SigOk Tryz.prog (dqbf.sig (Lqbf none)) ∧ (dqbf.sig (Lqbf none)).ok = true := zf (zb kqbd (by kernel_rfl) (zb kqb2 (by kernel_rfl) (zb kqcf (by kernel_rfl) (zb kqcr (by kernel_rfl) (zb kqcs (by kernel_rfl) (zb kqct (by kernel_rfl) (zb kqcu (by kernel_rfl) (zb kqcv (by kernel_rfl) (zb kqcw (by kernel_rfl) (zb kqb6 (by kernel_rfl) (zb kqc6 (by kernel_rfl) (zb kqcx (by kernel_rfl) ze)))))))))))) (by kernel_rfl) (by kernel_rfl) (by kernel_rfl)
def dqbg : FD := { fn := 109, nb := 1, pre := ⟨[.sc (.pt 0 0)], [.bx [.fz 5 false 0, .i .i64 1]]⟩, post := ⟨[.ag [.i .i64 0, .i .i64 1, .fz 9 true 2, .ow 1, .i .i64 3, .i .i64 4, .i .i64 5, .i .i64 6, .fz 90 true 7, .ow 2, .ow 3, .i .i64 8, .fz 9 true 9, .fz 9 true 10, .i .i64 11, .i .i64 12, .i .i64 13]], [.bx [.fz 5 false 14, .i .i64 15], .rw 9 true 16, .rw 156 true 17, .rw 158 true 18]⟩, sh := true, cuts := [⟨8, [0, 2, 4, 6], ⟨[.sc (.pt 0 0), .sc (.pt 1 0), .sc (.pt 2 0), .sc (.i .i64 0)], [.bx [.fz 5 false 1, .i .i64 2], .bx [.i .i64 3, .i .i64 4, .ow 3, .ow 4, .i .i64 5, .i .i64 6, .i .i64 7, .i .i64 8, .ow 5, .ow 6, .ow 7, .i .i64 9, .ow 8, .ow 9, .i .i64 10, .i .i64 11, .i .i64 12], .bx [.i .i64 13, .i .i64 14, .fz 9 true 15, .ow 10, .i .i64 16, .i .i64 17, .i .i64 18, .i .i64 19, .fz 90 true 20, .ow 11, .ow 12, .i .i64 21, .fz 9 true 22, .fz 9 true 23, .i .i64 24, .i .i64 25, .i .i64 26], .rw 9 true 27, .rw 9 true 28, .rw 90 true 29, .rw 156 true 30, .rw 158 true 31, .rw 9 true 32, .rw 9 true 33, .rw 9 true 34, .rw 156 true 35, .rw 158 true 36]⟩⟩] }
noncomputable def Lqbg : Option Nat → Lv → Option Lv := Lim Tryz.prog [dqc.sig (Lqc none), dqcp.sig (Lqcp none), dqch.sig (Lqch none), dqce.sig (Lqce none), dqbf.sig (Lqbf none)] dqbg Tryz.f109
theorem eqbg_i (a0 : Rw) (a1 : Int) : Lqbg none [.l a0, .i a1] =
 (Lqc none [.i 6, .l a0, .i a1]).bind fun y1 =>
 cond ((g y1 0).int == 0) (
 (Lqc none [.i 60, .l ((g y1 1).list), .i ((g y1 2).int)]).bind fun y2 =>
 (Lqcp none [.l ((g y2 1).list), .i ((g y2 2).int)]).bind fun y3 =>
 (Lqce none [.i ((g y3 0).int), .i (IntKind.i64.wrap (20 + (g y2 0).int)), .l ([]), .l ([])]).bind fun y4 =>
 (Lqc none [.i 14, .l ((g y3 1).list), .i ((g y3 2).int)]).bind fun y5 =>
 (Lqc none [.i 6, .l ((g y5 1).list), .i ((g y5 2).int)]).bind fun y6 =>
 cond ((g y6 0).int == 0) (
 Lqbg (some 8) [.i (IntKind.i64.wrap ((g y5 0).int + 12)), .l ((g y6 1).list), .i ((g y6 2).int), .i 0, .i 0, .i 0, .i 0, .i 0, .i 0, .i 0, .i 0, .i 0, .i 0, .i ((g y4 0).int), .i ((g y4 1).int), .l ((g y4 13).list), .i ((g y4 2).int), .i ((g y4 3).int), .i ((g y4 4).int), .i ((g y4 5).int), .l ((g y4 15).list), .i ((g y4 6).int), .l ((g y4 7).list), .l ((g y4 8).list), .i ((g y4 9).int), .i ((g y4 10).int), .i ((g y4 11).int), .l [], .l [], .l [], .l [], .l [], .l [], .l [], .l ((g y4 14).list), .l ((g y4 16).list), .l ((g y4 17).list)]) (
 Lqbg (some 8) [.i ((g y5 0).int), .l ((g y6 1).list), .i ((g y6 2).int), .i 0, .i 0, .i 0, .i 0, .i 0, .i 0, .i 0, .i 0, .i 0, .i 0, .i ((g y4 0).int), .i ((g y4 1).int), .l ((g y4 13).list), .i ((g y4 2).int), .i ((g y4 3).int), .i ((g y4 4).int), .i ((g y4 5).int), .l ((g y4 15).list), .i ((g y4 6).int), .l ((g y4 7).list), .l ((g y4 8).list), .i ((g y4 9).int), .i ((g y4 10).int), .i ((g y4 11).int), .l [], .l [], .l [], .l [], .l [], .l [], .l [], .l ((g y4 14).list), .l ((g y4 16).list), .l ((g y4 17).list)])) (
 (Lqcp none [.l ((g y1 1).list), .i ((g y1 2).int)]).bind fun y7 =>
 (Lqce none [.i ((g y7 0).int), .i 1000000, .l ([]), .l ([])]).bind fun y8 =>
 (Lqc none [.i 14, .l ((g y7 1).list), .i ((g y7 2).int)]).bind fun y9 =>
 (Lqc none [.i 6, .l ((g y9 1).list), .i ((g y9 2).int)]).bind fun y10 =>
 cond ((g y10 0).int == 0) (
 Lqbg (some 8) [.i (IntKind.i64.wrap ((g y9 0).int + 12)), .l ((g y10 1).list), .i ((g y10 2).int), .i 0, .i 0, .i 0, .i 0, .i 0, .i 0, .i 0, .i 0, .i 0, .i 0, .i ((g y8 0).int), .i ((g y8 1).int), .l ((g y8 13).list), .i ((g y8 2).int), .i ((g y8 3).int), .i ((g y8 4).int), .i ((g y8 5).int), .l ((g y8 15).list), .i ((g y8 6).int), .l ((g y8 7).list), .l ((g y8 8).list), .i ((g y8 9).int), .i ((g y8 10).int), .i ((g y8 11).int), .l [], .l [], .l [], .l [], .l [], .l [], .l [], .l ((g y8 14).list), .l ((g y8 16).list), .l ((g y8 17).list)]) (
 Lqbg (some 8) [.i ((g y9 0).int), .l ((g y10 1).list), .i ((g y10 2).int), .i 0, .i 0, .i 0, .i 0, .i 0, .i 0, .i 0, .i 0, .i 0, .i 0, .i ((g y8 0).int), .i ((g y8 1).int), .l ((g y8 13).list), .i ((g y8 2).int), .i ((g y8 3).int), .i ((g y8 4).int), .i ((g y8 5).int), .l ((g y8 15).list), .i ((g y8 6).int), .l ((g y8 7).list), .l ((g y8 8).list), .i ((g y8 9).int), .i ((g y8 10).int), .i ((g y8 11).int), .l [], .l [], .l [], .l [], .l [], .l [], .l [], .l ((g y8 14).list), .l ((g y8 16).list), .l ((g y8 17).list)])) := (zd _ _).trans (by kernel_rfl)
theorem eqbg_8 (a0 : Int) (a1 : Rw) (a2 a3 a4 a5 a6 a7 a8 a9 a10 a11 a12 a13 a14 : Int) (a15 : Rw) (a16 a17 a18 a19 : Int) (a20 : Rw) (a21 : Int) (a22 a23 : Rw) (a24 a25 a26 : Int) (a27 a28 a29 a30 a31 a32 a33 a34 a35 a36 : Rw) : Lqbg (some 8) [.i a0, .l a1, .i a2, .i a3, .i a4, .i a5, .i a6, .i a7, .i a8, .i a9, .i a10, .i a11, .i a12, .i a13, .i a14, .l a15, .i a16, .i a17, .i a18, .i a19, .l a20, .i a21, .l a22, .l a23, .i a24, .i a25, .i a26, .l a27, .l a28, .l a29, .l a30, .l a31, .l a32, .l a33, .l a34, .l a35, .l a36] =
 cond (decide (0 < a0)) (
 (Lqch none [.l a1, .i a2]).bind fun y1 =>
 (Lqbf none [.i a13, .i a14, .l a15, .i a16, .i a17, .i a18, .i a19, .l a20, .i a21, .l a22, .l a23, .i a24, .i a25, .i a26, .i ((g y1 0).int), .s ((g y1 1).str), .i ((g y1 2).int), .s ((g y1 3).str), .i ((g y1 4).int), .i ((g y1 5).int), .l a34, .l a35, .l a36]).bind fun y2 =>
 Lqbg (some 8) [.i (IntKind.i64.wrap (a0 - 1)), .l ((g y1 6).list), .i ((g y1 7).int), .i a3, .i a4, .i a5, .i a6, .i a7, .i a8, .i a9, .i a10, .i a11, .i a12, .i ((g y2 0).int), .i ((g y2 1).int), .l ((g y2 2).list), .i ((g y2 3).int), .i ((g y2 4).int), .i ((g y2 5).int), .i ((g y2 6).int), .l ((g y2 7).list), .i ((g y2 8).int), .l ((g y2 9).list), .l ((g y2 10).list), .i ((g y2 11).int), .i ((g y2 12).int), .i ((g y2 13).int), .l a27, .l a28, .l a29, .l a30, .l a31, .l a32, .l a33, .l ((g y2 14).list), .l ((g y2 15).list), .l ((g y2 16).list)]) (
 some [.i a13, .i a14, .l a15, .i a16, .i a17, .i a18, .i a19, .l a20, .i a21, .l a22, .l a23, .i a24, .i a25, .i a26, .l a1, .i a2, .l a34, .l a35, .l a36]) := (zd _ _).trans (by kernel_rfl)
theorem kqbg : SigOk Tryz.prog (dqbg.sig (Lqbg none)) ∧ (dqbg.sig (Lqbg none)).ok = true := zf (zb kqc (by kernel_rfl) (zb kqcp (by kernel_rfl) (zb kqch (by kernel_rfl) (zb kqce (by kernel_rfl) (zb kqbf (by kernel_rfl) ze))))) (by kernel_rfl) (by kernel_rfl) (by kernel_rfl)
def dqbk : FD := { fn := 223, nb := 0, pre := ⟨[.sc (.i .i64 0)], []⟩, post := ⟨[.sc (.s 0)], []⟩, sh := false, cuts := [] }
noncomputable def Rqbk (n : Nat) : Option Nat → Lv → Option Lv := Nat.rec (fun _ _ => none) (fun _ r => Lim Tryz.prog [dqbk.sig (r none)] dqbk Tryz.f223) n
theorem eqbk_i (m : Nat) (a0 : Int) : Rqbk (m + 1) none [.i a0] =
 cond (decide (a0 < 10)) (
 some [.s (bytesOf ([[.i (IntKind.u8.wrap (IntKind.i64.wrap (48 + a0)))]] : Rw))]) (
 (Rqbk m none [.i (IntKind.i64.wrap (a0.tdiv 10))]).bind fun y1 =>
 cond (decide (((g y1 0).str).size + (bytesOf ([[.i (IntKind.u8.wrap (IntKind.i64.wrap (48 + (a0.tmod 10))))]] : Rw)).size ≤ most)) (
 some [.s (((g y1 0).str) ++ (bytesOf ([[.i (IntKind.u8.wrap (IntKind.i64.wrap (48 + (a0.tmod 10))))]] : Rw)))]) (
 none)) := (zd _ _).trans (by kernel_rfl)
theorem kRqbk : ∀ n, SigOk Tryz.prog (dqbk.sig (Rqbk n none)) ∧ (dqbk.sig (Rqbk n none)).ok = true
 | 0 => ⟨(fun w args x y X0 h1 h2 h3 h4 h5 h6 => nomatch h6), by kernel_rfl⟩
 | n + 1 => zf (zb (kRqbk n) (by kernel_rfl) ze) (by kernel_rfl) (by kernel_rfl) (by kernel_rfl)
noncomputable def Lqbk : Option Nat → Lv → Option Lv := Rqbk 20
theorem kqbk : SigOk Tryz.prog (dqbk.sig (Lqbk none)) ∧ (dqbk.sig (Lqbk none)).ok = true := kRqbk 20
def dq3 : FD := { fn := 196, nb := 0, pre := ⟨[.sc (.i .i64 0), .sc (.b 1)], []⟩, post := ⟨[.ag [.i .i64 0, .i .i64 1, .i .i64 2, .i .i64 3, .ow 0, .ow 1, .ow 2]], [.rw 90 true 4, .rw 156 true 5, .rw 158 true 6]⟩, sh := false, cuts := [⟨4, [0, 1, 4, 5, 6, 7], ⟨[.sc (.i .i64 0), .sc (.b 1), .sc (.pt 0 0), .sc (.pt 1 0), .sc (.s 2), .sc (.i .i64 3)], [.bx [.i .i64 4, .i .i64 5, .i .i64 6, .i .i64 7, .ow 2, .ow 3, .ow 4], .bx [.i .i64 8, .i .i64 9, .i .i64 10, .i .i64 11, .ow 5, .ow 6, .ow 7], .rw 90 true 12, .rw 156 true 13, .rw 158 true 14, .rw 90 true 15, .rw 156 true 16, .rw 158 true 17]⟩⟩, ⟨11, [0, 1, 4, 5, 6, 7, 8, 9], ⟨[.sc (.i .i64 0), .sc (.b 1), .sc (.pt 0 0), .sc (.pt 1 0), .sc (.s 2), .sc (.i .i64 3), .sc (.pt 2 0), .sc (.i .i64 4)], [.bx [.i .i64 5, .i .i64 6, .i .i64 7, .i .i64 8, .ow 3, .ow 4, .ow 5], .bx [.i .i64 9, .i .i64 10, .i .i64 11, .i .i64 12, .ow 6, .ow 7, .ow 8], .bx [.s 13, .ow 9], .rw 90 true 14, .rw 156 true 15, .rw 158 true 16, .rw 90 true 17, .rw 156 true 18, .rw 158 true 19, .rw 9 true 20]⟩⟩] }
noncomputable def Lq3 : Option Nat → Lv → Option Lv := Lim Tryz.prog [dqr.sig (Lqr none), dqf.sig (Lqf none), dqbk.sig (Lqbk none)] dq3 Tryz.f196
theorem eq3_i (a0 : Int) (a1 : Bool) : Lq3 none [.i a0, .b a1] =
 Lq3 (some 4) [.i a0, .b a1, .s (⟨#[]⟩ : ByteArray), .i 1, .i 0, .i 0, .i 0, .i 0, .i 8, .i 0, .i 0, .i a0, .l [], .l [], .l [], .l [], .l [], .l []] := (zd _ _).trans (by kernel_rfl)
theorem eq3_4 (a0 : Int) (a1 : Bool) (a2 : ByteArray) (a3 a4 a5 a6 a7 a8 a9 a10 a11 : Int) (a12 a13 a14 a15 a16 a17 : Rw) : Lq3 (some 4) [.i a0, .b a1, .s a2, .i a3, .i a4, .i a5, .i a6, .i a7, .i a8, .i a9, .i a10, .i a11, .l a12, .l a13, .l a14, .l a15, .l a16, .l a17] =
 cond (decide (a3 ≤ a0)) (
 (Lqbk none [.i a3]).bind fun y1 =>
 cond (!a1) (
 cond (!Eng.seq a2 (⟨#[]⟩ : ByteArray)) (
 (Lqr none [.s ((g y1 0).str), .l ([[.s a2]] : Rw), .i 8]).bind fun y2 =>
 (Lqf none [.s ((g y2 0).str), .i 8]).bind fun y3 =>
 Lq3 (some 11) [.i a0, .b a1, .s ((g y3 0).str), .i a3, .i 0, .i a4, .i a5, .i a6, .i a7, .i a8, .i a9, .i a10, .i a11, .s ((g y1 0).str), .l a12, .l a13, .l a14, .l a15, .l a16, .l a17, .l ([[.s a2]] : Rw)]) (
 (Lqr none [.s ((g y1 0).str), .l ([]), .i 8]).bind fun y4 =>
 (Lqf none [.s ((g y4 0).str), .i 8]).bind fun y5 =>
 Lq3 (some 11) [.i a0, .b a1, .s ((g y5 0).str), .i a3, .i 0, .i a4, .i a5, .i a6, .i a7, .i a8, .i a9, .i a10, .i a11, .s ((g y1 0).str), .l a12, .l a13, .l a14, .l a15, .l a16, .l a17, .l []])) (
 (Lqr none [.s ((g y1 0).str), .l ([]), .i 8]).bind fun y6 =>
 (Lqf none [.s ((g y6 0).str), .i 8]).bind fun y7 =>
 Lq3 (some 11) [.i a0, .b a1, .s ((g y7 0).str), .i a3, .i 0, .i a4, .i a5, .i a6, .i a7, .i a8, .i a9, .i a10, .i a11, .s ((g y1 0).str), .l a12, .l a13, .l a14, .l a15, .l a16, .l a17, .l []])) (
 some [.i a8, .i a9, .i a10, .i a11, .l a15, .l a16, .l a17]) := (zd _ _).trans (by kernel_rfl)
theorem eq3_11 (a0 : Int) (a1 : Bool) (a2 : ByteArray) (a3 a4 a5 a6 a7 a8 a9 a10 a11 a12 : Int) (a13 : ByteArray) (a14 a15 a16 a17 a18 a19 a20 : Rw) : Lq3 (some 11) [.i a0, .b a1, .s a2, .i a3, .i a4, .i a5, .i a6, .i a7, .i a8, .i a9, .i a10, .i a11, .i a12, .s a13, .l a14, .l a15, .l a16, .l a17, .l a18, .l a19, .l a20] =
 cond (decide (a4 < (a17.length : Int))) (
 cond (inb a4 a17.length) (
 cond (slt ((rd a17 a4.toNat 0).str) a2) (
 Lq3 (some 11) [.i a0, .b a1, .s a2, .i a3, .i (IntKind.i64.wrap (a4 + 1)), .i a5, .i a6, .i a7, .i a8, .i a9, .i a10, .i a11, .i a12, .s a13, .l a14, .l a15, .l a16, .l a17, .l a18, .l a19, .l a20]) (
 cond (decide (0 ≤ a4)) (
 cond (decide (a4 ≤ (a17.length : Int))) (
 cond (decide (([] : Rw).length + (Eng.sub a17 0 a4.toNat).length ≤ most)) (
 cond (decide ((([] : Rw) ++ (Eng.sub a17 0 a4.toNat)).length + ([[.s a2, .i a3, .s a13, .l a20]] : Rw).length ≤ most)) (
 cond (decide (0 ≤ a4)) (
 cond (decide (a4 ≤ (a17.length : Int))) (
 cond (decide (((([] : Rw) ++ (Eng.sub a17 0 a4.toNat)) ++ ([[.s a2, .i a3, .s a13, .l a20]] : Rw)).length + (Eng.sub a17 a4.toNat a17.length).length ≤ most)) (
 Lq3 (some 4) [.i a0, .b a1, .s a2, .i (IntKind.i64.wrap (a3 + 1)), .i a5, .i a6, .i a7, .i a8, .i a9, .i a10, .i a11, .i a12, .l a14, .l a15, .l a16, .l (((([] : Rw) ++ (Eng.sub a17 0 a4.toNat)) ++ ([[.s a2, .i a3, .s a13, .l a20]] : Rw)) ++ (Eng.sub a17 a4.toNat a17.length)), .l a18, .l a19]) (
 none)) (
 none)) (
 none)) (
 none)) (
 none)) (
 none)) (
 none))) (
 none)) (
 cond (decide (0 ≤ a4)) (
 cond (decide (a4 ≤ (a17.length : Int))) (
 cond (decide (([] : Rw).length + (Eng.sub a17 0 a4.toNat).length ≤ most)) (
 cond (decide ((([] : Rw) ++ (Eng.sub a17 0 a4.toNat)).length + ([[.s a2, .i a3, .s a13, .l a20]] : Rw).length ≤ most)) (
 cond (decide (0 ≤ a4)) (
 cond (decide (a4 ≤ (a17.length : Int))) (
 cond (decide (((([] : Rw) ++ (Eng.sub a17 0 a4.toNat)) ++ ([[.s a2, .i a3, .s a13, .l a20]] : Rw)).length + (Eng.sub a17 a4.toNat a17.length).length ≤ most)) (
 Lq3 (some 4) [.i a0, .b a1, .s a2, .i (IntKind.i64.wrap (a3 + 1)), .i a5, .i a6, .i a7, .i a8, .i a9, .i a10, .i a11, .i a12, .l a14, .l a15, .l a16, .l (((([] : Rw) ++ (Eng.sub a17 0 a4.toNat)) ++ ([[.s a2, .i a3, .s a13, .l a20]] : Rw)) ++ (Eng.sub a17 a4.toNat a17.length)), .l a18, .l a19]) (
 none)) (
 none)) (
 none)) (
 none)) (
 none)) (
 none)) (
 none)) := (zd _ _).trans (by kernel_rfl)
theorem kq3 : SigOk Tryz.prog (dq3.sig (Lq3 none)) ∧ (dq3.sig (Lq3 none)).ok = true := zf (zb kqr (by kernel_rfl) (zb kqf (by kernel_rfl) (zb kqbk (by kernel_rfl) ze))) (by kernel_rfl) (by kernel_rfl) (by kernel_rfl)
def dqbq : FD := { fn := 201, nb := 0, pre := ⟨[.sc (.s 0), .sc (.i .i64 1)], []⟩, post := ⟨[.sc (.s 0)], []⟩, sh := false, cuts := [⟨2, [0, 1, 5], ⟨[.sc (.s 0), .sc (.i .i64 1), .sc (.s 2)], []⟩⟩] }
noncomputable def Lqbq : Option Nat → Lv → Option Lv := Lim Tryz.prog [] dqbq Tryz.f201
theorem eqbq_i (a0 : ByteArray) (a1 : Int) : Lqbq none [.s a0, .i a1] =
 Lqbq (some 2) [.s a0, .i a1, .s (⟨#[]⟩ : ByteArray)] := (zd _ _).trans (by kernel_rfl)
theorem eqbq_2 (a0 : ByteArray) (a1 : Int) (a2 : ByteArray) : Lqbq (some 2) [.s a0, .i a1, .s a2] =
 cond (decide (0 < a1)) (
 cond ((a1.tmod 2) == 1) (
 cond (decide (a2.size + a0.size ≤ most)) (
 cond (decide (a0.size + a0.size ≤ most)) (
 Lqbq (some 2) [.s (a0 ++ a0), .i (IntKind.i64.wrap (a1.tdiv 2)), .s (a2 ++ a0)]) (
 none)) (
 none)) (
 cond (decide (a0.size + a0.size ≤ most)) (
 Lqbq (some 2) [.s (a0 ++ a0), .i (IntKind.i64.wrap (a1.tdiv 2)), .s a2]) (
 none))) (
 some [.s a2]) := (zd _ _).trans (by kernel_rfl)
theorem kqbq : SigOk Tryz.prog (dqbq.sig (Lqbq none)) ∧ (dqbq.sig (Lqbq none)).ok = true := zf ze (by kernel_rfl) (by kernel_rfl) (by kernel_rfl)
def dqbv : FD := { fn := 145, nb := 1, pre := ⟨[.sc (.pt 0 0), .ag [.s 0, .fz 9 false 1]], [.bx [.fz 5 false 2, .i .i64 3]]⟩, post := ⟨[.ag [.s 0, .ow 1]], [.bx [.fz 5 false 1, .i .i64 2], .rw 9 true 3]⟩, sh := true, cuts := [⟨15, [4, 5, 6, 7], ⟨[.sc (.pt 1 0), .sc (.pt 2 0), .sc (.i .i64 0), .sc (.i .i64 1)], [.bx [.fz 5 false 2, .i .i64 3], .bx [.s 4, .ow 3], .bx [.s 5, .ow 4], .rw 9 true 6, .rw 9 true 7]⟩⟩] }
noncomputable def Lqbv : Option Nat → Lv → Option Lv := Lim Tryz.prog [dqc.sig (Lqc none), dqbn.sig (Lqbn none), dqbq.sig (Lqbq none)] dqbv Tryz.f145
theorem eqbv_i (a0 : ByteArray) (a1 a2 : Rw) (a3 : Int) : Lqbv none [.s a0, .l a1, .l a2, .i a3] =
 (Lqbn none [.s a0, .l a1]).bind fun y1 =>
 (Lqc none [.i 5, .l a2, .i a3]).bind fun y2 =>
 cond ((g y2 0).int == 0) (
 (Lqc none [.i 2, .l ((g y2 1).list), .i ((g y2 2).int)]).bind fun y3 =>
 (Lqbq none [.s (⟨#[116]⟩ : ByteArray), .i (IntKind.i64.wrap (2000 + (g y3 0).int))]).bind fun y4 =>
 some [.s ((g y4 0).str), .l ((g y3 1).list), .i ((g y3 2).int), .l ((g y1 1).list)]) (
 cond ((g y2 0).int == 1) (
 cond (decide (((g y1 1).list).length + ([[.s (⟨#[120]⟩ : ByteArray)]] : Rw).length ≤ most)) (
 some [.s ((g y1 0).str), .l ((g y2 1).list), .i ((g y2 2).int), .l ((g y1 1).list ++ ([[.s (⟨#[120]⟩ : ByteArray)]] : Rw))]) (
 none)) (
 cond ((g y2 0).int == 2) (
 cond (decide (0 < (((g y1 1).list).length : Int))) (
 cond (inb 0 (((g y1 1).list).length)) (
 cond (decide (((g y1 1).list).length + ([[.s ((rd ((g y1 1).list) 0 0).str)]] : Rw).length ≤ most)) (
 some [.s ((g y1 0).str), .l ((g y2 1).list), .i ((g y2 2).int), .l ((g y1 1).list ++ ([[.s ((rd ((g y1 1).list) 0 0).str)]] : Rw))]) (
 none)) (
 none)) (
 some [.s ((g y1 0).str), .l ((g y2 1).list), .i ((g y2 2).int), .l ((g y1 1).list)])) (
 cond ((g y2 0).int == 3) (
 (Lqc none [.i 2, .l ((g y2 1).list), .i ((g y2 2).int)]).bind fun y5 =>
 Lqbv (some 15) [.i (IntKind.i64.wrap (30 + (g y5 0).int)), .i 0, .l ((g y5 1).list), .i ((g y5 2).int), .s (⟨#[]⟩ : ByteArray), .s ((g y1 0).str), .l [], .l ([] : Rw)]) (
 cond (decide (((g y1 0).str).size + (⟨#[122]⟩ : ByteArray).size ≤ most)) (
 some [.s (((g y1 0).str) ++ (⟨#[122]⟩ : ByteArray)), .l ((g y2 1).list), .i ((g y2 2).int), .l ((g y1 1).list)]) (
 none))))) := (zd _ _).trans (by kernel_rfl)
theorem eqbv_15 (a0 a1 : Int) (a2 : Rw) (a3 : Int) (a4 a5 : ByteArray) (a6 a7 : Rw) : Lqbv (some 15) [.i a0, .i a1, .l a2, .i a3, .s a4, .s a5, .l a6, .l a7] =
 cond (decide (a1 < a0)) (
 cond (decide (a7.length + ([[.s (bytesOf ([[.i (IntKind.u8.wrap (IntKind.i64.wrap (33 + a1)))]] : Rw))]] : Rw).length ≤ most)) (
 Lqbv (some 15) [.i a0, .i (IntKind.i64.wrap (a1 + 1)), .l a2, .i a3, .s a4, .s a5, .l a6, .l (a7 ++ ([[.s (bytesOf ([[.i (IntKind.u8.wrap (IntKind.i64.wrap (33 + a1)))]] : Rw))]] : Rw))]) (
 none)) (
 some [.s a5, .l a2, .i a3, .l a7]) := (zd _ _).trans (by kernel_rfl)
theorem kqbv : SigOk Tryz.prog (dqbv.sig (Lqbv none)) ∧ (dqbv.sig (Lqbv none)).ok = true := zf (zb kqc (by kernel_rfl) (zb kqbn (by kernel_rfl) (zb kqbq (by kernel_rfl) ze))) (by kernel_rfl) (by kernel_rfl) (by kernel_rfl)
def dqcy : FD := { fn := 195, nb := 1, pre := ⟨[.sc (.pt 0 0), .ag [.i .i64 0, .i .i64 1, .i .i64 2, .i .i64 3, .fz 90 false 4, .fz 156 false 5, .fz 158 false 6]], [.bx [.fz 5 false 7, .i .i64 8]]⟩, post := ⟨[.ag [.i .i64 0, .i .i64 1, .i .i64 2, .i .i64 3, .ow 1, .ow 2, .ow 3]], [.bx [.fz 5 false 4, .i .i64 5], .rw 90 true 6, .rw 156 true 7, .rw 158 true 8]⟩, sh := true, cuts := [] }
noncomputable def Lqcy : Option Nat → Lv → Option Lv := Lim Tryz.prog [dqc.sig (Lqc none), dqbv.sig (Lqbv none), dqf.sig (Lqf none), dqo.sig (Lqo none), dq3.sig (Lq3 none)] dqcy Tryz.f195
theorem eqcy_i (a0 a1 a2 a3 : Int) (a4 a5 a6 a7 : Rw) (a8 : Int) : Lqcy none [.i a0, .i a1, .i a2, .i a3, .l a4, .l a5, .l a6, .l a7, .i a8] =
 (Lqo none [.i a0, .i a1, .i a2, .i a3, .l a4, .l a5, .l a6]).bind fun y1 =>
 (Lqc none [.i (((g y1 4).list).length : Int), .l a7, .i a8]).bind fun y2 =>
 (Lqc none [.i 12, .l ((g y2 1).list), .i ((g y2 2).int)]).bind fun y3 =>
 cond ((g y3 0).int == 0) (
 (Lqc none [.i 11, .l ((g y3 1).list), .i ((g y3 2).int)]).bind fun y4 =>
 some [.i (IntKind.i64.wrap ((g y4 0).int - 1)), .i ((g y1 1).int), .i ((g y1 2).int), .i ((g y1 3).int), .l ((g y4 1).list), .i ((g y4 2).int), .l ((g y1 4).list), .l ((g y1 5).list), .l ((g y1 6).list)]) (
 cond ((g y3 0).int == 1) (
 (Lqc none [.i 3, .l ((g y3 1).list), .i ((g y3 2).int)]).bind fun y5 =>
 cond (inb ((g y5 0).int) (([[.i (-1)], [.i 1000000000], [.i 1000000001]] : Rw).length)) (
 some [.i ((g y1 0).int), .i ((rd ([[.i (-1)], [.i 1000000000], [.i 1000000001]] : Rw) (((g y5 0).int).toNat) 0).int), .i ((g y1 2).int), .i ((g y1 3).int), .l ((g y5 1).list), .i ((g y5 2).int), .l ((g y1 4).list), .l ((g y1 5).list), .l ((g y1 6).list)]) (
 none)) (
 cond ((g y3 0).int == 2) (
 (Lqc none [.i 5, .l ((g y3 1).list), .i ((g y3 2).int)]).bind fun y6 =>
 cond (inb ((g y6 0).int) (([[.i (-1)], [.i 0], [.i 1], [.i 1000000000], [.i 1000000001]] : Rw).length)) (
 some [.i ((g y1 0).int), .i ((g y1 1).int), .i ((g y1 2).int), .i ((rd ([[.i (-1)], [.i 0], [.i 1], [.i 1000000000], [.i 1000000001]] : Rw) (((g y6 0).int).toNat) 0).int), .l ((g y6 1).list), .i ((g y6 2).int), .l ((g y1 4).list), .l ((g y1 5).list), .l ((g y1 6).list)]) (
 none)) (
 cond ((g y3 0).int == 3) (
 (Lqc none [.i 4, .l ((g y3 1).list), .i ((g y3 2).int)]).bind fun y7 =>
 cond (inb ((g y7 0).int) (([[.i (-1)], [.i 0], [.i 1000000000], [.i 1000000001]] : Rw).length)) (
 some [.i ((g y1 0).int), .i ((g y1 1).int), .i ((rd ([[.i (-1)], [.i 0], [.i 1000000000], [.i 1000000001]] : Rw) (((g y7 0).int).toNat) 0).int), .i ((g y1 3).int), .l ((g y7 1).list), .i ((g y7 2).int), .l ((g y1 4).list), .l ((g y1 5).list), .l ((g y1 6).list)]) (
 none)) (
 cond ((g y3 0).int == 4) (
 cond (decide (0 < (((g y1 4).list).length : Int))) (
 cond (inb ((g y2 0).int) (((g y1 4).list).length)) (
 (Lqbv none [.s ((rd ((g y1 4).list) (((g y2 0).int).toNat) 2).str), .l ((rd ((g y1 4).list) (((g y2 0).int).toNat) 3).list), .l ((g y3 1).list), .i ((g y3 2).int)]).bind fun y8 =>
 cond (inb ((g y2 0).int) (((g y1 4).list).length)) (
 some [.i ((g y1 0).int), .i ((g y1 1).int), .i ((g y1 2).int), .i ((g y1 3).int), .l ((g y8 1).list), .i ((g y8 2).int), .l (wrs ((g y1 4).list) (((g y2 0).int).toNat) 2 ([.s ((g y8 0).str), .l ((g y8 3).list)] : List C)), .l ((g y1 5).list), .l ((g y1 6).list)]) (
 none)) (
 none)) (
 some [.i ((g y1 0).int), .i ((g y1 1).int), .i ((g y1 2).int), .i ((g y1 3).int), .l ((g y3 1).list), .i ((g y3 2).int), .l ((g y1 4).list), .l ((g y1 5).list), .l ((g y1 6).list)])) (
 cond ((g y3 0).int == 5) (
 cond (decide (1 < (((g y1 4).list).length : Int))) (
 cond (inb 1 (((g y1 4).list).length)) (
 cond (inb 0 (((g y1 4).list).length)) (
 some [.i ((g y1 0).int), .i ((g y1 1).int), .i ((g y1 2).int), .i ((g y1 3).int), .l ((g y3 1).list), .i ((g y3 2).int), .l (wrs ((g y1 4).list) 0 1 ([.i ((rd ((g y1 4).list) 1 1).int)] : List C)), .l ((g y1 5).list), .l ((g y1 6).list)]) (
 none)) (
 none)) (
 some [.i ((g y1 0).int), .i ((g y1 1).int), .i ((g y1 2).int), .i ((g y1 3).int), .l ((g y3 1).list), .i ((g y3 2).int), .l ((g y1 4).list), .l ((g y1 5).list), .l ((g y1 6).list)])) (
 cond ((g y3 0).int == 6) (
 cond (decide (0 < (((g y1 4).list).length : Int))) (
 cond (decide (0 ≤ (g y2 0).int)) (
 cond (decide ((g y2 0).int ≤ (((g y1 4).list).length : Int))) (
 cond (decide (([] : Rw).length + (Eng.sub ((g y1 4).list) 0 ((g y2 0).int).toNat).length ≤ most)) (
 cond (decide (0 ≤ (IntKind.i64.wrap ((g y2 0).int + 1)))) (
 cond (decide ((IntKind.i64.wrap ((g y2 0).int + 1)) ≤ (((g y1 4).list).length : Int))) (
 cond (decide ((([] : Rw) ++ (Eng.sub ((g y1 4).list) 0 ((g y2 0).int).toNat)).length + (Eng.sub ((g y1 4).list) (IntKind.i64.wrap ((g y2 0).int + 1)).toNat ((g y1 4).list).length).length ≤ most)) (
 some [.i ((g y1 0).int), .i ((g y1 1).int), .i ((g y1 2).int), .i ((g y1 3).int), .l ((g y3 1).list), .i ((g y3 2).int), .l ((([] : Rw) ++ (Eng.sub ((g y1 4).list) 0 ((g y2 0).int).toNat)) ++ (Eng.sub ((g y1 4).list) (IntKind.i64.wrap ((g y2 0).int + 1)).toNat ((g y1 4).list).length)), .l ((g y1 5).list), .l ((g y1 6).list)]) (
 none)) (
 none)) (
 none)) (
 none)) (
 none)) (
 none)) (
 some [.i ((g y1 0).int), .i ((g y1 1).int), .i ((g y1 2).int), .i ((g y1 3).int), .l ((g y3 1).list), .i ((g y3 2).int), .l ((g y1 4).list), .l ((g y1 5).list), .l ((g y1 6).list)])) (
 cond ((g y3 0).int == 7) (
 (Lqc none [.i 4, .l ((g y3 1).list), .i ((g y3 2).int)]).bind fun y9 =>
 cond (inb ((g y9 0).int) (([[.s (⟨#[112]⟩ : ByteArray)], [.s (⟨#[122]⟩ : ByteArray)], [.s (⟨#[]⟩ : ByteArray)], [.s (⟨#[120, 32, 121]⟩ : ByteArray)]] : Rw).length)) (
 (Lqf none [.s (⟨#[113]⟩ : ByteArray), .i a0]).bind fun y10 =>
 cond (decide (((g y1 5).list).length + ([[.s ((rd ([[.s (⟨#[112]⟩ : ByteArray)], [.s (⟨#[122]⟩ : ByteArray)], [.s (⟨#[]⟩ : ByteArray)], [.s (⟨#[120, 32, 121]⟩ : ByteArray)]] : Rw) (((g y9 0).int).toNat) 0).str), .s ((g y10 0).str)]] : Rw).length ≤ most)) (
 some [.i ((g y1 0).int), .i ((g y1 1).int), .i ((g y1 2).int), .i ((g y1 3).int), .l ((g y9 1).list), .i ((g y9 2).int), .l ((g y1 4).list), .l ((g y1 5).list ++ ([[.s ((rd ([[.s (⟨#[112]⟩ : ByteArray)], [.s (⟨#[122]⟩ : ByteArray)], [.s (⟨#[]⟩ : ByteArray)], [.s (⟨#[120, 32, 121]⟩ : ByteArray)]] : Rw) (((g y9 0).int).toNat) 0).str), .s ((g y10 0).str)]] : Rw)), .l ((g y1 6).list)]) (
 none)) (
 none)) (
 cond ((g y3 0).int == 8) (
 cond (decide (0 < (((g y1 4).list).length : Int))) (
 (Lqc none [.i 2, .l ((g y3 1).list), .i ((g y3 2).int)]).bind fun y11 =>
 cond (inb ((g y11 0).int) (([[.s (⟨#[97]⟩ : ByteArray)], [.s (⟨#[122]⟩ : ByteArray)]] : Rw).length)) (
 cond (inb ((g y2 0).int) (((g y1 4).list).length)) (
 cond (decide (((g y1 5).list).length + ([[.s ((rd ([[.s (⟨#[97]⟩ : ByteArray)], [.s (⟨#[122]⟩ : ByteArray)]] : Rw) (((g y11 0).int).toNat) 0).str), .s ((rd ((g y1 4).list) (((g y2 0).int).toNat) 0).str)]] : Rw).length ≤ most)) (
 some [.i ((g y1 0).int), .i ((g y1 1).int), .i ((g y1 2).int), .i ((g y1 3).int), .l ((g y11 1).list), .i ((g y11 2).int), .l ((g y1 4).list), .l ((g y1 5).list ++ ([[.s ((rd ([[.s (⟨#[97]⟩ : ByteArray)], [.s (⟨#[122]⟩ : ByteArray)]] : Rw) (((g y11 0).int).toNat) 0).str), .s ((rd ((g y1 4).list) (((g y2 0).int).toNat) 0).str)]] : Rw)), .l ((g y1 6).list)]) (
 none)) (
 none)) (
 none)) (
 some [.i ((g y1 0).int), .i ((g y1 1).int), .i ((g y1 2).int), .i ((g y1 3).int), .l ((g y3 1).list), .i ((g y3 2).int), .l ((g y1 4).list), .l ((g y1 5).list), .l ((g y1 6).list)])) (
 cond ((g y3 0).int == 9) (
 cond (decide (0 < (((g y1 6).list).length : Int))) (
 (Lqc none [.i 4, .l ((g y3 1).list), .i ((g y3 2).int)]).bind fun y12 =>
 cond (inb ((g y12 0).int) (([[.i 0], [.i 1], [.i 100000], [.i 100001]] : Rw).length)) (
 cond (inb 0 (((g y1 6).list).length)) (
 some [.i ((g y1 0).int), .i ((g y1 1).int), .i ((g y1 2).int), .i ((g y1 3).int), .l ((g y12 1).list), .i ((g y12 2).int), .l ((g y1 4).list), .l ((g y1 5).list), .l (wrs ((g y1 6).list) 0 2 ([.i (IntKind.i64.wrap ((g y1 1).int + (rd ([[.i 0], [.i 1], [.i 100000], [.i 100001]] : Rw) (((g y12 0).int).toNat) 0).int))] : List C))]) (
 none)) (
 none)) (
 some [.i ((g y1 0).int), .i ((g y1 1).int), .i ((g y1 2).int), .i ((g y1 3).int), .l ((g y3 1).list), .i ((g y3 2).int), .l ((g y1 4).list), .l ((g y1 5).list), .l ((g y1 6).list)])) (
 cond ((g y3 0).int == 10) (
 cond (decide (0 < (((g y1 6).list).length : Int))) (
 (Lqc none [.i 3, .l ((g y3 1).list), .i ((g y3 2).int)]).bind fun y13 =>
 cond (inb ((g y13 0).int) (([[.i 0], [.i ((g y1 2).int)], [.i (IntKind.i64.wrap ((g y1 2).int + 1))]] : Rw).length)) (
 cond (inb 0 (((g y1 6).list).length)) (
 some [.i ((g y1 0).int), .i ((g y1 1).int), .i ((g y1 2).int), .i ((g y1 3).int), .l ((g y13 1).list), .i ((g y13 2).int), .l ((g y1 4).list), .l ((g y1 5).list), .l (wrs ((g y1 6).list) 0 0 ([.i ((rd ([[.i 0], [.i ((g y1 2).int)], [.i (IntKind.i64.wrap ((g y1 2).int + 1))]] : Rw) (((g y13 0).int).toNat) 0).int)] : List C))]) (
 none)) (
 none)) (
 some [.i ((g y1 0).int), .i ((g y1 1).int), .i ((g y1 2).int), .i ((g y1 3).int), .l ((g y3 1).list), .i ((g y3 2).int), .l ((g y1 4).list), .l ((g y1 5).list), .l ((g y1 6).list)])) (
 (Lqc none [.i 2, .l ((g y3 1).list), .i ((g y3 2).int)]).bind fun y14 =>
 (Lqc none [.i 2, .l ((g y14 1).list), .i ((g y14 2).int)]).bind fun y15 =>
 (Lq3 none [.i (IntKind.i64.wrap (600 + (g y14 0).int)), .b ((g y15 0).int == 0)]).bind fun y16 =>
 some [.i ((g y16 0).int), .i ((g y16 1).int), .i ((g y16 2).int), .i ((g y16 3).int), .l ((g y15 1).list), .i ((g y15 2).int), .l ((g y16 4).list), .l ((g y16 5).list), .l ((g y16 6).list)]))))))))))) := (zd _ _).trans (by kernel_rfl)
theorem kqcy : SigOk Tryz.prog (dqcy.sig (Lqcy none)) ∧ (dqcy.sig (Lqcy none)).ok = true := zf (zb kqc (by kernel_rfl) (zb kqbv (by kernel_rfl) (zb kqf (by kernel_rfl) (zb kqo (by kernel_rfl) (zb kq3 (by kernel_rfl) ze))))) (by kernel_rfl) (by kernel_rfl) (by kernel_rfl)
def dqba : FD := { fn := 125, nb := 1, pre := ⟨[.sc (.pt 0 0)], [.bx [.fz 5 false 0, .i .i64 1]]⟩, post := ⟨[.ag [.i .i64 0, .i .i64 1, .i .i64 2, .i .i64 3, .fz 90 true 4, .fz 156 true 5, .fz 158 true 6]], [.bx [.fz 5 false 7, .i .i64 8]]⟩, sh := true, cuts := [⟨9, [2, 3, 4, 5], ⟨[.sc (.pt 1 0), .sc (.pt 2 0), .sc (.i .i64 0), .sc (.i .i64 1)], [.bx [.fz 5 false 2, .i .i64 3], .bx [.i .i64 4, .i .i64 5, .i .i64 6, .i .i64 7, .ow 3, .ow 4, .ow 5], .bx [.i .i64 8, .i .i64 9, .i .i64 10, .i .i64 11, .fz 90 true 12, .ow 6, .ow 7], .rw 90 true 13, .rw 156 true 14, .rw 158 true 15, .rw 156 true 16, .rw 158 true 17]⟩⟩, ⟨13, [2, 3], ⟨[.sc (.pt 1 0), .sc (.pt 2 0)], [.bx [.fz 5 false 0, .i .i64 1], .bx [.i .i64 2, .i .i64 3, .i .i64 4, .i .i64 5, .ow 3, .ow 4, .ow 5], .bx [.i .i64 6, .i .i64 7, .i .i64 8, .i .i64 9, .fz 90 true 10, .ow 6, .ow 7], .rw 90 true 11, .rw 156 true 12, .rw 158 true 13, .rw 156 true 14, .rw 158 true 15]⟩⟩] }
noncomputable def Lqba : Option Nat → Lv → Option Lv := Lim Tryz.prog [dqc.sig (Lqc none), dqbg.sig (Lqbg none), dq3.sig (Lq3 none), dqcy.sig (Lqcy none)] dqba Tryz.f125
theorem eqba_i (a0 : Rw) (a1 : Int) : Lqba none [.l a0, .i a1] =
 (Lqbg none [.l a0, .i a1]).bind fun y1 =>
 (Lqc none [.i 20, .l ((g y1 14).list), .i ((g y1 15).int)]).bind fun y2 =>
 cond (decide ((g y2 0).int < 3)) (
 (Lqcy none [.i ((g y1 3).int), .i ((g y1 4).int), .i ((g y1 5).int), .i ((g y1 6).int), .l ((g y1 7).list), .l ((g y1 17).list), .l ((g y1 18).list), .l ((g y2 1).list), .i ((g y2 2).int)]).bind fun y3 =>
 some [.i ((g y3 0).int), .i ((g y3 1).int), .i ((g y3 2).int), .i ((g y3 3).int), .l ((g y3 6).list), .l ((g y3 7).list), .l ((g y3 8).list), .l ((g y3 4).list), .i ((g y3 5).int)]) (
 cond ((g y2 0).int == 3) (
 (Lqc none [.i 30, .l ((g y2 1).list), .i ((g y2 2).int)]).bind fun y4 =>
 (Lqc none [.i 2, .l ((g y4 1).list), .i ((g y4 2).int)]).bind fun y5 =>
 (Lq3 none [.i (IntKind.i64.wrap (20 + (g y4 0).int)), .b ((g y5 0).int == 0)]).bind fun y6 =>
 some [.i ((g y6 0).int), .i ((g y6 1).int), .i ((g y6 2).int), .i ((g y6 3).int), .l ((g y6 4).list), .l ((g y6 5).list), .l ((g y6 6).list), .l ((g y5 1).list), .i ((g y5 2).int)]) (
 cond ((g y2 0).int == 4) (
 cond (decide (0 < (((g y1 7).list).length : Int))) (
 Lqba (some 9) [.i ((g y2 0).int), .i 0, .l ((g y2 1).list), .i ((g y2 2).int), .i 0, .i 0, .i 0, .i 0, .i ((g y1 3).int), .i ((g y1 4).int), .i ((g y1 5).int), .i ((g y1 6).int), .l ((g y1 7).list), .l [], .l [], .l [], .l ((g y1 17).list), .l ((g y1 18).list)]) (
 cond ((g y2 0).int == 5) (
 cond (decide (0 < (((g y1 7).list).length : Int))) (
 Lqba (some 13) [.l ((g y2 1).list), .i ((g y2 2).int), .i 0, .i 0, .i 0, .i 0, .i ((g y1 3).int), .i ((g y1 4).int), .i ((g y1 5).int), .i ((g y1 6).int), .l ((g y1 7).list), .l [], .l [], .l [], .l ((g y1 17).list), .l ((g y1 18).list)]) (
 some [.i ((g y1 3).int), .i ((g y1 4).int), .i ((g y1 5).int), .i ((g y1 6).int), .l ((g y1 7).list), .l ((g y1 17).list), .l ((g y1 18).list), .l ((g y2 1).list), .i ((g y2 2).int)])) (
 some [.i ((g y1 3).int), .i ((g y1 4).int), .i ((g y1 5).int), .i ((g y1 6).int), .l ((g y1 7).list), .l ((g y1 17).list), .l ((g y1 18).list), .l ((g y2 1).list), .i ((g y2 2).int)]))) (
 cond ((g y2 0).int == 5) (
 cond (decide (0 < (((g y1 7).list).length : Int))) (
 Lqba (some 13) [.l ((g y2 1).list), .i ((g y2 2).int), .i 0, .i 0, .i 0, .i 0, .i ((g y1 3).int), .i ((g y1 4).int), .i ((g y1 5).int), .i ((g y1 6).int), .l ((g y1 7).list), .l [], .l [], .l [], .l ((g y1 17).list), .l ((g y1 18).list)]) (
 some [.i ((g y1 3).int), .i ((g y1 4).int), .i ((g y1 5).int), .i ((g y1 6).int), .l ((g y1 7).list), .l ((g y1 17).list), .l ((g y1 18).list), .l ((g y2 1).list), .i ((g y2 2).int)])) (
 some [.i ((g y1 3).int), .i ((g y1 4).int), .i ((g y1 5).int), .i ((g y1 6).int), .l ((g y1 7).list), .l ((g y1 17).list), .l ((g y1 18).list), .l ((g y2 1).list), .i ((g y2 2).int)])))) := (zd _ _).trans (by kernel_rfl)
theorem eqba_9 (a0 a1 : Int) (a2 : Rw) (a3 a4 a5 a6 a7 a8 a9 a10 a11 : Int) (a12 a13 a14 a15 a16 a17 : Rw) : Lqba (some 9) [.i a0, .i a1, .l a2, .i a3, .i a4, .i a5, .i a6, .i a7, .i a8, .i a9, .i a10, .i a11, .l a12, .l a13, .l a14, .l a15, .l a16, .l a17] =
 cond (decide ((a16.length : Int) < 100)) (
 cond (decide ((⟨#[122]⟩ : ByteArray).size + (bytesOf ([[.i (IntKind.u8.wrap (IntKind.i64.wrap (48 + (IntKind.i64.wrap (a1.tdiv 10)))))], [.i (IntKind.u8.wrap (IntKind.i64.wrap (48 + (a1.tmod 10))))]] : Rw)).size ≤ most)) (
 cond (inb 0 a12.length) (
 cond (decide (a16.length + ([[.s ((⟨#[122]⟩ : ByteArray) ++ (bytesOf ([[.i (IntKind.u8.wrap (IntKind.i64.wrap (48 + (IntKind.i64.wrap (a1.tdiv 10)))))], [.i (IntKind.u8.wrap (IntKind.i64.wrap (48 + (a1.tmod 10))))]] : Rw))), .s ((rd a12 0 0).str)]] : Rw).length ≤ most)) (
 Lqba (some 9) [.i a0, .i (IntKind.i64.wrap (a1 + 1)), .l a2, .i a3, .i a4, .i a5, .i a6, .i a7, .i a8, .i a9, .i a10, .i a11, .l a12, .l a13, .l a14, .l a15, .l (a16 ++ ([[.s ((⟨#[122]⟩ : ByteArray) ++ (bytesOf ([[.i (IntKind.u8.wrap (IntKind.i64.wrap (48 + (IntKind.i64.wrap (a1.tdiv 10)))))], [.i (IntKind.u8.wrap (IntKind.i64.wrap (48 + (a1.tmod 10))))]] : Rw))), .s ((rd a12 0 0).str)]] : Rw)), .l a17]) (
 none)) (
 none)) (
 none)) (
 cond (a0 == 5) (
 cond (decide (0 < (a12.length : Int))) (
 Lqba (some 13) [.l a2, .i a3, .i a4, .i a5, .i a6, .i a7, .i a8, .i a9, .i a10, .i a11, .l a12, .l a13, .l a14, .l a15, .l a16, .l a17]) (
 some [.i a8, .i a9, .i a10, .i a11, .l a12, .l a16, .l a17, .l a2, .i a3])) (
 some [.i a8, .i a9, .i a10, .i a11, .l a12, .l a16, .l a17, .l a2, .i a3])) := (zd _ _).trans (by kernel_rfl)
theorem eqba_13 (a0 : Rw) (a1 a2 a3 a4 a5 a6 a7 a8 a9 : Int) (a10 a11 a12 a13 a14 a15 : Rw) : Lqba (some 13) [.l a0, .i a1, .i a2, .i a3, .i a4, .i a5, .i a6, .i a7, .i a8, .i a9, .l a10, .l a11, .l a12, .l a13, .l a14, .l a15] =
 cond (decide ((a15.length : Int) < 200)) (
 cond (inb 0 a10.length) (
 cond (decide (a15.length + ([[.i (IntKind.i64.wrap (a8 + 1)), .s ((rd a10 0 0).str), .i (IntKind.i64.wrap (a7 + 5))]] : Rw).length ≤ most)) (
 Lqba (some 13) [.l a0, .i a1, .i a2, .i a3, .i a4, .i a5, .i a6, .i a7, .i (IntKind.i64.wrap (a8 + 1)), .i a9, .l a10, .l a11, .l a12, .l a13, .l a14, .l (a15 ++ ([[.i (IntKind.i64.wrap (a8 + 1)), .s ((rd a10 0 0).str), .i (IntKind.i64.wrap (a7 + 5))]] : Rw))]) (
 none)) (
 none)) (
 some [.i a6, .i a7, .i a8, .i a9, .l a10, .l a14, .l a15, .l a0, .i a1]) := (zd _ _).trans (by kernel_rfl)
theorem kqba : SigOk Tryz.prog (dqba.sig (Lqba none)) ∧ (dqba.sig (Lqba none)).ok = true := zf (zb kqc (by kernel_rfl) (zb kqbg (by kernel_rfl) (zb kq3 (by kernel_rfl) (zb kqcy (by kernel_rfl) ze)))) (by kernel_rfl) (by kernel_rfl) (by kernel_rfl)
def dqc8 : FD := { fn := 151, nb := 1, pre := ⟨[.sc (.pt 0 0), .ag [.i .i64 0, .s 1, .s 2, .i .i64 3, .s 4, .fz 9 false 5]], [.bx [.fz 5 false 6, .i .i64 7]]⟩, post := ⟨[.ag [.i .i64 0, .s 1, .s 2, .i .i64 3, .s 4, .fz 9 false 5]], [.bx [.fz 5 false 6, .i .i64 7]]⟩, sh := true, cuts := [] }
noncomputable def Lqc8 : Option Nat → Lv → Option Lv := Lim Tryz.prog [dqc.sig (Lqc none), dqbq.sig (Lqbq none), dqbv.sig (Lqbv none)] dqc8 Tryz.f151
theorem eqc8_i (a0 : Int) (a1 a2 : ByteArray) (a3 : Int) (a4 : ByteArray) (a5 a6 : Rw) (a7 : Int) : Lqc8 none [.i a0, .s a1, .s a2, .i a3, .s a4, .l a5, .l a6, .i a7] =
 (Lqc none [.i 6, .l a6, .i a7]).bind fun y1 =>
 cond ((g y1 0).int == 0) (
 (Lqc none [.i 10, .l ((g y1 1).list), .i ((g y1 2).int)]).bind fun y2 =>
 some [.i (IntKind.i64.wrap ((g y2 0).int - 1)), .s a1, .s a2, .i a3, .s a4, .l a5, .l ((g y2 1).list), .i ((g y2 2).int)]) (
 cond ((g y1 0).int == 1) (
 (Lqc none [.i 6, .l ((g y1 1).list), .i ((g y1 2).int)]).bind fun y3 =>
 cond (inb ((g y3 0).int) (([[.i 0], [.i (-1)], [.i 100001], [.i 1000000000], [.i 1000000001], [.i 4294967297]] : Rw).length)) (
 some [.i a0, .s a1, .s a2, .i ((rd ([[.i 0], [.i (-1)], [.i 100001], [.i 1000000000], [.i 1000000001], [.i 4294967297]] : Rw) (((g y3 0).int).toNat) 0).int), .s a4, .l a5, .l ((g y3 1).list), .i ((g y3 2).int)]) (
 none)) (
 cond ((g y1 0).int == 2) (
 (Lqbq none [.s (⟨#[110]⟩ : ByteArray), .i 41]).bind fun y4 =>
 (Lqc none [.i 3, .l ((g y1 1).list), .i ((g y1 2).int)]).bind fun y5 =>
 cond (inb ((g y5 0).int) (([[.s (⟨#[]⟩ : ByteArray)], [.s (⟨#[97, 32, 98]⟩ : ByteArray)], [.s ((g y4 0).str)]] : Rw).length)) (
 some [.i a0, .s a1, .s ((rd ([[.s (⟨#[]⟩ : ByteArray)], [.s (⟨#[97, 32, 98]⟩ : ByteArray)], [.s ((g y4 0).str)]] : Rw) (((g y5 0).int).toNat) 0).str), .i a3, .s a4, .l a5, .l ((g y5 1).list), .i ((g y5 2).int)]) (
 none)) (
 cond ((g y1 0).int == 3) (
 cond (decide (a1.size + (⟨#[120]⟩ : ByteArray).size ≤ most)) (
 some [.i a0, .s (a1 ++ (⟨#[120]⟩ : ByteArray)), .s a2, .i a3, .s a4, .l a5, .l ((g y1 1).list), .i ((g y1 2).int)]) (
 none)) (
 cond ((g y1 0).int == 4) (
 (Lqbv none [.s a4, .l a5, .l ((g y1 1).list), .i ((g y1 2).int)]).bind fun y6 =>
 some [.i a0, .s a1, .s a2, .i a3, .s ((g y6 0).str), .l ((g y6 3).list), .l ((g y6 1).list), .i ((g y6 2).int)]) (
 some [.i a0, .s a1, .s a2, .i a3, .s (⟨#[116]⟩ : ByteArray), .l a5, .l ((g y1 1).list), .i ((g y1 2).int)]))))) := (zd _ _).trans (by kernel_rfl)
theorem kqc8 : SigOk Tryz.prog (dqc8.sig (Lqc8 none)) ∧ (dqc8.sig (Lqc8 none)).ok = true := zf (zb kqc (by kernel_rfl) (zb kqbq (by kernel_rfl) (zb kqbv (by kernel_rfl) ze))) (by kernel_rfl) (by kernel_rfl) (by kernel_rfl)
end KV
end
section
set_option maxRecDepth 100000
namespace KV
open Go Go.Eng Go.Proofs
def dqt : FD := { fn := 69, nb := 0, pre := ⟨[.sc (.fz 5 false 0)], []⟩, post := ⟨[.tu [(true, [.i .i64 0, .i .i64 1, .i .i64 2, .i .i64 3, .fz 90 true 4, .fz 156 true 5, .fz 158 true 6]), (true, [.i .i64 7, .s 8, .s 9, .i .i64 10, .s 11, .fz 9 false 12])]], []⟩, sh := true, cuts := [⟨12, [2, 3, 4, 5, 6, 7, 10, 11], ⟨[.sc (.pt 0 0), .sc (.pt 1 0), .sc (.pt 2 0), .sc (.pt 3 0), .sc (.pt 4 0), .sc (.pt 5 0), .sc (.i .i64 0), .sc (.b 1)], [.bx [.i .i64 2, .i .i64 3, .i .i64 4, .i .i64 5, .ow 6, .ow 7, .ow 8], .bx [.i .i64 6, .s 7, .s 8, .i .i64 9, .s 10, .ow 9], .bx [.fz 5 false 11, .i .i64 12], .bx [.i .i64 13, .i .i64 14, .i .i64 15, .i .i64 16, .fz 90 true 17, .fz 156 true 18, .fz 158 true 19], .bx [.i .i64 20, .s 21, .i .i64 22, .s 23, .i .i64 24, .i .i64 25], .bx [.i .i64 26, .s 27, .s 28, .i .i64 29, .s 30, .ow 10], .rw 90 true 31, .rw 156 true 32, .rw 158 true 33, .rw 9 true 34, .rw 9 true 35]⟩⟩, ⟨14, [2, 3, 4, 5, 6, 7, 11], ⟨[.sc (.pt 0 0), .sc (.pt 1 0), .sc (.pt 2 0), .sc (.pt 3 0), .sc (.pt 4 0), .sc (.pt 5 0), .sc (.b 0)], [.bx [.i .i64 1, .i .i64 2, .i .i64 3, .i .i64 4, .ow 6, .ow 7, .ow 8], .bx [.i .i64 5, .s 6, .s 7, .i .i64 8, .s 9, .ow 9], .bx [.fz 5 false 10, .i .i64 11], .bx [.i .i64 12, .i .i64 13, .i .i64 14, .i .i64 15, .fz 90 true 16, .fz 156 true 17, .fz 158 true 18], .bx [.i .i64 19, .s 20, .i .i64 21, .s 22, .i .i64 23, .i .i64 24], .bx [.i .i64 25, .s 26, .s 27, .i .i64 28, .s 29, .ow 10], .rw 90 true 30, .rw 156 true 31, .rw 158 true 32, .rw 9 true 33, .rw 9 true 34]⟩⟩, ⟨18, [2, 3, 4, 5, 7], ⟨[.sc (.pt 0 0), .sc (.pt 1 0), .sc (.pt 2 0), .sc (.pt 3 0), .sc (.pt 4 0)], [.bx [.i .i64 0, .i .i64 1, .i .i64 2, .i .i64 3, .ow 5, .ow 6, .ow 7], .bx [.i .i64 4, .s 5, .s 6, .i .i64 7, .s 8, .ow 8], .bx [.fz 5 false 9, .i .i64 10], .bx [.i .i64 11, .i .i64 12, .i .i64 13, .i .i64 14, .fz 90 true 15, .fz 156 true 16, .fz 158 true 17], .bx [.i .i64 18, .s 19, .s 20, .i .i64 21, .s 22, .ow 9], .rw 90 true 23, .rw 156 true 24, .rw 158 true 25, .rw 9 true 26, .rw 9 true 27]⟩⟩] }
noncomputable def Lqt : Option Nat → Lv → Option Lv := Lim Tryz.prog [dqi.sig (Lqi none), dqc4.sig (Lqc4 none), dqc.sig (Lqc none), dqf.sig (Lqf none), dqch.sig (Lqch none), dqbd.sig (Lqbd none), dqb2.sig (Lqb2 none), dqcf.sig (Lqcf none), dqci.sig (Lqci none), dqba.sig (Lqba none), dqc8.sig (Lqc8 none)] dqt Tryz.f69
theorem eqt_i (a0 : Rw) : Lqt none [.l a0] =
 (Lqc4 none [.l a0]).bind fun y1 =>
 (Lqba none [.l ((g y1 0).list), .i ((g y1 1).int)]).bind fun y2 =>
 (Lqch none [.l ((g y2 7).list), .i ((g y2 8).int)]).bind fun y3 =>
 (Lqc none [.i 7, .l ((g y3 6).list), .i ((g y3 7).int)]).bind fun y4 =>
 (Lqci none [.i (IntKind.i64.wrap (1 + (g y4 0).int))]).bind fun y5 =>
 cond ((g y5 0).bool) (
 (Lqb2 none [.i ((g y3 0).int), .s ((g y3 1).str), .i ((g y3 2).int), .s ((g y3 3).str), .i ((g y3 4).int), .i ((g y3 5).int), .i ((g y2 0).int), .i ((g y2 1).int), .i ((g y2 2).int), .i ((g y2 3).int), .l ((g y2 4).list), .l ((g y2 5).list), .l ((g y2 6).list)]).bind fun y6 =>
 cond ((g y5 1).bool) (
 cond ((g y5 2).int == 1) (
 Lqt (some 12) [.i ((g y5 2).int), .b ((g y5 3).bool), .i 0, .i 0, .i 0, .i 0, .i 0, .s (⟨#[]⟩ : ByteArray), .s (⟨#[]⟩ : ByteArray), .i 0, .s (⟨#[]⟩ : ByteArray), .l ((g y4 1).list), .i ((g y4 2).int), .i ((g y2 0).int), .i ((g y2 1).int), .i ((g y2 2).int), .i ((g y2 3).int), .l ((g y2 4).list), .l ((g y2 5).list), .l ((g y2 6).list), .i ((g y3 0).int), .s ((g y3 1).str), .i ((g y3 2).int), .s ((g y3 3).str), .i ((g y3 4).int), .i ((g y3 5).int), .i (IntKind.i64.wrap (1 + (g y4 0).int)), .s ((g y6 0).str), .s ((g y3 3).str), .i ((g y3 5).int), .s (⟨#[]⟩ : ByteArray), .l [], .l [], .l [], .l [], .l []]) (
 Lqt (some 12) [.i ((g y5 2).int), .b ((g y5 3).bool), .i 0, .i 0, .i 0, .i 0, .i 0, .s (⟨#[]⟩ : ByteArray), .s (⟨#[]⟩ : ByteArray), .i 0, .s (⟨#[]⟩ : ByteArray), .l ((g y4 1).list), .i ((g y4 2).int), .i ((g y2 0).int), .i ((g y2 1).int), .i ((g y2 2).int), .i ((g y2 3).int), .l ((g y2 4).list), .l ((g y2 5).list), .l ((g y2 6).list), .i ((g y3 0).int), .s ((g y3 1).str), .i ((g y3 2).int), .s ((g y3 3).str), .i ((g y3 4).int), .i ((g y3 5).int), .i (IntKind.i64.wrap (1 + (g y4 0).int)), .s ((g y6 0).str), .s ((g y3 3).str), .i 0, .s (⟨#[]⟩ : ByteArray), .l [], .l [], .l [], .l [], .l []])) (
 cond ((g y5 2).int == 1) (
 Lqt (some 12) [.i ((g y5 2).int), .b ((g y5 3).bool), .i 0, .i 0, .i 0, .i 0, .i 0, .s (⟨#[]⟩ : ByteArray), .s (⟨#[]⟩ : ByteArray), .i 0, .s (⟨#[]⟩ : ByteArray), .l ((g y4 1).list), .i ((g y4 2).int), .i ((g y2 0).int), .i ((g y2 1).int), .i ((g y2 2).int), .i ((g y2 3).int), .l ((g y2 4).list), .l ((g y2 5).list), .l ((g y2 6).list), .i ((g y3 0).int), .s ((g y3 1).str), .i ((g y3 2).int), .s ((g y3 3).str), .i ((g y3 4).int), .i ((g y3 5).int), .i (IntKind.i64.wrap (1 + (g y4 0).int)), .s ((g y6 0).str), .s (⟨#[]⟩ : ByteArray), .i ((g y3 5).int), .s (⟨#[]⟩ : ByteArray), .l [], .l [], .l [], .l [], .l []]) (
 Lqt (some 12) [.i ((g y5 2).int), .b ((g y5 3).bool), .i 0, .i 0, .i 0, .i 0, .i 0, .s (⟨#[]⟩ : ByteArray), .s (⟨#[]⟩ : ByteArray), .i 0, .s (⟨#[]⟩ : ByteArray), .l ((g y4 1).list), .i ((g y4 2).int), .i ((g y2 0).int), .i ((g y2 1).int), .i ((g y2 2).int), .i ((g y2 3).int), .l ((g y2 4).list), .l ((g y2 5).list), .l ((g y2 6).list), .i ((g y3 0).int), .s ((g y3 1).str), .i ((g y3 2).int), .s ((g y3 3).str), .i ((g y3 4).int), .i ((g y3 5).int), .i (IntKind.i64.wrap (1 + (g y4 0).int)), .s ((g y6 0).str), .s (⟨#[]⟩ : ByteArray), .i 0, .s (⟨#[]⟩ : ByteArray), .l [], .l [], .l [], .l [], .l []]))) (
 cond ((g y5 1).bool) (
 cond ((g y5 2).int == 1) (
 Lqt (some 12) [.i ((g y5 2).int), .b ((g y5 3).bool), .i 0, .i 0, .i 0, .i 0, .i 0, .s (⟨#[]⟩ : ByteArray), .s (⟨#[]⟩ : ByteArray), .i 0, .s (⟨#[]⟩ : ByteArray), .l ((g y4 1).list), .i ((g y4 2).int), .i ((g y2 0).int), .i ((g y2 1).int), .i ((g y2 2).int), .i ((g y2 3).int), .l ((g y2 4).list), .l ((g y2 5).list), .l ((g y2 6).list), .i ((g y3 0).int), .s ((g y3 1).str), .i ((g y3 2).int), .s ((g y3 3).str), .i ((g y3 4).int), .i ((g y3 5).int), .i (IntKind.i64.wrap (1 + (g y4 0).int)), .s (⟨#[]⟩ : ByteArray), .s ((g y3 3).str), .i ((g y3 5).int), .s (⟨#[]⟩ : ByteArray), .l [], .l [], .l [], .l [], .l []]) (
 Lqt (some 12) [.i ((g y5 2).int), .b ((g y5 3).bool), .i 0, .i 0, .i 0, .i 0, .i 0, .s (⟨#[]⟩ : ByteArray), .s (⟨#[]⟩ : ByteArray), .i 0, .s (⟨#[]⟩ : ByteArray), .l ((g y4 1).list), .i ((g y4 2).int), .i ((g y2 0).int), .i ((g y2 1).int), .i ((g y2 2).int), .i ((g y2 3).int), .l ((g y2 4).list), .l ((g y2 5).list), .l ((g y2 6).list), .i ((g y3 0).int), .s ((g y3 1).str), .i ((g y3 2).int), .s ((g y3 3).str), .i ((g y3 4).int), .i ((g y3 5).int), .i (IntKind.i64.wrap (1 + (g y4 0).int)), .s (⟨#[]⟩ : ByteArray), .s ((g y3 3).str), .i 0, .s (⟨#[]⟩ : ByteArray), .l [], .l [], .l [], .l [], .l []])) (
 cond ((g y5 2).int == 1) (
 Lqt (some 12) [.i ((g y5 2).int), .b ((g y5 3).bool), .i 0, .i 0, .i 0, .i 0, .i 0, .s (⟨#[]⟩ : ByteArray), .s (⟨#[]⟩ : ByteArray), .i 0, .s (⟨#[]⟩ : ByteArray), .l ((g y4 1).list), .i ((g y4 2).int), .i ((g y2 0).int), .i ((g y2 1).int), .i ((g y2 2).int), .i ((g y2 3).int), .l ((g y2 4).list), .l ((g y2 5).list), .l ((g y2 6).list), .i ((g y3 0).int), .s ((g y3 1).str), .i ((g y3 2).int), .s ((g y3 3).str), .i ((g y3 4).int), .i ((g y3 5).int), .i (IntKind.i64.wrap (1 + (g y4 0).int)), .s (⟨#[]⟩ : ByteArray), .s (⟨#[]⟩ : ByteArray), .i ((g y3 5).int), .s (⟨#[]⟩ : ByteArray), .l [], .l [], .l [], .l [], .l []]) (
 Lqt (some 12) [.i ((g y5 2).int), .b ((g y5 3).bool), .i 0, .i 0, .i 0, .i 0, .i 0, .s (⟨#[]⟩ : ByteArray), .s (⟨#[]⟩ : ByteArray), .i 0, .s (⟨#[]⟩ : ByteArray), .l ((g y4 1).list), .i ((g y4 2).int), .i ((g y2 0).int), .i ((g y2 1).int), .i ((g y2 2).int), .i ((g y2 3).int), .l ((g y2 4).list), .l ((g y2 5).list), .l ((g y2 6).list), .i ((g y3 0).int), .s ((g y3 1).str), .i ((g y3 2).int), .s ((g y3 3).str), .i ((g y3 4).int), .i ((g y3 5).int), .i (IntKind.i64.wrap (1 + (g y4 0).int)), .s (⟨#[]⟩ : ByteArray), .s (⟨#[]⟩ : ByteArray), .i 0, .s (⟨#[]⟩ : ByteArray), .l [], .l [], .l [], .l [], .l []]))) := (zd _ _).trans (by kernel_rfl)
theorem eqt_12 (a0 : Int) (a1 : Bool) (a2 a3 a4 a5 a6 : Int) (a7 a8 : ByteArray) (a9 : Int) (a10 : ByteArray) (a11 : Rw) (a12 a13 a14 a15 a16 : Int) (a17 a18 a19 : Rw) (a20 : Int) (a21 : ByteArray) (a22 : Int) (a23 : ByteArray) (a24 a25 a26 : Int) (a27 a28 : ByteArray) (a29 : Int) (a30 : ByteArray) (a31 a32 a33 a34 a35 : Rw) : Lqt (some 12) [.i a0, .b a1, .i a2, .i a3, .i a4, .i a5, .i a6, .s a7, .s a8, .i a9, .s a10, .l a11, .i a12, .i a13, .i a14, .i a15, .i a16, .l a17, .l a18, .l a19, .i a20, .s a21, .i a22, .s a23, .i a24, .i a25, .i a26, .s a27, .s a28, .i a29, .s a30, .l a31, .l a32, .l a33, .l a34, .l a35] =
 cond (a0 == 2) (
 (Lqcf none [.i a20, .s a21, .i a22, .s a23, .i a24, .i a25, .i a13, .i a14, .i a15, .i a16, .l a17, .l a18, .l a19]).bind fun y1 =>
 Lqt (some 14) [.b a1, .i a2, .i a3, .i a4, .i a5, .i a6, .s a7, .s a8, .i a9, .s a10, .l a11, .i a12, .i a13, .i a14, .i a15, .i a16, .l a17, .l a18, .l a19, .i a20, .s a21, .i a22, .s a23, .i a24, .i a25, .i a26, .s a27, .s a28, .i ((g y1 0).int), .s a30, .l a31, .l a32, .l a33, .l a34, .l a35]) (
 Lqt (some 14) [.b a1, .i a2, .i a3, .i a4, .i a5, .i a6, .s a7, .s a8, .i a9, .s a10, .l a11, .i a12, .i a13, .i a14, .i a15, .i a16, .l a17, .l a18, .l a19, .i a20, .s a21, .i a22, .s a23, .i a24, .i a25, .i a26, .s a27, .s a28, .i a29, .s a30, .l a31, .l a32, .l a33, .l a34, .l a35]) := (zd _ _).trans (by kernel_rfl)
theorem eqt_14 (a0 : Bool) (a1 a2 a3 a4 a5 : Int) (a6 a7 : ByteArray) (a8 : Int) (a9 : ByteArray) (a10 : Rw) (a11 a12 a13 a14 a15 : Int) (a16 a17 a18 : Rw) (a19 : Int) (a20 : ByteArray) (a21 : Int) (a22 : ByteArray) (a23 a24 a25 : Int) (a26 a27 : ByteArray) (a28 : Int) (a29 : ByteArray) (a30 a31 a32 a33 a34 : Rw) : Lqt (some 14) [.b a0, .i a1, .i a2, .i a3, .i a4, .i a5, .s a6, .s a7, .i a8, .s a9, .l a10, .i a11, .i a12, .i a13, .i a14, .i a15, .l a16, .l a17, .l a18, .i a19, .s a20, .i a21, .s a22, .i a23, .i a24, .i a25, .s a26, .s a27, .i a28, .s a29, .l a30, .l a31, .l a32, .l a33, .l a34] =
 cond a0 (
 (Lqbd none [.i a19, .s a20, .i a21, .s a22, .i a23, .i a24, .i a12, .i a13, .i a14, .i a15, .l a16, .l a17, .l a18]).bind fun y1 =>
 (Lqc none [.i 5, .l a10, .i a11]).bind fun y2 =>
 cond ((g y2 0).int == 0) (
 (Lqi none [.i a12]).bind fun y3 =>
 cond ((g y3 0).bool) (
 cond (decide ((⟨#[110, 111, 110, 101]⟩ : ByteArray).size + a20.size ≤ most)) (
 (Lqf none [.s ((⟨#[110, 111, 110, 101]⟩ : ByteArray) ++ a20), .i a12]).bind fun y4 =>
 Lqt (some 18) [.i a1, .i a2, .i a3, .i a4, .i a5, .s a6, .s a7, .i a8, .s a9, .l ((g y2 1).list), .i ((g y2 2).int), .i a12, .i a13, .i a14, .i a15, .l a16, .l a17, .l a18, .i a25, .s a26, .s a27, .i a28, .s ((g y1 0).str), .l a30, .l a31, .l a32, .l a33, .l ([[.s ((g y4 0).str)]] : Rw)]) (
 none)) (
 Lqt (some 18) [.i a1, .i a2, .i a3, .i a4, .i a5, .s a6, .s a7, .i a8, .s a9, .l ((g y2 1).list), .i ((g y2 2).int), .i a12, .i a13, .i a14, .i a15, .l a16, .l a17, .l a18, .i a25, .s a26, .s a27, .i a28, .s ((g y1 0).str), .l a30, .l a31, .l a32, .l a33, .l ((g y1 1).list)])) (
 Lqt (some 18) [.i a1, .i a2, .i a3, .i a4, .i a5, .s a6, .s a7, .i a8, .s a9, .l ((g y2 1).list), .i ((g y2 2).int), .i a12, .i a13, .i a14, .i a15, .l a16, .l a17, .l a18, .i a25, .s a26, .s a27, .i a28, .s ((g y1 0).str), .l a30, .l a31, .l a32, .l a33, .l ((g y1 1).list)])) (
 Lqt (some 18) [.i a1, .i a2, .i a3, .i a4, .i a5, .s a6, .s a7, .i a8, .s a9, .l a10, .i a11, .i a12, .i a13, .i a14, .i a15, .l a16, .l a17, .l a18, .i a25, .s a26, .s a27, .i a28, .s a29, .l a30, .l a31, .l a32, .l a33, .l a34]) := (zd _ _).trans (by kernel_rfl)
theorem eqt_18 (a0 a1 a2 a3 a4 : Int) (a5 a6 : ByteArray) (a7 : Int) (a8 : ByteArray) (a9 : Rw) (a10 a11 a12 a13 a14 : Int) (a15 a16 a17 : Rw) (a18 : Int) (a19 a20 : ByteArray) (a21 : Int) (a22 : ByteArray) (a23 a24 a25 a26 a27 : Rw) : Lqt (some 18) [.i a0, .i a1, .i a2, .i a3, .i a4, .s a5, .s a6, .i a7, .s a8, .l a9, .i a10, .i a11, .i a12, .i a13, .i a14, .l a15, .l a16, .l a17, .i a18, .s a19, .s a20, .i a21, .s a22, .l a23, .l a24, .l a25, .l a26, .l a27] =
 (Lqc none [.i 8, .l a9, .i a10]).bind fun y1 =>
 cond ((g y1 0).int == 0) (
 (Lqc8 none [.i a18, .s a19, .s a20, .i a21, .s a22, .l a27, .l ((g y1 1).list), .i ((g y1 2).int)]).bind fun y2 =>
 some [.i a11, .i a12, .i a13, .i a14, .l a15, .l a16, .l a17, .i ((g y2 0).int), .s ((g y2 1).str), .s ((g y2 2).str), .i ((g y2 3).int), .s ((g y2 4).str), .l ((g y2 5).list)]) (
 some [.i a11, .i a12, .i a13, .i a14, .l a15, .l a16, .l a17, .i a18, .s a19, .s a20, .i a21, .s a22, .l a27]) := (zd _ _).trans (by kernel_rfl)
theorem kqt : SigOk Tryz.prog (dqt.sig (Lqt none)) ∧ (dqt.sig (Lqt none)).ok = true := zf (zb kqi (by kernel_rfl) (zb kqc4 (by kernel_rfl) (zb kqc (by kernel_rfl) (zb kqf (by kernel_rfl) (zb kqch (by kernel_rfl) (zb kqbd (by kernel_rfl) (zb kqb2 (by kernel_rfl) (zb kqcf (by kernel_rfl) (zb kqci (by kernel_rfl) (zb kqba (by kernel_rfl) (zb kqc8 (by kernel_rfl) ze))))))))))) (by kernel_rfl) (by kernel_rfl) (by kernel_rfl)
def dqd : FD := { fn := 126, nb := 0, pre := ⟨[.ag [.i .i64 0, .i .i64 1, .i .i64 2, .i .i64 3, .fz 90 false 4, .fz 156 false 5, .fz 158 false 6]], []⟩, post := ⟨[.sc (.b 0)], []⟩, sh := false, cuts := [⟨4, [1, 3, 4, 5], ⟨[.sc (.pt 0 0), .sc (.ow 1), .sc (.ow 2), .sc (.i .i64 0)], [.bx [.i .i64 1, .i .i64 2, .i .i64 3, .i .i64 4, .fz 90 false 5, .fz 156 false 6, .fz 158 false 7], .rw 4 true 8, .rw 3 true 9]⟩⟩, ⟨14, [1, 3, 4, 5, 6, 7], ⟨[.sc (.pt 0 0), .sc (.ow 1), .sc (.ow 2), .sc (.i .i64 0), .sc (.pt 3 0), .sc (.i .i64 1)], [.bx [.i .i64 2, .i .i64 3, .i .i64 4, .i .i64 5, .fz 90 false 6, .fz 156 false 7, .fz 158 false 8], .rw 4 true 9, .rw 3 true 10, .bx [.s 11, .i .i64 12, .s 13, .fz 9 false 14]]⟩⟩, ⟨20, [1, 8], ⟨[.sc (.pt 0 0), .sc (.i .i64 0)], [.bx [.i .i64 1, .i .i64 2, .i .i64 3, .i .i64 4, .fz 90 false 5, .fz 156 false 6, .fz 158 false 7]]⟩⟩, ⟨23, [1, 8, 9], ⟨[.sc (.pt 0 0), .sc (.i .i64 0), .sc (.i .i64 1)], [.bx [.i .i64 2, .i .i64 3, .i .i64 4, .i .i64 5, .fz 90 false 6, .fz 156 false 7, .fz 158 false 8]]⟩⟩] }
noncomputable def Lqd : Option Nat → Lv → Option Lv := Lim Tryz.prog [dq0.sig (Lq0 none), dqr.sig (Lqr none), dqf.sig (Lqf none), dqe.sig (Lqe none), dqu.sig (Lqu none)] dqd Tryz.f126
theorem eqd_i (a0 a1 a2 a3 : Int) (a4 a5 a6 : Rw) : Lqd none [.i a0, .i a1, .i a2, .i a3, .l a4, .l a5, .l a6] =
 Lqd (some 4) [.i 0, .i a0, .i a1, .i a2, .i a3, .l a4, .l a5, .l a6, .l (List.replicate 601 ([.b false] : List C)), .l ([] : Rw)] := (zd _ _).trans (by kernel_rfl)
theorem eqd_4 (a0 a1 a2 a3 a4 : Int) (a5 a6 a7 a8 a9 : Rw) : Lqd (some 4) [.i a0, .i a1, .i a2, .i a3, .i a4, .l a5, .l a6, .l a7, .l a8, .l a9] =
 cond (decide (a0 < (a5.length : Int))) (
 cond (inb a0 a5.length) (
 (Lq0 none [.s ((rd a5 a0.toNat 2).str), .l ((rd a5 a0.toNat 3).list), .i a1]).bind fun y1 =>
 cond (!(g y1 0).bool) (
 some [.b false]) (
 (Lqr none [.s ((rd a5 a0.toNat 2).str), .l ((rd a5 a0.toNat 3).list), .i a1]).bind fun y2 =>
 (Lqf none [.s ((g y2 0).str), .i a1]).bind fun y3 =>
 cond (!Eng.seq ((rd a5 a0.toNat 0).str) ((g y3 0).str)) (
 some [.b false]) (
 cond (decide (0 < a0)) (
 cond (inb (IntKind.i64.wrap (a0 - 1)) a5.length) (
 cond (!slt ((rd a5 ((IntKind.i64.wrap (a0 - 1)).toNat) 0).str) ((rd a5 a0.toNat 0).str)) (
 some [.b false]) (
 (Lqu none [.i ((rd a5 a0.toNat 1).int), .i 1, .i a4]).bind fun y4 =>
 cond (!(g y4 0).bool) (
 some [.b false]) (
 cond (decide ((rd a5 a0.toNat 1).int ≤ 600)) (
 cond (inb ((rd a5 a0.toNat 1).int) a8.length) (
 cond ((rd a8 (((rd a5 a0.toNat 1).int).toNat) 0).bool) (
 some [.b false]) (
 cond (inb ((rd a5 a0.toNat 1).int) a8.length) (
 Lqd (some 4) [.i (IntKind.i64.wrap (a0 + 1)), .i a1, .i a2, .i a3, .i a4, .l a5, .l a6, .l a7, .l (wrs a8 (((rd a5 a0.toNat 1).int).toNat) 0 ([.b true] : List C)), .l a9]) (
 none))) (
 none)) (
 Lqd (some 14) [.i a0, .i 0, .i a1, .i a2, .i a3, .i a4, .l a5, .l a6, .l a7, .l a8, .l a9, .s ((rd a5 a0.toNat 0).str), .i ((rd a5 a0.toNat 1).int), .s ((rd a5 a0.toNat 2).str), .l ((rd a5 a0.toNat 3).list)])))) (
 none)) (
 (Lqu none [.i ((rd a5 a0.toNat 1).int), .i 1, .i a4]).bind fun y5 =>
 cond (!(g y5 0).bool) (
 some [.b false]) (
 cond (decide ((rd a5 a0.toNat 1).int ≤ 600)) (
 cond (inb ((rd a5 a0.toNat 1).int) a8.length) (
 cond ((rd a8 (((rd a5 a0.toNat 1).int).toNat) 0).bool) (
 some [.b false]) (
 cond (inb ((rd a5 a0.toNat 1).int) a8.length) (
 Lqd (some 4) [.i (IntKind.i64.wrap (a0 + 1)), .i a1, .i a2, .i a3, .i a4, .l a5, .l a6, .l a7, .l (wrs a8 (((rd a5 a0.toNat 1).int).toNat) 0 ([.b true] : List C)), .l a9]) (
 none))) (
 none)) (
 Lqd (some 14) [.i a0, .i 0, .i a1, .i a2, .i a3, .i a4, .l a5, .l a6, .l a7, .l a8, .l a9, .s ((rd a5 a0.toNat 0).str), .i ((rd a5 a0.toNat 1).int), .s ((rd a5 a0.toNat 2).str), .l ((rd a5 a0.toNat 3).list)])))))) (
 none)) (
 Lqd (some 20) [.i 0, .i a1, .i a2, .i a3, .i a4, .l a5, .l a6, .l a7]) := (zd _ _).trans (by kernel_rfl)
theorem eqd_14 (a0 a1 a2 a3 a4 a5 : Int) (a6 a7 a8 a9 a10 : Rw) (a11 : ByteArray) (a12 : Int) (a13 : ByteArray) (a14 : Rw) : Lqd (some 14) [.i a0, .i a1, .i a2, .i a3, .i a4, .i a5, .l a6, .l a7, .l a8, .l a9, .l a10, .s a11, .i a12, .s a13, .l a14] =
 cond (decide (a1 < (a10.length : Int))) (
 cond (inb a1 a10.length) (
 cond ((rd a10 a1.toNat 0).int == a12) (
 some [.b false]) (
 Lqd (some 14) [.i a0, .i (IntKind.i64.wrap (a1 + 1)), .i a2, .i a3, .i a4, .i a5, .l a6, .l a7, .l a8, .l a9, .l a10, .s a11, .i a12, .s a13, .l a14])) (
 none)) (
 cond (decide (a10.length + ([[.i a12]] : Rw).length ≤ most)) (
 Lqd (some 4) [.i (IntKind.i64.wrap (a0 + 1)), .i a2, .i a3, .i a4, .i a5, .l a6, .l a7, .l a8, .l a9, .l (a10 ++ ([[.i a12]] : Rw))]) (
 none)) := (zd _ _).trans (by kernel_rfl)
theorem eqd_20 (a0 a1 a2 a3 a4 : Int) (a5 a6 a7 : Rw) : Lqd (some 20) [.i a0, .i a1, .i a2, .i a3, .i a4, .l a5, .l a6, .l a7] =
 cond (decide (a0 < (a5.length : Int))) (
 Lqd (some 23) [.i a0, .i 0, .i a1, .i a2, .i a3, .i a4, .l a5, .l a6, .l a7]) (
 some [.b true]) := (zd _ _).trans (by kernel_rfl)
theorem eqd_23 (a0 a1 a2 a3 a4 a5 : Int) (a6 a7 a8 : Rw) : Lqd (some 23) [.i a0, .i a1, .i a2, .i a3, .i a4, .i a5, .l a6, .l a7, .l a8] =
 cond (inb a0 a6.length) (
 cond (decide (a1 < (((rd a6 a0.toNat 3).list).length : Int))) (
 cond (inb a0 a6.length) (
 cond (inb a1 (((rd a6 a0.toNat 3).list).length)) (
 (Lqe none [.i a2, .i a3, .i a4, .i a5, .l a6, .l a7, .l a8, .s ((rd ((rd a6 a0.toNat 3).list) a1.toNat 0).str)]).bind fun y1 =>
 cond (decide ((g y1 0).int < 0)) (
 some [.b false]) (
 cond (inb ((g y1 0).int) a6.length) (
 cond (inb a0 a6.length) (
 cond (decide ((rd a6 a0.toNat 1).int ≤ (rd a6 (((g y1 0).int).toNat) 1).int)) (
 some [.b false]) (
 Lqd (some 23) [.i a0, .i (IntKind.i64.wrap (a1 + 1)), .i a2, .i a3, .i a4, .i a5, .l a6, .l a7, .l a8])) (
 none)) (
 none))) (
 none)) (
 none)) (
 Lqd (some 20) [.i (IntKind.i64.wrap (a0 + 1)), .i a2, .i a3, .i a4, .i a5, .l a6, .l a7, .l a8])) (
 none) := (zd _ _).trans (by kernel_rfl)
theorem kqd : SigOk Tryz.prog (dqd.sig (Lqd none)) ∧ (dqd.sig (Lqd none)).ok = true := zf (zb kq0 (by kernel_rfl) (zb kqr (by kernel_rfl) (zb kqf (by kernel_rfl) (zb kqe (by kernel_rfl) (zb kqu (by kernel_rfl) ze))))) (by kernel_rfl) (by kernel_rfl) (by kernel_rfl)
def dqw : FD := { fn := 42, nb := 0, pre := ⟨[.ag [.i .i64 0, .i .i64 1, .i .i64 2, .i .i64 3, .fz 90 false 4, .fz 156 false 5, .fz 158 false 6]], []⟩, post := ⟨[.sc (.b 0)], []⟩, sh := false, cuts := [⟨6, [1, 3], ⟨[.sc (.pt 0 0), .sc (.i .i64 0)], [.bx [.i .i64 1, .i .i64 2, .i .i64 3, .i .i64 4, .fz 90 false 5, .fz 156 false 6, .fz 158 false 7]]⟩⟩, ⟨11, [1, 4], ⟨[.sc (.pt 0 0), .sc (.i .i64 0)], [.bx [.i .i64 1, .i .i64 2, .i .i64 3, .i .i64 4, .fz 90 false 5, .fz 156 false 6, .fz 158 false 7]]⟩⟩] }
noncomputable def Lqw : Option Nat → Lv → Option Lv := Lim Tryz.prog [dqi.sig (Lqi none), dqbe.sig (Lqbe none), dqe.sig (Lqe none), dqu.sig (Lqu none), dqd.sig (Lqd none)] dqw Tryz.f42
theorem eqw_i (a0 a1 a2 a3 : Int) (a4 a5 a6 : Rw) : Lqw none [.i a0, .i a1, .i a2, .i a3, .l a4, .l a5, .l a6] =
 (Lqi none [.i a0]).bind fun y1 =>
 cond (!(g y1 0).bool) (
 some [.b false]) (
 (Lqu none [.i a1, .i 0, .i 1000000000]).bind fun y2 =>
 cond (!(g y2 0).bool) (
 some [.b false]) (
 (Lqu none [.i a2, .i 0, .i 1000000000]).bind fun y3 =>
 cond (!(g y3 0).bool) (
 some [.b false]) (
 (Lqu none [.i a3, .i 0, .i 1000000000]).bind fun y4 =>
 cond (!(g y4 0).bool) (
 some [.b false]) (
 cond (decide (600 < (a4.length : Int))) (
 some [.b false]) (
 cond (decide (100 < (a5.length : Int))) (
 some [.b false]) (
 cond (decide (200 < (a6.length : Int))) (
 some [.b false]) (
 (Lqd none [.i a0, .i a1, .i a2, .i a3, .l a4, .l a5, .l a6]).bind fun y5 =>
 cond (!(g y5 0).bool) (
 some [.b false]) (
 Lqw (some 6) [.i 0, .i a0, .i a1, .i a2, .i a3, .l a4, .l a5, .l a6])))))))) := (zd _ _).trans (by kernel_rfl)
theorem eqw_6 (a0 a1 a2 a3 a4 : Int) (a5 a6 a7 : Rw) : Lqw (some 6) [.i a0, .i a1, .i a2, .i a3, .i a4, .l a5, .l a6, .l a7] =
 cond (decide (a0 < (a6.length : Int))) (
 cond (inb a0 a6.length) (
 (Lqbe none [.s ((rd a6 a0.toNat 0).str)]).bind fun y1 =>
 cond (!(g y1 0).bool) (
 some [.b false]) (
 cond (decide (0 < a0)) (
 cond (inb (IntKind.i64.wrap (a0 - 1)) a6.length) (
 cond (inb a0 a6.length) (
 cond (!slt ((rd a6 ((IntKind.i64.wrap (a0 - 1)).toNat) 0).str) ((rd a6 a0.toNat 0).str)) (
 some [.b false]) (
 cond (inb a0 a6.length) (
 (Lqe none [.i a1, .i a2, .i a3, .i a4, .l a5, .l a6, .l a7, .s ((rd a6 a0.toNat 1).str)]).bind fun y2 =>
 cond (decide ((g y2 0).int < 0)) (
 some [.b false]) (
 Lqw (some 6) [.i (IntKind.i64.wrap (a0 + 1)), .i a1, .i a2, .i a3, .i a4, .l a5, .l a6, .l a7])) (
 none))) (
 none)) (
 none)) (
 cond (inb a0 a6.length) (
 (Lqe none [.i a1, .i a2, .i a3, .i a4, .l a5, .l a6, .l a7, .s ((rd a6 a0.toNat 1).str)]).bind fun y3 =>
 cond (decide ((g y3 0).int < 0)) (
 some [.b false]) (
 Lqw (some 6) [.i (IntKind.i64.wrap (a0 + 1)), .i a1, .i a2, .i a3, .i a4, .l a5, .l a6, .l a7])) (
 none)))) (
 none)) (
 Lqw (some 11) [.i 0, .i a1, .i a2, .i a3, .i a4, .l a5, .l a6, .l a7]) := (zd _ _).trans (by kernel_rfl)
theorem eqw_11 (a0 a1 a2 a3 a4 : Int) (a5 a6 a7 : Rw) : Lqw (some 11) [.i a0, .i a1, .i a2, .i a3, .i a4, .l a5, .l a6, .l a7] =
 cond (decide (a0 < (a7.length : Int))) (
 cond (inb a0 a7.length) (
 (Lqu none [.i ((rd a7 a0.toNat 0).int), .i 1, .i a3]).bind fun y1 =>
 cond (!(g y1 0).bool) (
 some [.b false]) (
 cond (decide (0 < a0)) (
 cond (inb (IntKind.i64.wrap (a0 - 1)) a7.length) (
 cond (decide ((rd a7 a0.toNat 0).int ≤ (rd a7 ((IntKind.i64.wrap (a0 - 1)).toNat) 0).int)) (
 some [.b false]) (
 (Lqe none [.i a1, .i a2, .i a3, .i a4, .l a5, .l a6, .l a7, .s ((rd a7 a0.toNat 1).str)]).bind fun y2 =>
 cond (decide ((g y2 0).int < 0)) (
 some [.b false]) (
 cond (decide ((rd a7 a0.toNat 2).int ≤ a2)) (
 some [.b false]) (
 cond (decide ((IntKind.i64.wrap (a2 + 100000)) < (rd a7 a0.toNat 2).int)) (
 some [.b false]) (
 Lqw (some 11) [.i (IntKind.i64.wrap (a0 + 1)), .i a1, .i a2, .i a3, .i a4, .l a5, .l a6, .l a7]))))) (
 none)) (
 (Lqe none [.i a1, .i a2, .i a3, .i a4, .l a5, .l a6, .l a7, .s ((rd a7 a0.toNat 1).str)]).bind fun y3 =>
 cond (decide ((g y3 0).int < 0)) (
 some [.b false]) (
 cond (decide ((rd a7 a0.toNat 2).int ≤ a2)) (
 some [.b false]) (
 cond (decide ((IntKind.i64.wrap (a2 + 100000)) < (rd a7 a0.toNat 2).int)) (
 some [.b false]) (
 Lqw (some 11) [.i (IntKind.i64.wrap (a0 + 1)), .i a1, .i a2, .i a3, .i a4, .l a5, .l a6, .l a7])))))) (
 none)) (
 some [.b true]) := (zd _ _).trans (by kernel_rfl)
theorem kqw : SigOk Tryz.prog (dqw.sig (Lqw none)) ∧ (dqw.sig (Lqw none)).ok = true := zf (zb kqi (by kernel_rfl) (zb kqbe (by kernel_rfl) (zb kqe (by kernel_rfl) (zb kqu (by kernel_rfl) (zb kqd (by kernel_rfl) ze))))) (by kernel_rfl) (by kernel_rfl) (by kernel_rfl)
def dqc9 : FD := { fn := 70, nb := 0, pre := ⟨[.ag [.i .i64 0, .i .i64 1, .i .i64 2, .i .i64 3, .fz 90 false 4, .fz 156 false 5, .fz 158 false 6], .ag [.i .i64 7, .s 8, .s 9, .i .i64 10, .s 11, .fz 9 false 12]], []⟩, post := ⟨[.ag [.i .i64 0, .i .i64 1, .i .i64 2, .i .i64 3, .i .i64 4, .ow 0, .ow 1, .ow 2, .s 5, .i .i64 6, .s 7, .s 8]], [.rw 90 true 9, .rw 156 true 10, .rw 158 true 11]⟩, sh := false, cuts := [] }
noncomputable def Lqc9 : Option Nat → Lv → Option Lv := Lim Tryz.prog [dqn.sig (Lqn none), dqo.sig (Lqo none), dqb8.sig (Lqb8 none), dqw.sig (Lqw none)] dqc9 Tryz.f70
theorem eqc9_i (a0 a1 a2 a3 : Int) (a4 a5 a6 : Rw) (a7 : Int) (a8 a9 : ByteArray) (a10 : Int) (a11 : ByteArray) (a12 : Rw) : Lqc9 none [.i a0, .i a1, .i a2, .i a3, .l a4, .l a5, .l a6, .i a7, .s a8, .s a9, .i a10, .s a11, .l a12] =
 (Lqw none [.i a0, .i a1, .i a2, .i a3, .l a4, .l a5, .l a6]).bind fun y1 =>
 cond (!(g y1 0).bool) (
 some [.i 1, .i 0, .i 0, .i 0, .i 0, .s (⟨#[]⟩ : ByteArray), .i 0, .s (⟨#[]⟩ : ByteArray), .s (⟨#[]⟩ : ByteArray), .l [], .l [], .l []]) (
 (Lqn none [.i a7, .s a8, .s a9, .i a10, .s a11, .l a12, .i a0]).bind fun y2 =>
 cond (!(g y2 0).bool) (
 some [.i 1, .i 0, .i 0, .i 0, .i 0, .s (⟨#[]⟩ : ByteArray), .i 0, .s (⟨#[]⟩ : ByteArray), .s (⟨#[]⟩ : ByteArray), .l [], .l [], .l []]) (
 (Lqo none [.i a0, .i a1, .i a2, .i a3, .l a4, .l a5, .l a6]).bind fun y3 =>
 (Lqb8 none [.i ((g y3 0).int), .i ((g y3 1).int), .i ((g y3 2).int), .i ((g y3 3).int), .l ((g y3 4).list), .l ((g y3 5).list), .i a7, .s a8, .s a9, .i a10, .s a11, .l a12, .l ((g y3 6).list)]).bind fun y4 =>
 (Lqo none [.i ((g y4 1).int), .i ((g y4 2).int), .i ((g y4 3).int), .i ((g y4 4).int), .l ((g y4 5).list), .l ((g y4 6).list), .l ((g y4 11).list)]).bind fun y5 =>
 cond ((g y4 0).int != 0) (
 some [.i ((g y4 0).int), .i 0, .i 0, .i 0, .i 0, .s ((g y4 7).str), .i ((g y4 8).int), .s ((g y4 9).str), .s ((g y4 10).str), .l [], .l [], .l []]) (
 some [.i ((g y4 0).int), .i ((g y5 0).int), .i ((g y5 1).int), .i ((g y5 2).int), .i ((g y5 3).int), .s ((g y4 7).str), .i ((g y4 8).int), .s ((g y4 9).str), .s ((g y4 10).str), .l ((g y5 4).list), .l ((g y5 5).list), .l ((g y5 6).list)]))) := (zd _ _).trans (by kernel_rfl)
theorem kqc9 : SigOk Tryz.prog (dqc9.sig (Lqc9 none)) ∧ (dqc9.sig (Lqc9 none)).ok = true := zf (zb kqn (by kernel_rfl) (zb kqo (by kernel_rfl) (zb kqb8 (by kernel_rfl) (zb kqw (by kernel_rfl) ze)))) (by kernel_rfl) (by kernel_rfl) (by kernel_rfl)
def dqca : FD := { fn := 13, nb := 0, pre := ⟨[.sc (.fz 5 false 0)], []⟩, post := ⟨[.sc (.b 0)], []⟩, sh := false, cuts := [⟨20, [4, 5], ⟨[.sc (.pt 0 0), .sc (.pt 1 0)], [.bx [.i .i64 0, .s 1, .s 2, .i .i64 3, .s 4, .fz 9 false 5], .bx [.i .i64 6, .i .i64 7, .i .i64 8, .i .i64 9, .i .i64 10, .fz 90 false 11, .fz 156 false 12, .fz 158 false 13, .s 14, .i .i64 15, .s 16, .s 17]]⟩⟩, ⟨23, [3, 4, 5, 121], ⟨[.sc (.pt 0 0), .sc (.pt 1 0), .sc (.pt 2 0), .sc (.i .i64 0)], [.bx [.i .i64 1, .i .i64 2, .i .i64 3, .i .i64 4, .fz 90 true 5, .fz 156 true 6, .fz 158 true 7], .bx [.i .i64 8, .s 9, .s 10, .i .i64 11, .s 12, .fz 9 false 13], .bx [.i .i64 14, .i .i64 15, .i .i64 16, .i .i64 17, .i .i64 18, .fz 90 false 19, .fz 156 false 20, .fz 158 false 21, .s 22, .i .i64 23, .s 24, .s 25]]⟩⟩] }
noncomputable def Lqca : Option Nat → Lv → Option Lv := Lim Tryz.prog [dqx.sig (Lqx none), dqg.sig (Lqg none), dqb.sig (Lqb none), dqc3.sig (Lqc3 none), dqb1.sig (Lqb1 none), dqb7.sig (Lqb7 none), dqy.sig (Lqy none), dqt.sig (Lqt none), dqc9.sig (Lqc9 none)] dqca Tryz.f13
theorem eqca_i (a0 : Rw) : Lqca none [.l a0] =
 cond (decide (1048576 < (a0.length : Int))) (
 some [.b true]) (
 (Lqt none [.l a0]).bind fun y1 =>
 (Lqc3 none [.i ((g y1 0).int), .i ((g y1 1).int), .i ((g y1 2).int), .i ((g y1 3).int), .l ((g y1 4).list), .l ((g y1 5).list), .l ((g y1 6).list), .i ((g y1 7).int), .s ((g y1 8).str), .s ((g y1 9).str), .i ((g y1 10).int), .s ((g y1 11).str), .l ((g y1 12).list)]).bind fun y2 =>
 (Lqc9 none [.i ((g y1 0).int), .i ((g y1 1).int), .i ((g y1 2).int), .i ((g y1 3).int), .l ((g y1 4).list), .l ((g y1 5).list), .l ((g y1 6).list), .i ((g y1 7).int), .s ((g y1 8).str), .s ((g y1 9).str), .i ((g y1 10).int), .s ((g y1 11).str), .l ((g y1 12).list)]).bind fun y3 =>
 cond ((g y2 0).int != (g y3 0).int) (
 some [.b false]) (
 cond (!Eng.seq ((g y2 8).str) ((g y3 5).str)) (
 some [.b false]) (
 cond ((g y2 9).int != (g y3 6).int) (
 some [.b false]) (
 cond (!Eng.seq ((g y2 10).str) ((g y3 7).str)) (
 some [.b false]) (
 cond (!Eng.seq ((g y2 11).str) ((g y3 8).str)) (
 some [.b false]) (
 (Lqg none [.i ((g y2 1).int), .i ((g y2 2).int), .i ((g y2 3).int), .i ((g y2 4).int), .l ((g y2 5).list), .l ((g y2 6).list), .l ((g y2 7).list), .i ((g y3 1).int), .i ((g y3 2).int), .i ((g y3 3).int), .i ((g y3 4).int), .l ((g y3 9).list), .l ((g y3 10).list), .l ((g y3 11).list)]).bind fun y4 =>
 cond (!(g y4 0).bool) (
 some [.b false]) (
 cond ((g y2 0).int == 3) (
 cond (!Eng.seq ((g y2 10).str) ((g y2 11).str)) (
 (Lqx none [.s ((g y2 10).str), .i ((g y1 0).int)]).bind fun y5 =>
 (Lqx none [.s ((g y2 11).str), .i ((g y1 0).int)]).bind fun y6 =>
 some [.b (Eng.seq ((g y5 0).str) ((g y6 0).str))]) (
 some [.b false])) (
 cond ((g y2 0).int == 6) (
 (Lqy none [.i ((g y1 0).int), .i ((g y1 1).int), .i ((g y1 2).int), .i ((g y1 3).int), .l ((g y1 4).list), .l ((g y1 5).list), .l ((g y1 6).list), .s ((g y1 8).str)]).bind fun y7 =>
 cond (decide (0 < (IntKind.i64.wrap ((((g y7 0).list).length : Int) + (((g y7 1).list).length : Int))))) (
 some [.b true]) (
 (Lqb7 none [.i ((g y1 0).int), .i ((g y1 1).int), .i ((g y1 2).int), .i ((g y1 3).int), .l ((g y1 4).list), .l ((g y1 5).list), .l ((g y1 6).list), .s ((g y1 8).str)]).bind fun y8 =>
 some [.b (decide (0 < (g y8 0).int))])) (
 cond ((g y2 0).int != 0) (
 some [.b true]) (
 (Lqb none [.i ((g y2 1).int), .i ((g y2 2).int), .i ((g y2 3).int), .i ((g y2 4).int), .l ((g y2 5).list), .l ((g y2 6).list), .l ((g y2 7).list)]).bind fun y9 =>
 cond (!(g y9 0).bool) (
 some [.b false]) (
 cond ((g y1 7).int == 1) (
 cond ((g y1 7).int == 1) (
 Lqca (some 20) [.i ((g y1 7).int), .s ((g y1 8).str), .s ((g y1 9).str), .i ((g y1 10).int), .s ((g y1 11).str), .l ((g y1 12).list), .i ((g y2 0).int), .i ((g y2 1).int), .i ((g y2 2).int), .i ((g y2 3).int), .i ((g y2 4).int), .l ((g y2 5).list), .l ((g y2 6).list), .l ((g y2 7).list), .s ((g y2 8).str), .i ((g y2 9).int), .s ((g y2 10).str), .s ((g y2 11).str)]) (
 Lqca (some 23) [.i ((g y1 7).int), .i ((g y1 0).int), .i ((g y1 1).int), .i ((g y1 2).int), .i ((g y1 3).int), .l ((g y1 4).list), .l ((g y1 5).list), .l ((g y1 6).list), .i ((g y1 7).int), .s ((g y1 8).str), .s ((g y1 9).str), .i ((g y1 10).int), .s ((g y1 11).str), .l ((g y1 12).list), .i ((g y2 0).int), .i ((g y2 1).int), .i ((g y2 2).int), .i ((g y2 3).int), .i ((g y2 4).int), .l ((g y2 5).list), .l ((g y2 6).list), .l ((g y2 7).list), .s ((g y2 8).str), .i ((g y2 9).int), .s ((g y2 10).str), .s ((g y2 11).str)])) (
 cond ((g y1 7).int == 4) (
 Lqca (some 20) [.i ((g y1 7).int), .s ((g y1 8).str), .s ((g y1 9).str), .i ((g y1 10).int), .s ((g y1 11).str), .l ((g y1 12).list), .i ((g y2 0).int), .i ((g y2 1).int), .i ((g y2 2).int), .i ((g y2 3).int), .i ((g y2 4).int), .l ((g y2 5).list), .l ((g y2 6).list), .l ((g y2 7).list), .s ((g y2 8).str), .i ((g y2 9).int), .s ((g y2 10).str), .s ((g y2 11).str)]) (
 Lqca (some 23) [.i ((g y1 7).int), .i ((g y1 0).int), .i ((g y1 1).int), .i ((g y1 2).int), .i ((g y1 3).int), .l ((g y1 4).list), .l ((g y1 5).list), .l ((g y1 6).list), .i ((g y1 7).int), .s ((g y1 8).str), .s ((g y1 9).str), .i ((g y1 10).int), .s ((g y1 11).str), .l ((g y1 12).list), .i ((g y2 0).int), .i ((g y2 1).int), .i ((g y2 2).int), .i ((g y2 3).int), .i ((g y2 4).int), .l ((g y2 5).list), .l ((g y2 6).list), .l ((g y2 7).list), .s ((g y2 8).str), .i ((g y2 9).int), .s ((g y2 10).str), .s ((g y2 11).str)]))))))))))))) := (zd _ _).trans (by kernel_rfl)
theorem eqca_20 (a0 : Int) (a1 a2 : ByteArray) (a3 : Int) (a4 : ByteArray) (a5 : Rw) (a6 a7 a8 a9 a10 : Int) (a11 a12 a13 : Rw) (a14 : ByteArray) (a15 : Int) (a16 a17 : ByteArray) : Lqca (some 20) [.i a0, .s a1, .s a2, .i a3, .s a4, .l a5, .i a6, .i a7, .i a8, .i a9, .i a10, .l a11, .l a12, .l a13, .s a14, .i a15, .s a16, .s a17] =
 cond (decide (a1.size + a14.size ≤ most)) (
 (Lqy none [.i a7, .i a8, .i a9, .i a10, .l a11, .l a12, .l a13, .s (a1 ++ a14)]).bind fun y1 =>
 (Lqb7 none [.i a7, .i a8, .i a9, .i a10, .l a11, .l a12, .l a13, .s (a1 ++ a14)]).bind fun y2 =>
 cond (decide (0 < (g y2 0).int)) (
 cond (decide (0 < (((g y1 1).list).length : Int))) (
 cond (inb (IntKind.i64.wrap ((((g y1 1).list).length : Int) - 1)) (((g y1 1).list).length)) (
 some [.b ((rd ((g y1 1).list) ((IntKind.i64.wrap ((((g y1 1).list).length : Int) - 1)).toNat) 0).int == a15)]) (
 none)) (
 some [.b false])) (
 some [.b false])) (
 none) := (zd _ _).trans (by kernel_rfl)
theorem eqca_23 (a0 a1 a2 a3 a4 : Int) (a5 a6 a7 : Rw) (a8 : Int) (a9 a10 : ByteArray) (a11 : Int) (a12 : ByteArray) (a13 : Rw) (a14 a15 a16 a17 a18 : Int) (a19 a20 a21 : Rw) (a22 : ByteArray) (a23 : Int) (a24 a25 : ByteArray) : Lqca (some 23) [.i a0, .i a1, .i a2, .i a3, .i a4, .l a5, .l a6, .l a7, .i a8, .s a9, .s a10, .i a11, .s a12, .l a13, .i a14, .i a15, .i a16, .i a17, .i a18, .l a19, .l a20, .l a21, .s a22, .i a23, .s a24, .s a25] =
 cond (a0 == 2) (
 (Lqy none [.i a15, .i a16, .i a17, .i a18, .l a19, .l a20, .l a21, .s a9]).bind fun y1 =>
 (Lqb1 none [.l ((g y1 0).list), .s a10]).bind fun y2 =>
 some [.b ((g y2 0).bool)]) (
 cond (a0 == 7) (
 (Lqb7 none [.i a15, .i a16, .i a17, .i a18, .l a19, .l a20, .l a21, .s a9]).bind fun y3 =>
 cond ((g y3 0).int == 0) (
 some [.b ((a19.length : Int) == (IntKind.i64.wrap ((a5.length : Int) - 1)))]) (
 some [.b false])) (
 some [.b true])) := (zd _ _).trans (by kernel_rfl)
theorem kqca : SigOk Tryz.prog (dqca.sig (Lqca none)) ∧ (dqca.sig (Lqca none)).ok = true := zf (zb kqx (by kernel_rfl) (zb kqg (by kernel_rfl) (zb kqb (by kernel_rfl) (zb kqc3 (by kernel_rfl) (zb kqb1 (by kernel_rfl) (zb kqb7 (by kernel_rfl) (zb kqy (by kernel_rfl) (zb kqt (by kernel_rfl) (zb kqc9 (by kernel_rfl) ze))))))))) (by kernel_rfl) (by kernel_rfl) (by kernel_rfl)
end KV
end
