/- Walks of Go functions, printed by a program of ours. -/
import Derived.Test.YtbgmclgeikflaaaGreatProg
import Derived.Test.YtbgmclgeikflaaaGreatM1
import Derived.Test.YtbgmclgeikflaaaGreatM2
import Derived.Test.YtbgmclgeikflaaaGreatM3
set_option linter.unusedSimpArgs false
set_option linter.unusedVariables false
set_option linter.unusedSectionVars false
section
set_option maxRecDepth 100000
namespace KV
open Go Go.Eng Go.Proofs
def dqct : FD := { fn := 77, nb := 0, pre := ⟨[.ag [.i .i64 0, .s 1, .i .i64 2, .s 3, .i .i64 4, .i .i64 5], .ag [.i .i64 6, .i .i64 7, .i .i64 8, .i .i64 9, .fz 90 false 10, .fz 156 false 11, .fz 158 false 12]], []⟩, post := ⟨[.sc (.s 0)], []⟩, sh := false, cuts := [] }
noncomputable def Lqct : Option Nat → Lv → Option Lv := Lim Tryz.prog [dqg.sig (Lqg none)] dqct Tryz.f77
theorem eqct_i (a0 : Int) (a1 : ByteArray) (a2 : Int) (a3 : ByteArray) (a4 a5 a6 a7 a8 a9 : Int) (a10 a11 a12 : Rw) : Lqct none [.i a0, .s a1, .i a2, .s a3, .i a4, .i a5, .i a6, .i a7, .i a8, .i a9, .l a10, .l a11, .l a12] =
 cond ((a10.length : Int) == 0) (
 (Lqg none [.s (⟨#[110, 111, 110, 101]⟩ : ByteArray), .i a6]).bind fun y1 =>
 some [.s ((g y1 0).str)]) (
 cond ((a10.length : Int) != 0) (
 cond (inb (a4.tmod (a10.length : Int)) a10.length) (
 some [.s ((rd a10 ((a4.tmod (a10.length : Int)).toNat) 0).str)]) (
 none)) (
 none)) := (Lim_eq _ _).trans (by kernel_rfl)
theorem kqct : SigOk Tryz.prog (dqct.sig (Lqct none)) ∧ (dqct.sig (Lqct none)).ok = true := sound_lim (known_cons kqg (by kernel_rfl) known_nil) (by kernel_rfl) (by kernel_rfl) (by kernel_rfl)
def dqcz : FD := { fn := 81, nb := 0, pre := ⟨[.ag [.i .i64 0, .s 1, .i .i64 2, .s 3, .i .i64 4, .i .i64 5], .ag [.i .i64 6, .i .i64 7, .i .i64 8, .i .i64 9, .fz 90 false 10, .fz 156 false 11, .fz 158 false 12]], []⟩, post := ⟨[.sc (.i .i64 0)], []⟩, sh := false, cuts := [] }
noncomputable def Lqcz : Option Nat → Lv → Option Lv := Lim Tryz.prog [] dqcz Tryz.f81
theorem eqcz_i (a0 : Int) (a1 : ByteArray) (a2 : Int) (a3 : ByteArray) (a4 a5 a6 a7 a8 a9 : Int) (a10 a11 a12 : Rw) : Lqcz none [.i a0, .s a1, .i a2, .s a3, .i a4, .i a5, .i a6, .i a7, .i a8, .i a9, .l a10, .l a11, .l a12] =
 cond ((a12.length : Int) == 0) (
 some [.i (IntKind.i64.wrap (1 + a4))]) (
 cond ((a12.length : Int) != 0) (
 cond (inb (a4.tmod (a12.length : Int)) a12.length) (
 some [.i ((rd a12 ((a4.tmod (a12.length : Int)).toNat) 0).int)]) (
 none)) (
 none)) := (Lim_eq _ _).trans (by kernel_rfl)
theorem kqcz : SigOk Tryz.prog (dqcz.sig (Lqcz none)) ∧ (dqcz.sig (Lqcz none)).ok = true := sound_lim known_nil (by kernel_rfl) (by kernel_rfl) (by kernel_rfl)
def dqbj : FD := { fn := 207, nb := 0, pre := ⟨[.ag [.i .i64 0, .fz 9 false 1, .fz 9 false 2, .i .i64 3, .i .i64 4, .i .i64 5]], []⟩, post := ⟨[.ag [.i .i64 0, .ow 0, .ow 1, .i .i64 1, .i .i64 2, .i .i64 3]], [.rw 9 true 4, .rw 9 true 5]⟩, sh := false, cuts := [] }
noncomputable def Lqbj : Option Nat → Lv → Option Lv := Lim Tryz.prog [] dqbj Tryz.f207
theorem eqbj_i (a0 : Int) (a1 a2 : Rw) (a3 a4 a5 : Int) : Lqbj none [.i a0, .l a1, .l a2, .i a3, .i a4, .i a5] =
 cond (decide (([] : Rw).length + a1.length ≤ most)) (
 cond (decide (([] : Rw).length + a2.length ≤ most)) (
 some [.i a0, .i a3, .i a4, .i a5, .l (([] : Rw) ++ a1), .l (([] : Rw) ++ a2)]) (
 none)) (
 none) := (Lim_eq _ _).trans (by kernel_rfl)
theorem kqbj : SigOk Tryz.prog (dqbj.sig (Lqbj none)) ∧ (dqbj.sig (Lqbj none)).ok = true := sound_lim known_nil (by kernel_rfl) (by kernel_rfl) (by kernel_rfl)
def dqby : FD := { fn := 156, nb := 0, pre := ⟨[.ag [.i .i64 0, .i .i64 1, .fz 9 false 2, .fz 9 false 3, .i .i64 4, .i .i64 5, .i .i64 6, .i .i64 7, .fz 90 false 8, .fz 156 false 9, .fz 158 false 10, .i .i64 11, .fz 9 false 12, .fz 9 false 13, .i .i64 14, .i .i64 15, .i .i64 16]], []⟩, post := ⟨[.ag [.i .i64 0, .i .i64 1, .ow 0, .ow 1, .i .i64 2, .i .i64 3, .i .i64 4, .i .i64 5, .ow 2, .ow 3, .ow 4, .i .i64 6, .ow 5, .ow 6, .i .i64 7, .i .i64 8, .i .i64 9]], [.rw 9 true 10, .rw 9 true 11, .rw 90 true 12, .rw 156 true 13, .rw 158 true 14, .rw 9 true 15, .rw 9 true 16]⟩, sh := false, cuts := [] }
noncomputable def Lqby : Option Nat → Lv → Option Lv := Lim Tryz.prog [dqr.sig (Lqr none), dqcs.sig (Lqcs none), dqbj.sig (Lqbj none)] dqby Tryz.f156
theorem eqby_i (a0 a1 : Int) (a2 a3 : Rw) (a4 a5 a6 a7 : Int) (a8 a9 a10 : Rw) (a11 : Int) (a12 a13 : Rw) (a14 a15 a16 : Int) : Lqby none [.i a0, .i a1, .l a2, .l a3, .i a4, .i a5, .i a6, .i a7, .l a8, .l a9, .l a10, .i a11, .l a12, .l a13, .i a14, .i a15, .i a16] =
 (Lqcs none [.l a2, .l a3]).bind fun y1 =>
 (Lqr none [.i a4, .i a5, .i a6, .i a7, .l a8, .l a9, .l a10]).bind fun y2 =>
 (Lqbj none [.i a11, .l a12, .l a13, .i a14, .i a15, .i a16]).bind fun y3 =>
 some [.i a0, .i a1, .i ((g y2 0).int), .i ((g y2 1).int), .i ((g y2 2).int), .i ((g y2 3).int), .i ((g y3 0).int), .i ((g y3 1).int), .i ((g y3 2).int), .i ((g y3 3).int), .l ((g y1 0).list), .l ((g y1 1).list), .l ((g y2 4).list), .l ((g y2 5).list), .l ((g y2 6).list), .l ((g y3 4).list), .l ((g y3 5).list)] := (Lim_eq _ _).trans (by kernel_rfl)
theorem kqby : SigOk Tryz.prog (dqby.sig (Lqby none)) ∧ (dqby.sig (Lqby none)).ok = true := sound_lim (known_cons kqr (by kernel_rfl) (known_cons kqcs (by kernel_rfl) (known_cons kqbj (by kernel_rfl) known_nil))) (by kernel_rfl) (by kernel_rfl) (by kernel_rfl)
def dqcd : FD := { fn := 202, nb := 0, pre := ⟨[.ag [.i .i64 0, .i .i64 1, .i .i64 2, .i .i64 3, .fz 90 false 4, .fz 156 false 5, .fz 158 false 6]], []⟩, post := ⟨[.sc (.i .i64 0)], []⟩, sh := false, cuts := [⟨3, [1, 3, 4], ⟨[.sc (.pt 0 0), .sc (.i .i64 0), .sc (.i .i64 1)], [.bx [.i .i64 2, .i .i64 3, .i .i64 4, .i .i64 5, .fz 90 false 6, .fz 156 false 7, .fz 158 false 8]]⟩⟩] }
noncomputable def Lqcd : Option Nat → Lv → Option Lv := Lim Tryz.prog [] dqcd Tryz.f202
theorem eqcd_i (a0 a1 a2 a3 : Int) (a4 a5 a6 : Rw) : Lqcd none [.i a0, .i a1, .i a2, .i a3, .l a4, .l a5, .l a6] =
 Lqcd (some 3) [.i 0, .i 0, .i a0, .i a1, .i a2, .i a3, .l a4, .l a5, .l a6] := (Lim_eq _ _).trans (by kernel_rfl)
theorem eqcd_3 (a0 a1 a2 a3 a4 a5 : Int) (a6 a7 a8 : Rw) : Lqcd (some 3) [.i a0, .i a1, .i a2, .i a3, .i a4, .i a5, .l a6, .l a7, .l a8] =
 cond (decide (a1 < (a6.length : Int))) (
 cond (inb a1 a6.length) (
 cond (inb a1 a6.length) (
 Lqcd (some 3) [.i (IntKind.i64.wrap ((IntKind.i64.wrap ((IntKind.i64.wrap (a0 + 1)) + (IntKind.i64.wrap ((((rd a6 a1.toNat 3).list).length : Int) * a2)))) + (((rd a6 a1.toNat 2).str).size : Int))), .i (IntKind.i64.wrap (a1 + 1)), .i a2, .i a3, .i a4, .i a5, .l a6, .l a7, .l a8]) (
 none)) (
 none)) (
 some [.i a0]) := (Lim_eq _ _).trans (by kernel_rfl)
theorem kqcd : SigOk Tryz.prog (dqcd.sig (Lqcd none)) ∧ (dqcd.sig (Lqcd none)).ok = true := sound_lim known_nil (by kernel_rfl) (by kernel_rfl) (by kernel_rfl)
def dqc0 : FD := { fn := 203, nb := 0, pre := ⟨[.ag [.i .i64 0, .i .i64 1, .i .i64 2, .i .i64 3, .fz 90 false 4, .fz 156 false 5, .fz 158 false 6], .ag [.i .i64 7, .fz 9 false 8, .fz 9 false 9, .i .i64 10, .i .i64 11, .i .i64 12], .sc (.s 13)], []⟩, post := ⟨[.ag [.i .i64 0, .ow 0, .ow 1, .i .i64 1, .i .i64 2, .i .i64 3]], [.rw 9 true 4, .rw 9 true 5]⟩, sh := false, cuts := [] }
noncomputable def Lqc0 : Option Nat → Lv → Option Lv := Lim Tryz.prog [dqe.sig (Lqe none), dqi.sig (Lqi none), dqbj.sig (Lqbj none)] dqc0 Tryz.f203
theorem eqc0_i (a0 a1 a2 a3 : Int) (a4 a5 a6 : Rw) (a7 : Int) (a8 a9 : Rw) (a10 a11 a12 : Int) (a13 : ByteArray) : Lqc0 none [.i a0, .i a1, .i a2, .i a3, .l a4, .l a5, .l a6, .i a7, .l a8, .l a9, .i a10, .i a11, .i a12, .s a13] =
 cond (a7 == 0) (
 (Lqbj none [.i a7, .l a8, .l a9, .i a10, .i a11, .i a12]).bind fun y1 =>
 some [.i ((g y1 0).int), .i ((g y1 1).int), .i ((g y1 2).int), .i ((g y1 3).int), .l ((g y1 4).list), .l ((g y1 5).list)]) (
 (Lqe none [.i a0, .i a1, .i a2, .i a3, .l a4, .l a5, .l a6, .s a13]).bind fun y2 =>
 cond (decide ((g y2 0).int < 0)) (
 (Lqbj none [.i a7, .l a8, .l a9, .i a10, .i a11, .i a12]).bind fun y3 =>
 some [.i ((g y3 0).int), .i ((g y3 1).int), .i ((g y3 2).int), .i ((g y3 3).int), .l ((g y3 4).list), .l ((g y3 5).list)]) (
 (Lqi none [.l a9, .s a13]).bind fun y4 =>
 cond ((g y4 0).bool) (
 (Lqbj none [.i a7, .l a8, .l a9, .i a10, .i a11, .i a12]).bind fun y5 =>
 some [.i ((g y5 0).int), .i ((g y5 1).int), .i ((g y5 2).int), .i ((g y5 3).int), .l ((g y5 4).list), .l ((g y5 5).list)]) (
 cond (decide (23200 ≤ (a8.length : Int))) (
 (Lqbj none [.i a7, .l a8, .l a9, .i a10, .i a11, .i a12]).bind fun y6 =>
 some [.i ((g y6 0).int), .i ((g y6 1).int), .i ((g y6 2).int), .i ((g y6 3).int), .l ((g y6 4).list), .l ((g y6 5).list)]) (
 (Lqbj none [.i a7, .l a8, .l a9, .i a10, .i a11, .i a12]).bind fun y7 =>
 cond (decide (((g y7 4).list).length + ([[.s a13]] : Rw).length ≤ most)) (
 some [.i ((g y7 0).int), .i ((g y7 1).int), .i ((g y7 2).int), .i ((g y7 3).int), .l ((g y7 4).list ++ ([[.s a13]] : Rw)), .l ((g y7 5).list)]) (
 none))))) := (Lim_eq _ _).trans (by kernel_rfl)
theorem kqc0 : SigOk Tryz.prog (dqc0.sig (Lqc0 none)) ∧ (dqc0.sig (Lqc0 none)).ok = true := sound_lim (known_cons kqe (by kernel_rfl) (known_cons kqi (by kernel_rfl) (known_cons kqbj (by kernel_rfl) known_nil))) (by kernel_rfl) (by kernel_rfl) (by kernel_rfl)
def dqp : FD := { fn := 147, nb := 0, pre := ⟨[.ag [.i .i64 0, .i .i64 1, .fz 9 false 2, .fz 9 false 3, .i .i64 4, .i .i64 5, .i .i64 6, .i .i64 7, .fz 90 false 8, .fz 156 false 9, .fz 158 false 10, .i .i64 11, .fz 9 false 12, .fz 9 false 13, .i .i64 14, .i .i64 15, .i .i64 16], .ag [.i .i64 17, .s 18, .s 19, .i .i64 20, .s 21, .fz 9 false 22]], []⟩, post := ⟨[.ag [.i .i64 0, .i .i64 1, .i .i64 2, .ow 0, .ow 1, .i .i64 3, .i .i64 4, .i .i64 5, .i .i64 6, .ow 2, .ow 3, .ow 4, .i .i64 7, .ow 5, .ow 6, .i .i64 8, .i .i64 9, .i .i64 10, .s 11, .i .i64 12, .s 13, .s 14]], [.rw 9 true 15, .rw 9 true 16, .rw 90 true 17, .rw 156 true 18, .rw 158 true 19, .rw 9 true 20, .rw 9 true 21]⟩, sh := false, cuts := [⟨25, [4, 6, 7, 8], ⟨[.sc (.pt 0 0), .sc (.pt 1 0), .sc (.pt 2 0), .sc (.s 0)], [.bx [.i .i64 1, .i .i64 2, .i .i64 3, .ow 11, .ow 12, .i .i64 4, .i .i64 5, .i .i64 6, .i .i64 7, .ow 13, .ow 14, .ow 15, .i .i64 8, .ow 16, .ow 17, .i .i64 9, .i .i64 10, .i .i64 11, .s 12, .i .i64 13, .s 14, .s 15], .bx [.i .i64 16, .i .i64 17, .i .i64 18, .i .i64 19, .i .i64 20, .fz 90 false 21, .fz 156 false 22, .ow 3, .s 23, .i .i64 24, .s 25, .s 26], .bx [.i .i64 27, .i .i64 28, .ow 4, .ow 5, .i .i64 29, .i .i64 30, .i .i64 31, .i .i64 32, .ow 6, .ow 7, .ow 8, .i .i64 33, .ow 9, .ow 10, .i .i64 34, .i .i64 35, .i .i64 36], .rw 158 false 37, .rw 9 true 38, .rw 9 true 39, .rw 90 true 40, .rw 156 true 41, .rw 158 true 42, .rw 9 true 43, .rw 9 true 44, .rw 9 true 45, .rw 9 true 46, .rw 90 true 47, .rw 156 true 48, .rw 158 true 49, .rw 9 true 50, .rw 9 true 51]⟩⟩] }
noncomputable def Lqp : Option Nat → Lv → Option Lv := Lim Tryz.prog [dqw.sig (Lqw none), dqx.sig (Lqx none), dqr.sig (Lqr none), dqcn.sig (Lqcn none), dqbl.sig (Lqbl none), dqby.sig (Lqby none), dqcd.sig (Lqcd none), dqc0.sig (Lqc0 none)] dqp Tryz.f147
theorem eqp_i (a0 a1 : Int) (a2 a3 : Rw) (a4 a5 a6 a7 : Int) (a8 a9 a10 : Rw) (a11 : Int) (a12 a13 : Rw) (a14 a15 a16 a17 : Int) (a18 a19 : ByteArray) (a20 : Int) (a21 : ByteArray) (a22 : Rw) : Lqp none [.i a0, .i a1, .l a2, .l a3, .i a4, .i a5, .i a6, .i a7, .l a8, .l a9, .l a10, .i a11, .l a12, .l a13, .i a14, .i a15, .i a16, .i a17, .s a18, .s a19, .i a20, .s a21, .l a22] =
 (Lqbl none [.i a0, .i a1, .l a2, .l a3, .i a4, .i a5, .i a6, .i a7, .l a8, .l a9, .l a10, .i a11, .l a12, .l a13, .i a14, .i a15, .i a16]).bind fun y1 =>
 cond (!(g y1 0).bool) (
 some [.i 1, .i 0, .i 0, .i 0, .i 0, .i 0, .i 0, .i 0, .i 0, .i 0, .i 0, .s (⟨#[]⟩ : ByteArray), .i 0, .s (⟨#[]⟩ : ByteArray), .s (⟨#[]⟩ : ByteArray), .l [], .l [], .l [], .l [], .l [], .l [], .l []]) (
 (Lqby none [.i a0, .i a1, .l a2, .l a3, .i a4, .i a5, .i a6, .i a7, .l a8, .l a9, .l a10, .i a11, .l a12, .l a13, .i a14, .i a15, .i a16]).bind fun y2 =>
 (Lqw none [.i a17, .s a18, .s a19, .i a20, .s a21, .l a22, .i a0]).bind fun y3 =>
 cond (!(g y3 0).bool) (
 some [.i 1, .i ((g y2 0).int), .i ((g y2 1).int), .i ((g y2 2).int), .i ((g y2 3).int), .i ((g y2 4).int), .i ((g y2 5).int), .i ((g y2 6).int), .i ((g y2 7).int), .i ((g y2 8).int), .i ((g y2 9).int), .s (⟨#[]⟩ : ByteArray), .i 0, .s (⟨#[]⟩ : ByteArray), .s (⟨#[]⟩ : ByteArray), .l ((g y2 10).list), .l ((g y2 11).list), .l ((g y2 12).list), .l ((g y2 13).list), .l ((g y2 14).list), .l ((g y2 15).list), .l ((g y2 16).list)]) (
 (Lqr none [.i a4, .i a5, .i a6, .i a7, .l a8, .l a9, .l a10]).bind fun y4 =>
 (Lqcn none [.i ((g y4 0).int), .i ((g y4 1).int), .i ((g y4 2).int), .i ((g y4 3).int), .l ((g y4 4).list), .l ((g y4 5).list), .i a17, .s a18, .s a19, .i a20, .s a21, .l a22, .l ((g y4 6).list)]).bind fun y5 =>
 cond ((g y5 0).int != 0) (
 some [.i ((g y5 0).int), .i ((g y2 0).int), .i ((g y2 1).int), .i ((g y2 2).int), .i ((g y2 3).int), .i ((g y2 4).int), .i ((g y2 5).int), .i ((g y2 6).int), .i ((g y2 7).int), .i ((g y2 8).int), .i ((g y2 9).int), .s (⟨#[]⟩ : ByteArray), .i 0, .s ((g y5 9).str), .s ((g y5 10).str), .l ((g y2 10).list), .l ((g y2 11).list), .l ((g y2 12).list), .l ((g y2 13).list), .l ((g y2 14).list), .l ((g y2 15).list), .l ((g y2 16).list)]) (
 cond (a17 == 1) (
 (Lqcd none [.i ((g y5 1).int), .i ((g y5 2).int), .i ((g y5 3).int), .i ((g y5 4).int), .l ((g y5 5).list), .l ((g y5 6).list), .l ((g y5 11).list)]).bind fun y6 =>
 cond (decide (a1 < (g y6 0).int)) (
 some [.i 8, .i ((g y2 0).int), .i ((g y2 1).int), .i ((g y2 2).int), .i ((g y2 3).int), .i ((g y2 4).int), .i ((g y2 5).int), .i ((g y2 6).int), .i ((g y2 7).int), .i ((g y2 8).int), .i ((g y2 9).int), .s (⟨#[]⟩ : ByteArray), .i 0, .s (⟨#[]⟩ : ByteArray), .s (⟨#[]⟩ : ByteArray), .l ((g y2 10).list), .l ((g y2 11).list), .l ((g y2 12).list), .l ((g y2 13).list), .l ((g y2 14).list), .l ((g y2 15).list), .l ((g y2 16).list)]) (
 cond (decide (4000 ≤ (IntKind.i64.wrap ((a2.length : Int) + (a3.length : Int))))) (
 some [.i 9, .i ((g y2 0).int), .i ((g y2 1).int), .i ((g y2 2).int), .i ((g y2 3).int), .i ((g y2 4).int), .i ((g y2 5).int), .i ((g y2 6).int), .i ((g y2 7).int), .i ((g y2 8).int), .i ((g y2 9).int), .s (⟨#[]⟩ : ByteArray), .i 0, .s (⟨#[]⟩ : ByteArray), .s (⟨#[]⟩ : ByteArray), .l ((g y2 10).list), .l ((g y2 11).list), .l ((g y2 12).list), .l ((g y2 13).list), .l ((g y2 14).list), .l ((g y2 15).list), .l ((g y2 16).list)]) (
 (Lqby none [.i a0, .i a1, .l a2, .l a3, .i a4, .i a5, .i a6, .i a7, .l a8, .l a9, .l a10, .i a11, .l a12, .l a13, .i a14, .i a15, .i a16]).bind fun y7 =>
 (Lqx none [.i a17, .s a18, .s a19, .i a20, .s a21, .l a22, .i a0]).bind fun y8 =>
 cond (decide (((g y7 11).list).length + ([[.s ((g y8 0).str)]] : Rw).length ≤ most)) (
 (Lqr none [.i ((g y5 1).int), .i ((g y5 2).int), .i ((g y5 3).int), .i ((g y5 4).int), .l ((g y5 5).list), .l ((g y5 6).list), .l ((g y5 11).list)]).bind fun y9 =>
 cond (a17 == 1) (
 Lqp (some 25) [.s ((g y5 7).str), .i 0, .i 0, .i 0, .i 0, .i 0, .i 0, .i 0, .i 0, .i 0, .i 0, .i 0, .s (⟨#[]⟩ : ByteArray), .i 0, .s (⟨#[]⟩ : ByteArray), .s (⟨#[]⟩ : ByteArray), .i ((g y5 0).int), .i ((g y5 1).int), .i ((g y5 2).int), .i ((g y5 3).int), .i ((g y5 4).int), .l ((g y5 5).list), .l ((g y5 6).list), .s ((g y5 7).str), .i ((g y5 8).int), .s ((g y5 9).str), .s ((g y5 10).str), .i ((g y7 0).int), .i ((g y7 1).int), .i ((g y9 0).int), .i ((g y9 1).int), .i ((g y9 2).int), .i ((g y9 3).int), .i ((g y7 6).int), .i ((g y7 7).int), .i ((g y7 8).int), .i ((g y7 9).int), .l ((g y5 11).list), .l ((g y7 10).list), .l ((g y7 11).list ++ ([[.s ((g y8 0).str)]] : Rw)), .l ((g y9 4).list), .l ((g y9 5).list), .l ((g y9 6).list), .l ((g y7 15).list), .l ((g y7 16).list), .l [], .l [], .l [], .l [], .l [], .l [], .l []]) (
 Lqp (some 25) [.s a18, .i 0, .i 0, .i 0, .i 0, .i 0, .i 0, .i 0, .i 0, .i 0, .i 0, .i 0, .s (⟨#[]⟩ : ByteArray), .i 0, .s (⟨#[]⟩ : ByteArray), .s (⟨#[]⟩ : ByteArray), .i ((g y5 0).int), .i ((g y5 1).int), .i ((g y5 2).int), .i ((g y5 3).int), .i ((g y5 4).int), .l ((g y5 5).list), .l ((g y5 6).list), .s ((g y5 7).str), .i ((g y5 8).int), .s ((g y5 9).str), .s ((g y5 10).str), .i ((g y7 0).int), .i ((g y7 1).int), .i ((g y9 0).int), .i ((g y9 1).int), .i ((g y9 2).int), .i ((g y9 3).int), .i ((g y7 6).int), .i ((g y7 7).int), .i ((g y7 8).int), .i ((g y7 9).int), .l ((g y5 11).list), .l ((g y7 10).list), .l ((g y7 11).list ++ ([[.s ((g y8 0).str)]] : Rw)), .l ((g y9 4).list), .l ((g y9 5).list), .l ((g y9 6).list), .l ((g y7 15).list), .l ((g y7 16).list), .l [], .l [], .l [], .l [], .l [], .l [], .l []])) (
 none)))) (
 cond (decide (4000 ≤ (IntKind.i64.wrap ((a2.length : Int) + (a3.length : Int))))) (
 some [.i 9, .i ((g y2 0).int), .i ((g y2 1).int), .i ((g y2 2).int), .i ((g y2 3).int), .i ((g y2 4).int), .i ((g y2 5).int), .i ((g y2 6).int), .i ((g y2 7).int), .i ((g y2 8).int), .i ((g y2 9).int), .s (⟨#[]⟩ : ByteArray), .i 0, .s (⟨#[]⟩ : ByteArray), .s (⟨#[]⟩ : ByteArray), .l ((g y2 10).list), .l ((g y2 11).list), .l ((g y2 12).list), .l ((g y2 13).list), .l ((g y2 14).list), .l ((g y2 15).list), .l ((g y2 16).list)]) (
 (Lqby none [.i a0, .i a1, .l a2, .l a3, .i a4, .i a5, .i a6, .i a7, .l a8, .l a9, .l a10, .i a11, .l a12, .l a13, .i a14, .i a15, .i a16]).bind fun y10 =>
 (Lqx none [.i a17, .s a18, .s a19, .i a20, .s a21, .l a22, .i a0]).bind fun y11 =>
 cond (decide (((g y10 11).list).length + ([[.s ((g y11 0).str)]] : Rw).length ≤ most)) (
 (Lqr none [.i ((g y5 1).int), .i ((g y5 2).int), .i ((g y5 3).int), .i ((g y5 4).int), .l ((g y5 5).list), .l ((g y5 6).list), .l ((g y5 11).list)]).bind fun y12 =>
 cond (a17 == 1) (
 Lqp (some 25) [.s ((g y5 7).str), .i 0, .i 0, .i 0, .i 0, .i 0, .i 0, .i 0, .i 0, .i 0, .i 0, .i 0, .s (⟨#[]⟩ : ByteArray), .i 0, .s (⟨#[]⟩ : ByteArray), .s (⟨#[]⟩ : ByteArray), .i ((g y5 0).int), .i ((g y5 1).int), .i ((g y5 2).int), .i ((g y5 3).int), .i ((g y5 4).int), .l ((g y5 5).list), .l ((g y5 6).list), .s ((g y5 7).str), .i ((g y5 8).int), .s ((g y5 9).str), .s ((g y5 10).str), .i ((g y10 0).int), .i ((g y10 1).int), .i ((g y12 0).int), .i ((g y12 1).int), .i ((g y12 2).int), .i ((g y12 3).int), .i ((g y10 6).int), .i ((g y10 7).int), .i ((g y10 8).int), .i ((g y10 9).int), .l ((g y5 11).list), .l ((g y10 10).list), .l ((g y10 11).list ++ ([[.s ((g y11 0).str)]] : Rw)), .l ((g y12 4).list), .l ((g y12 5).list), .l ((g y12 6).list), .l ((g y10 15).list), .l ((g y10 16).list), .l [], .l [], .l [], .l [], .l [], .l [], .l []]) (
 Lqp (some 25) [.s a18, .i 0, .i 0, .i 0, .i 0, .i 0, .i 0, .i 0, .i 0, .i 0, .i 0, .i 0, .s (⟨#[]⟩ : ByteArray), .i 0, .s (⟨#[]⟩ : ByteArray), .s (⟨#[]⟩ : ByteArray), .i ((g y5 0).int), .i ((g y5 1).int), .i ((g y5 2).int), .i ((g y5 3).int), .i ((g y5 4).int), .l ((g y5 5).list), .l ((g y5 6).list), .s ((g y5 7).str), .i ((g y5 8).int), .s ((g y5 9).str), .s ((g y5 10).str), .i ((g y10 0).int), .i ((g y10 1).int), .i ((g y12 0).int), .i ((g y12 1).int), .i ((g y12 2).int), .i ((g y12 3).int), .i ((g y10 6).int), .i ((g y10 7).int), .i ((g y10 8).int), .i ((g y10 9).int), .l ((g y5 11).list), .l ((g y10 10).list), .l ((g y10 11).list ++ ([[.s ((g y11 0).str)]] : Rw)), .l ((g y12 4).list), .l ((g y12 5).list), .l ((g y12 6).list), .l ((g y10 15).list), .l ((g y10 16).list), .l [], .l [], .l [], .l [], .l [], .l [], .l []])) (
 none)))))) := (Lim_eq _ _).trans (by kernel_rfl)
theorem eqp_25 (a0 : ByteArray) (a1 a2 a3 a4 a5 a6 a7 a8 a9 a10 a11 : Int) (a12 : ByteArray) (a13 : Int) (a14 a15 : ByteArray) (a16 a17 a18 a19 a20 : Int) (a21 a22 : Rw) (a23 : ByteArray) (a24 : Int) (a25 a26 : ByteArray) (a27 a28 a29 a30 a31 a32 a33 a34 a35 a36 : Int) (a37 a38 a39 a40 a41 a42 a43 a44 a45 a46 a47 a48 a49 a50 a51 : Rw) : Lqp (some 25) [.s a0, .i a1, .i a2, .i a3, .i a4, .i a5, .i a6, .i a7, .i a8, .i a9, .i a10, .i a11, .s a12, .i a13, .s a14, .s a15, .i a16, .i a17, .i a18, .i a19, .i a20, .l a21, .l a22, .s a23, .i a24, .s a25, .s a26, .i a27, .i a28, .i a29, .i a30, .i a31, .i a32, .i a33, .i a34, .i a35, .i a36, .l a37, .l a38, .l a39, .l a40, .l a41, .l a42, .l a43, .l a44, .l a45, .l a46, .l a47, .l a48, .l a49, .l a50, .l a51] =
 cond (!Eng.seq a0 (⟨#[]⟩ : ByteArray)) (
 (Lqc0 none [.i a29, .i a30, .i a31, .i a32, .l a40, .l a41, .l a42, .i a33, .l a43, .l a44, .i a34, .i a35, .i a36, .s a0]).bind fun y1 =>
 some [.i 0, .i a27, .i a28, .i a29, .i a30, .i a31, .i a32, .i ((g y1 0).int), .i ((g y1 1).int), .i ((g y1 2).int), .i ((g y1 3).int), .s a23, .i a24, .s (⟨#[]⟩ : ByteArray), .s (⟨#[]⟩ : ByteArray), .l a38, .l a39, .l a40, .l a41, .l a42, .l ((g y1 4).list), .l ((g y1 5).list)]) (
 some [.i 0, .i a27, .i a28, .i a29, .i a30, .i a31, .i a32, .i a33, .i a34, .i a35, .i a36, .s a23, .i a24, .s (⟨#[]⟩ : ByteArray), .s (⟨#[]⟩ : ByteArray), .l a38, .l a39, .l a40, .l a41, .l a42, .l a43, .l a44]) := (Lim_eq _ _).trans (by kernel_rfl)
theorem kqp : SigOk Tryz.prog (dqp.sig (Lqp none)) ∧ (dqp.sig (Lqp none)).ok = true := sound_lim (known_cons kqw (by kernel_rfl) (known_cons kqx (by kernel_rfl) (known_cons kqr (by kernel_rfl) (known_cons kqcn (by kernel_rfl) (known_cons kqbl (by kernel_rfl) (known_cons kqby (by kernel_rfl) (known_cons kqcd (by kernel_rfl) (known_cons kqc0 (by kernel_rfl) known_nil)))))))) (by kernel_rfl) (by kernel_rfl) (by kernel_rfl)
def dqc1 : FD := { fn := 61, nb := 0, pre := ⟨[.ag [.i .i64 0, .i .i64 1, .fz 9 false 2, .fz 9 false 3, .i .i64 4, .i .i64 5, .i .i64 6, .i .i64 7, .fz 90 false 8, .fz 156 false 9, .fz 158 false 10, .i .i64 11, .fz 9 false 12, .fz 9 false 13, .i .i64 14, .i .i64 15, .i .i64 16], .ag [.s 17, .fz 9 false 18], .sc (.i .i64 19)], []⟩, post := ⟨[.ag [.i .i64 0, .i .i64 1, .i .i64 2, .ow 0, .ow 1, .i .i64 3, .i .i64 4, .i .i64 5, .i .i64 6, .ow 2, .ow 3, .ow 4, .i .i64 7, .ow 5, .ow 6, .i .i64 8, .i .i64 9, .i .i64 10, .s 11, .i .i64 12, .s 13, .s 14]], [.rw 9 true 15, .rw 9 true 16, .rw 90 true 17, .rw 156 true 18, .rw 158 true 19, .rw 9 true 20, .rw 9 true 21]⟩, sh := false, cuts := [] }
noncomputable def Lqc1 : Option Nat → Lv → Option Lv := Lim Tryz.prog [dqbv.sig (Lqbv none), dqp.sig (Lqp none)] dqc1 Tryz.f61
theorem eqc1_i (a0 a1 : Int) (a2 a3 : Rw) (a4 a5 a6 a7 : Int) (a8 a9 a10 : Rw) (a11 : Int) (a12 a13 : Rw) (a14 a15 a16 : Int) (a17 : ByteArray) (a18 : Rw) (a19 : Int) : Lqc1 none [.i a0, .i a1, .l a2, .l a3, .i a4, .i a5, .i a6, .i a7, .l a8, .l a9, .l a10, .i a11, .l a12, .l a13, .i a14, .i a15, .i a16, .s a17, .l a18, .i a19] =
 (Lqbv none [.s a17, .l a18]).bind fun y1 =>
 (Lqp none [.i a0, .i a1, .l a2, .l a3, .i a4, .i a5, .i a6, .i a7, .l a8, .l a9, .l a10, .i a11, .l a12, .l a13, .i a14, .i a15, .i a16, .i 1, .s (⟨#[]⟩ : ByteArray), .s (⟨#[]⟩ : ByteArray), .i a19, .s ((g y1 0).str), .l ((g y1 1).list)]).bind fun y2 =>
 some [.i ((g y2 0).int), .i ((g y2 1).int), .i ((g y2 2).int), .i ((g y2 3).int), .i ((g y2 4).int), .i ((g y2 5).int), .i ((g y2 6).int), .i ((g y2 7).int), .i ((g y2 8).int), .i ((g y2 9).int), .i ((g y2 10).int), .s ((g y2 11).str), .i ((g y2 12).int), .s ((g y2 13).str), .s ((g y2 14).str), .l ((g y2 15).list), .l ((g y2 16).list), .l ((g y2 17).list), .l ((g y2 18).list), .l ((g y2 19).list), .l ((g y2 20).list), .l ((g y2 21).list)] := (Lim_eq _ _).trans (by kernel_rfl)
theorem kqc1 : SigOk Tryz.prog (dqc1.sig (Lqc1 none)) ∧ (dqc1.sig (Lqc1 none)).ok = true := sound_lim (known_cons kqbv (by kernel_rfl) (known_cons kqp (by kernel_rfl) known_nil)) (by kernel_rfl) (by kernel_rfl) (by kernel_rfl)
def dqc2 : FD := { fn := 63, nb := 0, pre := ⟨[.ag [.i .i64 0, .i .i64 1, .fz 9 false 2, .fz 9 false 3, .i .i64 4, .i .i64 5, .i .i64 6, .i .i64 7, .fz 90 false 8, .fz 156 false 9, .fz 158 false 10, .i .i64 11, .fz 9 false 12, .fz 9 false 13, .i .i64 14, .i .i64 15, .i .i64 16], .sc (.s 17), .sc (.s 18)], []⟩, post := ⟨[.ag [.i .i64 0, .i .i64 1, .i .i64 2, .ow 0, .ow 1, .i .i64 3, .i .i64 4, .i .i64 5, .i .i64 6, .ow 2, .ow 3, .ow 4, .i .i64 7, .ow 5, .ow 6, .i .i64 8, .i .i64 9, .i .i64 10, .s 11, .i .i64 12, .s 13, .s 14]], [.rw 9 true 15, .rw 9 true 16, .rw 90 true 17, .rw 156 true 18, .rw 158 true 19, .rw 9 true 20, .rw 9 true 21]⟩, sh := false, cuts := [] }
noncomputable def Lqc2 : Option Nat → Lv → Option Lv := Lim Tryz.prog [dqp.sig (Lqp none)] dqc2 Tryz.f63
theorem eqc2_i (a0 a1 : Int) (a2 a3 : Rw) (a4 a5 a6 a7 : Int) (a8 a9 a10 : Rw) (a11 : Int) (a12 a13 : Rw) (a14 a15 a16 : Int) (a17 a18 : ByteArray) : Lqc2 none [.i a0, .i a1, .l a2, .l a3, .i a4, .i a5, .i a6, .i a7, .l a8, .l a9, .l a10, .i a11, .l a12, .l a13, .i a14, .i a15, .i a16, .s a17, .s a18] =
 (Lqp none [.i a0, .i a1, .l a2, .l a3, .i a4, .i a5, .i a6, .i a7, .l a8, .l a9, .l a10, .i a11, .l a12, .l a13, .i a14, .i a15, .i a16, .i 2, .s a18, .s a17, .i 0, .s (⟨#[]⟩ : ByteArray), .l ([])]).bind fun y1 =>
 some [.i ((g y1 0).int), .i ((g y1 1).int), .i ((g y1 2).int), .i ((g y1 3).int), .i ((g y1 4).int), .i ((g y1 5).int), .i ((g y1 6).int), .i ((g y1 7).int), .i ((g y1 8).int), .i ((g y1 9).int), .i ((g y1 10).int), .s ((g y1 11).str), .i ((g y1 12).int), .s ((g y1 13).str), .s ((g y1 14).str), .l ((g y1 15).list), .l ((g y1 16).list), .l ((g y1 17).list), .l ((g y1 18).list), .l ((g y1 19).list), .l ((g y1 20).list), .l ((g y1 21).list)] := (Lim_eq _ _).trans (by kernel_rfl)
theorem kqc2 : SigOk Tryz.prog (dqc2.sig (Lqc2 none)) ∧ (dqc2.sig (Lqc2 none)).ok = true := sound_lim (known_cons kqp (by kernel_rfl) known_nil) (by kernel_rfl) (by kernel_rfl) (by kernel_rfl)
def dqc3 : FD := { fn := 82, nb := 0, pre := ⟨[.ag [.i .i64 0, .i .i64 1, .fz 9 false 2, .fz 9 false 3, .i .i64 4, .i .i64 5, .i .i64 6, .i .i64 7, .fz 90 false 8, .fz 156 false 9, .fz 158 false 10, .i .i64 11, .fz 9 false 12, .fz 9 false 13, .i .i64 14, .i .i64 15, .i .i64 16], .sc (.s 17)], []⟩, post := ⟨[.ag [.i .i64 0, .i .i64 1, .i .i64 2, .ow 0, .ow 1, .i .i64 3, .i .i64 4, .i .i64 5, .i .i64 6, .ow 2, .ow 3, .ow 4, .i .i64 7, .ow 5, .ow 6, .i .i64 8, .i .i64 9, .i .i64 10, .s 11, .i .i64 12, .s 13, .s 14]], [.rw 9 true 15, .rw 9 true 16, .rw 90 true 17, .rw 156 true 18, .rw 158 true 19, .rw 9 true 20, .rw 9 true 21]⟩, sh := false, cuts := [] }
noncomputable def Lqc3 : Option Nat → Lv → Option Lv := Lim Tryz.prog [dqp.sig (Lqp none)] dqc3 Tryz.f82
theorem eqc3_i (a0 a1 : Int) (a2 a3 : Rw) (a4 a5 a6 a7 : Int) (a8 a9 a10 : Rw) (a11 : Int) (a12 a13 : Rw) (a14 a15 a16 : Int) (a17 : ByteArray) : Lqc3 none [.i a0, .i a1, .l a2, .l a3, .i a4, .i a5, .i a6, .i a7, .l a8, .l a9, .l a10, .i a11, .l a12, .l a13, .i a14, .i a15, .i a16, .s a17] =
 (Lqp none [.i a0, .i a1, .l a2, .l a3, .i a4, .i a5, .i a6, .i a7, .l a8, .l a9, .l a10, .i a11, .l a12, .l a13, .i a14, .i a15, .i a16, .i 3, .s (⟨#[]⟩ : ByteArray), .s a17, .i 0, .s (⟨#[]⟩ : ByteArray), .l ([])]).bind fun y1 =>
 some [.i ((g y1 0).int), .i ((g y1 1).int), .i ((g y1 2).int), .i ((g y1 3).int), .i ((g y1 4).int), .i ((g y1 5).int), .i ((g y1 6).int), .i ((g y1 7).int), .i ((g y1 8).int), .i ((g y1 9).int), .i ((g y1 10).int), .s ((g y1 11).str), .i ((g y1 12).int), .s ((g y1 13).str), .s ((g y1 14).str), .l ((g y1 15).list), .l ((g y1 16).list), .l ((g y1 17).list), .l ((g y1 18).list), .l ((g y1 19).list), .l ((g y1 20).list), .l ((g y1 21).list)] := (Lim_eq _ _).trans (by kernel_rfl)
theorem kqc3 : SigOk Tryz.prog (dqc3.sig (Lqc3 none)) ∧ (dqc3.sig (Lqc3 none)).ok = true := sound_lim (known_cons kqp (by kernel_rfl) known_nil) (by kernel_rfl) (by kernel_rfl) (by kernel_rfl)
def dqc4 : FD := { fn := 83, nb := 0, pre := ⟨[.ag [.i .i64 0, .i .i64 1, .fz 9 false 2, .fz 9 false 3, .i .i64 4, .i .i64 5, .i .i64 6, .i .i64 7, .fz 90 false 8, .fz 156 false 9, .fz 158 false 10, .i .i64 11, .fz 9 false 12, .fz 9 false 13, .i .i64 14, .i .i64 15, .i .i64 16], .sc (.s 17), .sc (.i .i64 18)], []⟩, post := ⟨[.ag [.i .i64 0, .i .i64 1, .i .i64 2, .ow 0, .ow 1, .i .i64 3, .i .i64 4, .i .i64 5, .i .i64 6, .ow 2, .ow 3, .ow 4, .i .i64 7, .ow 5, .ow 6, .i .i64 8, .i .i64 9, .i .i64 10, .s 11, .i .i64 12, .s 13, .s 14]], [.rw 9 true 15, .rw 9 true 16, .rw 90 true 17, .rw 156 true 18, .rw 158 true 19, .rw 9 true 20, .rw 9 true 21]⟩, sh := false, cuts := [] }
noncomputable def Lqc4 : Option Nat → Lv → Option Lv := Lim Tryz.prog [dqp.sig (Lqp none)] dqc4 Tryz.f83
theorem eqc4_i (a0 a1 : Int) (a2 a3 : Rw) (a4 a5 a6 a7 : Int) (a8 a9 a10 : Rw) (a11 : Int) (a12 a13 : Rw) (a14 a15 a16 : Int) (a17 : ByteArray) (a18 : Int) : Lqc4 none [.i a0, .i a1, .l a2, .l a3, .i a4, .i a5, .i a6, .i a7, .l a8, .l a9, .l a10, .i a11, .l a12, .l a13, .i a14, .i a15, .i a16, .s a17, .i a18] =
 (Lqp none [.i a0, .i a1, .l a2, .l a3, .i a4, .i a5, .i a6, .i a7, .l a8, .l a9, .l a10, .i a11, .l a12, .l a13, .i a14, .i a15, .i a16, .i 4, .s a17, .s (⟨#[]⟩ : ByteArray), .i a18, .s (⟨#[]⟩ : ByteArray), .l ([])]).bind fun y1 =>
 some [.i ((g y1 0).int), .i ((g y1 1).int), .i ((g y1 2).int), .i ((g y1 3).int), .i ((g y1 4).int), .i ((g y1 5).int), .i ((g y1 6).int), .i ((g y1 7).int), .i ((g y1 8).int), .i ((g y1 9).int), .i ((g y1 10).int), .s ((g y1 11).str), .i ((g y1 12).int), .s ((g y1 13).str), .s ((g y1 14).str), .l ((g y1 15).list), .l ((g y1 16).list), .l ((g y1 17).list), .l ((g y1 18).list), .l ((g y1 19).list), .l ((g y1 20).list), .l ((g y1 21).list)] := (Lim_eq _ _).trans (by kernel_rfl)
theorem kqc4 : SigOk Tryz.prog (dqc4.sig (Lqc4 none)) ∧ (dqc4.sig (Lqc4 none)).ok = true := sound_lim (known_cons kqp (by kernel_rfl) known_nil) (by kernel_rfl) (by kernel_rfl) (by kernel_rfl)
def dqc5 : FD := { fn := 84, nb := 0, pre := ⟨[.ag [.i .i64 0, .i .i64 1, .fz 9 false 2, .fz 9 false 3, .i .i64 4, .i .i64 5, .i .i64 6, .i .i64 7, .fz 90 false 8, .fz 156 false 9, .fz 158 false 10, .i .i64 11, .fz 9 false 12, .fz 9 false 13, .i .i64 14, .i .i64 15, .i .i64 16], .sc (.i .i64 17)], []⟩, post := ⟨[.ag [.i .i64 0, .i .i64 1, .i .i64 2, .ow 0, .ow 1, .i .i64 3, .i .i64 4, .i .i64 5, .i .i64 6, .ow 2, .ow 3, .ow 4, .i .i64 7, .ow 5, .ow 6, .i .i64 8, .i .i64 9, .i .i64 10, .s 11, .i .i64 12, .s 13, .s 14]], [.rw 9 true 15, .rw 9 true 16, .rw 90 true 17, .rw 156 true 18, .rw 158 true 19, .rw 9 true 20, .rw 9 true 21]⟩, sh := false, cuts := [] }
noncomputable def Lqc5 : Option Nat → Lv → Option Lv := Lim Tryz.prog [dqp.sig (Lqp none)] dqc5 Tryz.f84
theorem eqc5_i (a0 a1 : Int) (a2 a3 : Rw) (a4 a5 a6 a7 : Int) (a8 a9 a10 : Rw) (a11 : Int) (a12 a13 : Rw) (a14 a15 a16 a17 : Int) : Lqc5 none [.i a0, .i a1, .l a2, .l a3, .i a4, .i a5, .i a6, .i a7, .l a8, .l a9, .l a10, .i a11, .l a12, .l a13, .i a14, .i a15, .i a16, .i a17] =
 (Lqp none [.i a0, .i a1, .l a2, .l a3, .i a4, .i a5, .i a6, .i a7, .l a8, .l a9, .l a10, .i a11, .l a12, .l a13, .i a14, .i a15, .i a16, .i 5, .s (⟨#[]⟩ : ByteArray), .s (⟨#[]⟩ : ByteArray), .i a17, .s (⟨#[]⟩ : ByteArray), .l ([])]).bind fun y1 =>
 some [.i ((g y1 0).int), .i ((g y1 1).int), .i ((g y1 2).int), .i ((g y1 3).int), .i ((g y1 4).int), .i ((g y1 5).int), .i ((g y1 6).int), .i ((g y1 7).int), .i ((g y1 8).int), .i ((g y1 9).int), .i ((g y1 10).int), .s ((g y1 11).str), .i ((g y1 12).int), .s ((g y1 13).str), .s ((g y1 14).str), .l ((g y1 15).list), .l ((g y1 16).list), .l ((g y1 17).list), .l ((g y1 18).list), .l ((g y1 19).list), .l ((g y1 20).list), .l ((g y1 21).list)] := (Lim_eq _ _).trans (by kernel_rfl)
theorem kqc5 : SigOk Tryz.prog (dqc5.sig (Lqc5 none)) ∧ (dqc5.sig (Lqc5 none)).ok = true := sound_lim (known_cons kqp (by kernel_rfl) known_nil) (by kernel_rfl) (by kernel_rfl) (by kernel_rfl)
def dqc6 : FD := { fn := 85, nb := 0, pre := ⟨[.ag [.i .i64 0, .i .i64 1, .fz 9 false 2, .fz 9 false 3, .i .i64 4, .i .i64 5, .i .i64 6, .i .i64 7, .fz 90 false 8, .fz 156 false 9, .fz 158 false 10, .i .i64 11, .fz 9 false 12, .fz 9 false 13, .i .i64 14, .i .i64 15, .i .i64 16], .sc (.i .i64 17)], []⟩, post := ⟨[.ag [.i .i64 0, .i .i64 1, .i .i64 2, .ow 0, .ow 1, .i .i64 3, .i .i64 4, .i .i64 5, .i .i64 6, .ow 2, .ow 3, .ow 4, .i .i64 7, .ow 5, .ow 6, .i .i64 8, .i .i64 9, .i .i64 10, .s 11, .i .i64 12, .s 13, .s 14]], [.rw 9 true 15, .rw 9 true 16, .rw 90 true 17, .rw 156 true 18, .rw 158 true 19, .rw 9 true 20, .rw 9 true 21]⟩, sh := false, cuts := [] }
noncomputable def Lqc6 : Option Nat → Lv → Option Lv := Lim Tryz.prog [dqp.sig (Lqp none)] dqc6 Tryz.f85
theorem eqc6_i (a0 a1 : Int) (a2 a3 : Rw) (a4 a5 a6 a7 : Int) (a8 a9 a10 : Rw) (a11 : Int) (a12 a13 : Rw) (a14 a15 a16 a17 : Int) : Lqc6 none [.i a0, .i a1, .l a2, .l a3, .i a4, .i a5, .i a6, .i a7, .l a8, .l a9, .l a10, .i a11, .l a12, .l a13, .i a14, .i a15, .i a16, .i a17] =
 (Lqp none [.i a0, .i a1, .l a2, .l a3, .i a4, .i a5, .i a6, .i a7, .l a8, .l a9, .l a10, .i a11, .l a12, .l a13, .i a14, .i a15, .i a16, .i 6, .s (⟨#[]⟩ : ByteArray), .s (⟨#[]⟩ : ByteArray), .i a17, .s (⟨#[]⟩ : ByteArray), .l ([])]).bind fun y1 =>
 some [.i ((g y1 0).int), .i ((g y1 1).int), .i ((g y1 2).int), .i ((g y1 3).int), .i ((g y1 4).int), .i ((g y1 5).int), .i ((g y1 6).int), .i ((g y1 7).int), .i ((g y1 8).int), .i ((g y1 9).int), .i ((g y1 10).int), .s ((g y1 11).str), .i ((g y1 12).int), .s ((g y1 13).str), .s ((g y1 14).str), .l ((g y1 15).list), .l ((g y1 16).list), .l ((g y1 17).list), .l ((g y1 18).list), .l ((g y1 19).list), .l ((g y1 20).list), .l ((g y1 21).list)] := (Lim_eq _ _).trans (by kernel_rfl)
theorem kqc6 : SigOk Tryz.prog (dqc6.sig (Lqc6 none)) ∧ (dqc6.sig (Lqc6 none)).ok = true := sound_lim (known_cons kqp (by kernel_rfl) known_nil) (by kernel_rfl) (by kernel_rfl) (by kernel_rfl)
def dqbn : FD := { fn := 208, nb := 0, pre := ⟨[.ag [.i .i64 0, .i .i64 1, .i .i64 2, .i .i64 3, .fz 90 false 4, .fz 156 false 5, .fz 158 false 6], .sc (.i .i64 7)], []⟩, post := ⟨[.sc (.i .i64 0)], []⟩, sh := false, cuts := [⟨3, [1, 2, 5, 6], ⟨[.sc (.i .i64 0), .sc (.pt 0 0), .sc (.i .i64 1), .sc (.i .i64 2)], [.bx [.i .i64 3, .i .i64 4, .i .i64 5, .i .i64 6, .fz 90 false 7, .fz 156 false 8, .fz 158 false 9]]⟩⟩] }
noncomputable def Lqbn : Option Nat → Lv → Option Lv := Lim Tryz.prog [] dqbn Tryz.f208
theorem eqbn_i (a0 a1 a2 a3 : Int) (a4 a5 a6 : Rw) (a7 : Int) : Lqbn none [.i a0, .i a1, .i a2, .i a3, .l a4, .l a5, .l a6, .i a7] =
 Lqbn (some 3) [.i a7, .i (-1), .i 0, .i a0, .i a1, .i a2, .i a3, .l a4, .l a5, .l a6] := (Lim_eq _ _).trans (by kernel_rfl)
theorem eqbn_3 (a0 a1 a2 a3 a4 a5 a6 : Int) (a7 a8 a9 : Rw) : Lqbn (some 3) [.i a0, .i a1, .i a2, .i a3, .i a4, .i a5, .i a6, .l a7, .l a8, .l a9] =
 cond (decide (a2 < (a7.length : Int))) (
 cond (inb a2 a7.length) (
 cond (decide ((rd a7 a2.toNat 1).int < a0)) (
 cond (decide (a1 < 0)) (
 Lqbn (some 3) [.i a0, .i a2, .i (IntKind.i64.wrap (a2 + 1)), .i a3, .i a4, .i a5, .i a6, .l a7, .l a8, .l a9]) (
 cond (inb a2 a7.length) (
 cond (inb a1 a7.length) (
 cond (decide ((rd a7 a1.toNat 1).int < (rd a7 a2.toNat 1).int)) (
 Lqbn (some 3) [.i a0, .i a2, .i (IntKind.i64.wrap (a2 + 1)), .i a3, .i a4, .i a5, .i a6, .l a7, .l a8, .l a9]) (
 Lqbn (some 3) [.i a0, .i a1, .i (IntKind.i64.wrap (a2 + 1)), .i a3, .i a4, .i a5, .i a6, .l a7, .l a8, .l a9])) (
 none)) (
 none))) (
 Lqbn (some 3) [.i a0, .i a1, .i (IntKind.i64.wrap (a2 + 1)), .i a3, .i a4, .i a5, .i a6, .l a7, .l a8, .l a9])) (
 none)) (
 some [.i a1]) := (Lim_eq _ _).trans (by kernel_rfl)
theorem kqbn : SigOk Tryz.prog (dqbn.sig (Lqbn none)) ∧ (dqbn.sig (Lqbn none)).ok = true := sound_lim known_nil (by kernel_rfl) (by kernel_rfl) (by kernel_rfl)
end KV
end
section
set_option maxRecDepth 100000
namespace KV
open Go Go.Eng Go.Proofs
def dqbb : FD := { fn := 183, nb := 0, pre := ⟨[.ag [.i .i64 0, .i .i64 1, .i .i64 2, .i .i64 3, .fz 90 false 4, .fz 156 false 5, .fz 158 false 6], .sc (.s 7)], []⟩, post := ⟨[.ag [.i .i64 0, .i .i64 1, .i .i64 2, .i .i64 3, .i .i64 4, .ow 0, .fz 156 false 5, .fz 158 false 6, .s 7, .i .i64 8, .s 9, .s 10]], [.rw 90 false 11]⟩, sh := true, cuts := [⟨7, [1, 2, 4, 5, 6], ⟨[.sc (.s 0), .sc (.pt 0 0), .sc (.pt 1 0), .sc (.ow 2), .sc (.i .i64 1)], [.bx [.i .i64 2, .i .i64 3, .i .i64 4, .i .i64 5, .fz 90 false 6, .fz 156 false 7, .fz 158 false 8], .bx [.i .i64 9, .i .i64 10, .i .i64 11, .i .i64 12, .i .i64 13, .ow 3, .ow 4, .ow 5, .s 14, .i .i64 15, .s 16, .s 17], .rw 90 false 18, .rw 90 true 19, .rw 156 true 20, .rw 158 true 21]⟩⟩] }
noncomputable def Lqbb : Option Nat → Lv → Option Lv := Lim Tryz.prog [dqe.sig (Lqe none), dqi.sig (Lqi none), dqy.sig (Lqy none)] dqbb Tryz.f183
theorem eqbb_i (a0 a1 a2 a3 : Int) (a4 a5 a6 : Rw) (a7 : ByteArray) : Lqbb none [.i a0, .i a1, .i a2, .i a3, .l a4, .l a5, .l a6, .s a7] =
 (Lqe none [.i a0, .i a1, .i a2, .i a3, .l a4, .l a5, .l a6, .s a7]).bind fun y1 =>
 cond (decide ((g y1 0).int < 0)) (
 some [.i 2, .i 0, .i 0, .i 0, .i 0, .l ([]), .l ([]), .s (⟨#[]⟩ : ByteArray), .i 0, .s (⟨#[]⟩ : ByteArray), .s (⟨#[]⟩ : ByteArray), .l []]) (
 (Lqy none [.i a0, .i a1, .i a2, .i a3, .l a4, .l a5, .l a6, .s a7]).bind fun y2 =>
 cond ((g y2 0).bool) (
 some [.i 6, .i 0, .i 0, .i 0, .i 0, .l ([]), .l ([]), .s (⟨#[]⟩ : ByteArray), .i 0, .s (⟨#[]⟩ : ByteArray), .s (⟨#[]⟩ : ByteArray), .l []]) (
 Lqbb (some 7) [.s a7, .i 0, .i a0, .i a1, .i a2, .i a3, .l a4, .l a5, .l a6, .i 0, .i 0, .i 0, .i 0, .i 0, .s (⟨#[]⟩ : ByteArray), .i 0, .s (⟨#[]⟩ : ByteArray), .s (⟨#[]⟩ : ByteArray), .l ([] : Rw), .l [], .l [], .l []])) := (Lim_eq _ _).trans (by kernel_rfl)
theorem eqbb_7 (a0 : ByteArray) (a1 a2 a3 a4 a5 : Int) (a6 a7 a8 : Rw) (a9 a10 a11 a12 a13 : Int) (a14 : ByteArray) (a15 : Int) (a16 a17 : ByteArray) (a18 a19 a20 a21 : Rw) : Lqbb (some 7) [.s a0, .i a1, .i a2, .i a3, .i a4, .i a5, .l a6, .l a7, .l a8, .i a9, .i a10, .i a11, .i a12, .i a13, .s a14, .i a15, .s a16, .s a17, .l a18, .l a19, .l a20, .l a21] =
 cond (decide (a1 < (a6.length : Int))) (
 cond (inb a1 a6.length) (
 (Lqi none [.l ((rd a6 a1.toNat 3).list), .s a0]).bind fun y1 =>
 cond ((g y1 0).bool) (
 some [.i 6, .i 0, .i 0, .i 0, .i 0, .l ([]), .l ([]), .s (⟨#[]⟩ : ByteArray), .i 0, .s (⟨#[]⟩ : ByteArray), .s (⟨#[]⟩ : ByteArray), .l []]) (
 cond (inb a1 a6.length) (
 cond (!Eng.seq ((rd a6 a1.toNat 0).str) a0) (
 cond (inb a1 a6.length) (
 cond (decide (a18.length + ([[.s ((rd a6 a1.toNat 0).str), .i ((rd a6 a1.toNat 1).int), .s ((rd a6 a1.toNat 2).str), .l ((rd a6 a1.toNat 3).list)]] : Rw).length ≤ most)) (
 Lqbb (some 7) [.s a0, .i (IntKind.i64.wrap (a1 + 1)), .i a2, .i a3, .i a4, .i a5, .l a6, .l a7, .l a8, .i a9, .i a10, .i a11, .i a12, .i a13, .s a14, .i a15, .s a16, .s a17, .l (a18 ++ ([[.s ((rd a6 a1.toNat 0).str), .i ((rd a6 a1.toNat 1).int), .s ((rd a6 a1.toNat 2).str), .l ((rd a6 a1.toNat 3).list)]] : Rw)), .l a19, .l a20, .l a21]) (
 none)) (
 none)) (
 Lqbb (some 7) [.s a0, .i (IntKind.i64.wrap (a1 + 1)), .i a2, .i a3, .i a4, .i a5, .l a6, .l a7, .l a8, .i a9, .i a10, .i a11, .i a12, .i a13, .s a14, .i a15, .s a16, .s a17, .l a18, .l a19, .l a20, .l a21])) (
 none))) (
 none)) (
 some [.i 0, .i a2, .i a3, .i a4, .i a5, .l a7, .l a8, .s (⟨#[]⟩ : ByteArray), .i 0, .s (⟨#[]⟩ : ByteArray), .s (⟨#[]⟩ : ByteArray), .l a18]) := (Lim_eq _ _).trans (by kernel_rfl)
theorem kqbb : SigOk Tryz.prog (dqbb.sig (Lqbb none)) ∧ (dqbb.sig (Lqbb none)).ok = true := sound_lim (known_cons kqe (by kernel_rfl) (known_cons kqi (by kernel_rfl) (known_cons kqy (by kernel_rfl) known_nil))) (by kernel_rfl) (by kernel_rfl) (by kernel_rfl)
def dqbk : FD := { fn := 157, nb := 0, pre := ⟨[.ag [.i .i64 0, .i .i64 1, .i .i64 2, .i .i64 3, .fz 90 false 4, .fz 156 false 5, .fz 158 false 6], .ag [.i .i64 7, .fz 9 false 8, .fz 9 false 9, .i .i64 10, .i .i64 11, .i .i64 12]], []⟩, post := ⟨[.ag [.i .i64 0, .i .i64 1, .i .i64 2, .i .i64 3, .i .i64 4, .fz 90 false 5, .fz 156 false 6, .fz 158 false 7, .i .i64 8, .fz 9 false 9, .fz 9 false 10, .i .i64 11, .i .i64 12, .i .i64 13, .ow 0]], [.rw 9 true 14]⟩, sh := true, cuts := [⟨15, [2, 3, 4, 6, 8, 9], ⟨[.sc (.pt 0 0), .sc (.pt 1 0), .sc (.pt 2 0), .sc (.ow 3), .sc (.fz 9 false 0), .sc (.i .i64 1)], [.bx [.i .i64 2, .i .i64 3, .i .i64 4, .i .i64 5, .fz 90 false 6, .fz 156 false 7, .fz 158 false 8], .bx [.i .i64 9, .fz 9 false 10, .ow 4, .i .i64 11, .i .i64 12, .i .i64 13], .bx [.i .i64 14, .i .i64 15, .i .i64 16, .i .i64 17, .i .i64 18, .ow 5, .ow 6, .ow 7, .i .i64 19, .ow 8, .ow 9, .i .i64 20, .i .i64 21, .i .i64 22, .ow 10], .rw 9 true 23, .rw 9 true 24, .rw 90 true 25, .rw 156 true 26, .rw 158 true 27, .rw 9 true 28, .rw 9 true 29, .rw 9 true 30]⟩⟩] }
noncomputable def Lqbk : Option Nat → Lv → Option Lv := Lim Tryz.prog [dqe.sig (Lqe none), dqi.sig (Lqi none), dq0.sig (Lq0 none), dqbn.sig (Lqbn none), dqbb.sig (Lqbb none)] dqbk Tryz.f157
theorem eqbk_i (a0 a1 a2 a3 : Int) (a4 a5 a6 : Rw) (a7 : Int) (a8 a9 : Rw) (a10 a11 a12 : Int) : Lqbk none [.i a0, .i a1, .i a2, .i a3, .l a4, .l a5, .l a6, .i a7, .l a8, .l a9, .i a10, .i a11, .i a12] =
 cond (a7 == 0) (
 (Lq0 none [.i a0, .i a1, .i a2, .i a3, .l a4, .l a5, .l a6]).bind fun y1 =>
 some [.i 0, .i a0, .i a1, .i a2, .i a3, .l a4, .l a5, .l a6, .i 1, .l ((g y1 0).list), .l a9, .i a3, .i (IntKind.i64.wrap (a3 + 1)), .i a12, .l []]) (
 cond (decide (0 < (a8.length : Int))) (
 cond (inb 0 a8.length) (
 cond (decide (1 ≤ (a8.length : Int))) (
 cond (decide (([] : Rw).length + (Eng.sub a8 1 a8.length).length ≤ most)) (
 (Lqe none [.i a0, .i a1, .i a2, .i a3, .l a4, .l a5, .l a6, .s ((rd a8 0 0).str)]).bind fun y2 =>
 cond (decide (0 ≤ (g y2 0).int)) (
 (Lqi none [.l a9, .s ((rd a8 0 0).str)]).bind fun y3 =>
 cond (!(g y3 0).bool) (
 cond (decide (([] : Rw).length + a9.length ≤ most)) (
 cond (decide ((([] : Rw) ++ a9).length + ([[.s ((rd a8 0 0).str)]] : Rw).length ≤ most)) (
 cond (inb ((g y2 0).int) a4.length) (
 Lqbk (some 15) [.l ((rd a4 (((g y2 0).int).toNat) 3).list), .i 0, .i a0, .i a1, .i a2, .i a3, .l a4, .l a5, .l a6, .i a7, .l a8, .i a10, .i a11, .i a12, .i 0, .i 0, .i 0, .i 0, .i 0, .i 0, .i 0, .i 0, .i 0, .l (([] : Rw) ++ (Eng.sub a8 1 a8.length)), .l ((([] : Rw) ++ a9) ++ ([[.s ((rd a8 0 0).str)]] : Rw)), .l [], .l [], .l [], .l [], .l [], .l []]) (
 none)) (
 none)) (
 none)) (
 some [.i 0, .i a0, .i a1, .i a2, .i a3, .l a4, .l a5, .l a6, .i a7, .l (([] : Rw) ++ (Eng.sub a8 1 a8.length)), .l a9, .i a10, .i a11, .i a12, .l []])) (
 some [.i 0, .i a0, .i a1, .i a2, .i a3, .l a4, .l a5, .l a6, .i a7, .l (([] : Rw) ++ (Eng.sub a8 1 a8.length)), .l a9, .i a10, .i a11, .i a12, .l []])) (
 none)) (
 none)) (
 none)) (
 (Lqbn none [.i a0, .i a1, .i a2, .i a3, .l a4, .l a5, .l a6, .i a11]).bind fun y4 =>
 cond (decide ((g y4 0).int < 0)) (
 some [.i 0, .i a0, .i a1, .i a2, .i a3, .l a4, .l a5, .l a6, .i 0, .l ([]), .l ([]), .i 0, .i 0, .i (IntKind.i64.wrap (a12 + 1)), .l []]) (
 cond (inb ((g y4 0).int) a4.length) (
 cond (inb ((g y4 0).int) a4.length) (
 (Lqi none [.l a9, .s ((rd a4 (((g y4 0).int).toNat) 0).str)]).bind fun y5 =>
 cond ((g y5 0).bool) (
 some [.i 0, .i a0, .i a1, .i a2, .i a3, .l a4, .l a5, .l a6, .i 2, .l a8, .l a9, .i a10, .i ((rd a4 (((g y4 0).int).toNat) 1).int), .i a12, .l []]) (
 (Lqbb none [.i a0, .i a1, .i a2, .i a3, .l a4, .l a5, .l a6, .s ((rd a4 (((g y4 0).int).toNat) 0).str)]).bind fun y6 =>
 cond ((g y6 0).int != 0) (
 some [.i 0, .i a0, .i a1, .i a2, .i a3, .l a4, .l a5, .l a6, .i 2, .l a8, .l a9, .i a10, .i ((rd a4 (((g y4 0).int).toNat) 1).int), .i a12, .l []]) (
 some [.i 0, .i ((g y6 1).int), .i ((g y6 2).int), .i ((g y6 3).int), .i ((g y6 4).int), .l ((g y6 11).list), .l ((g y6 5).list), .l ((g y6 6).list), .i 2, .l a8, .l a9, .i a10, .i ((rd a4 (((g y4 0).int).toNat) 1).int), .i a12, .l ([[.s ((rd a4 (((g y4 0).int).toNat) 0).str)]] : Rw)]))) (
 none)) (
 none)))) := (Lim_eq _ _).trans (by kernel_rfl)
theorem eqbk_15 (a0 : Rw) (a1 a2 a3 a4 a5 : Int) (a6 a7 a8 : Rw) (a9 : Int) (a10 : Rw) (a11 a12 a13 a14 a15 a16 a17 a18 a19 a20 a21 a22 : Int) (a23 a24 a25 a26 a27 a28 a29 a30 : Rw) : Lqbk (some 15) [.l a0, .i a1, .i a2, .i a3, .i a4, .i a5, .l a6, .l a7, .l a8, .i a9, .l a10, .i a11, .i a12, .i a13, .i a14, .i a15, .i a16, .i a17, .i a18, .i a19, .i a20, .i a21, .i a22, .l a23, .l a24, .l a25, .l a26, .l a27, .l a28, .l a29, .l a30] =
 cond (decide (a1 < (a0.length : Int))) (
 cond (inb a1 a0.length) (
 (Lqi none [.l a24, .s ((rd a0 a1.toNat 0).str)]).bind fun y1 =>
 cond (!(g y1 0).bool) (
 cond (inb a1 a0.length) (
 cond (decide (a23.length + ([[.s ((rd a0 a1.toNat 0).str)]] : Rw).length ≤ most)) (
 Lqbk (some 15) [.l a0, .i (IntKind.i64.wrap (a1 + 1)), .i a2, .i a3, .i a4, .i a5, .l a6, .l a7, .l a8, .i a9, .l a10, .i a11, .i a12, .i a13, .i a14, .i a15, .i a16, .i a17, .i a18, .i a19, .i a20, .i a21, .i a22, .l (a23 ++ ([[.s ((rd a0 a1.toNat 0).str)]] : Rw)), .l a24, .l a25, .l a26, .l a27, .l a28, .l a29, .l a30]) (
 none)) (
 none)) (
 Lqbk (some 15) [.l a0, .i (IntKind.i64.wrap (a1 + 1)), .i a2, .i a3, .i a4, .i a5, .l a6, .l a7, .l a8, .i a9, .l a10, .i a11, .i a12, .i a13, .i a14, .i a15, .i a16, .i a17, .i a18, .i a19, .i a20, .i a21, .i a22, .l a23, .l a24, .l a25, .l a26, .l a27, .l a28, .l a29, .l a30])) (
 none)) (
 some [.i 0, .i a2, .i a3, .i a4, .i a5, .l a6, .l a7, .l a8, .i a9, .l a23, .l a24, .i a11, .i a12, .i a13, .l []]) := (Lim_eq _ _).trans (by kernel_rfl)
theorem kqbk : SigOk Tryz.prog (dqbk.sig (Lqbk none)) ∧ (dqbk.sig (Lqbk none)).ok = true := sound_lim (known_cons kqe (by kernel_rfl) (known_cons kqi (by kernel_rfl) (known_cons kq0 (by kernel_rfl) (known_cons kqbn (by kernel_rfl) (known_cons kqbb (by kernel_rfl) known_nil))))) (by kernel_rfl) (by kernel_rfl) (by kernel_rfl)
def dqce : FD := { fn := 93, nb := 0, pre := ⟨[.ag [.i .i64 0, .i .i64 1, .fz 9 false 2, .fz 9 false 3, .i .i64 4, .i .i64 5, .i .i64 6, .i .i64 7, .fz 90 false 8, .fz 156 false 9, .fz 158 false 10, .i .i64 11, .fz 9 false 12, .fz 9 false 13, .i .i64 14, .i .i64 15, .i .i64 16], .sc (.i .i64 17)], []⟩, post := ⟨[.ag [.i .i64 0, .i .i64 1, .i .i64 2, .ow 0, .ow 1, .i .i64 3, .i .i64 4, .i .i64 5, .i .i64 6, .ow 2, .ow 3, .ow 4, .i .i64 7, .ow 5, .ow 6, .i .i64 8, .i .i64 9, .i .i64 10, .i .i64 11, .ow 7]], [.rw 9 true 12, .rw 9 true 13, .rw 90 true 14, .rw 156 true 15, .rw 158 true 16, .rw 9 true 17, .rw 9 true 18, .rw 9 true 19]⟩, sh := false, cuts := [⟨4, [1, 2, 4, 5], ⟨[.sc (.i .i64 0), .sc (.pt 0 0), .sc (.pt 1 0), .sc (.pt 2 0)], [.bx [.i .i64 1, .i .i64 2, .fz 9 false 3, .fz 9 false 4, .i .i64 5, .i .i64 6, .i .i64 7, .i .i64 8, .fz 90 false 9, .fz 156 false 10, .fz 158 false 11, .i .i64 12, .fz 9 false 13, .fz 9 false 14, .i .i64 15, .i .i64 16, .i .i64 17], .bx [.i .i64 18, .i .i64 19, .i .i64 20, .ow 3, .ow 4, .i .i64 21, .i .i64 22, .i .i64 23, .i .i64 24, .ow 5, .ow 6, .ow 7, .i .i64 25, .ow 8, .ow 9, .i .i64 26, .i .i64 27, .i .i64 28, .i .i64 29, .ow 10], .bx [.i .i64 30, .i .i64 31, .i .i64 32, .ow 11, .ow 12, .i .i64 33, .i .i64 34, .i .i64 35, .i .i64 36, .fz 90 true 37, .fz 156 true 38, .fz 158 true 39, .i .i64 40, .fz 9 true 41, .fz 9 true 42, .i .i64 43, .i .i64 44, .i .i64 45, .i .i64 46, .ow 13], .rw 9 true 47, .rw 9 true 48, .rw 90 true 49, .rw 156 true 50, .rw 158 true 51, .rw 9 true 52, .rw 9 true 53, .rw 9 true 54, .rw 9 true 55, .rw 9 true 56, .rw 9 true 57]⟩⟩] }
noncomputable def Lqce : Option Nat → Lv → Option Lv := Lim Tryz.prog [dqx.sig (Lqx none), dqz.sig (Lqz none), dqbl.sig (Lqbl none), dqby.sig (Lqby none), dqbk.sig (Lqbk none)] dqce Tryz.f93
theorem eqce_i (a0 a1 : Int) (a2 a3 : Rw) (a4 a5 a6 a7 : Int) (a8 a9 a10 : Rw) (a11 : Int) (a12 a13 : Rw) (a14 a15 a16 a17 : Int) : Lqce none [.i a0, .i a1, .l a2, .l a3, .i a4, .i a5, .i a6, .i a7, .l a8, .l a9, .l a10, .i a11, .l a12, .l a13, .i a14, .i a15, .i a16, .i a17] =
 (Lqbl none [.i a0, .i a1, .l a2, .l a3, .i a4, .i a5, .i a6, .i a7, .l a8, .l a9, .l a10, .i a11, .l a12, .l a13, .i a14, .i a15, .i a16]).bind fun y1 =>
 cond (!(g y1 0).bool) (
 some [.i 1, .i 0, .i 0, .i 0, .i 0, .i 0, .i 0, .i 0, .i 0, .i 0, .i 0, .i 0, .l [], .l [], .l [], .l [], .l [], .l [], .l [], .l []]) (
 (Lqz none [.i a17, .i 0, .i 10000]).bind fun y2 =>
 cond (!(g y2 0).bool) (
 some [.i 1, .i 0, .i 0, .i 0, .i 0, .i 0, .i 0, .i 0, .i 0, .i 0, .i 0, .i 0, .l [], .l [], .l [], .l [], .l [], .l [], .l [], .l []]) (
 (Lqby none [.i a0, .i a1, .l a2, .l a3, .i a4, .i a5, .i a6, .i a7, .l a8, .l a9, .l a10, .i a11, .l a12, .l a13, .i a14, .i a15, .i a16]).bind fun y3 =>
 Lqce (some 4) [.i a17, .i a0, .i a1, .l a2, .l a3, .i a4, .i a5, .i a6, .i a7, .l a8, .l a9, .l a10, .i a11, .l a12, .l a13, .i a14, .i a15, .i a16, .i 0, .i 0, .i 0, .i 0, .i 0, .i 0, .i 0, .i 0, .i 0, .i 0, .i 0, .i 0, .i 0, .i ((g y3 0).int), .i ((g y3 1).int), .i ((g y3 2).int), .i ((g y3 3).int), .i ((g y3 4).int), .i ((g y3 5).int), .l ((g y3 12).list), .l ((g y3 13).list), .l ((g y3 14).list), .i ((g y3 6).int), .l ((g y3 15).list), .l ((g y3 16).list), .i ((g y3 7).int), .i ((g y3 8).int), .i ((g y3 9).int), .i 0, .l [], .l [], .l [], .l [], .l [], .l [], .l [], .l [], .l ((g y3 10).list), .l ((g y3 11).list), .l []])) := (Lim_eq _ _).trans (by kernel_rfl)
theorem eqce_4 (a0 a1 a2 : Int) (a3 a4 : Rw) (a5 a6 a7 a8 : Int) (a9 a10 a11 : Rw) (a12 : Int) (a13 a14 : Rw) (a15 a16 a17 a18 a19 a20 a21 a22 a23 a24 a25 a26 a27 a28 a29 a30 a31 a32 a33 a34 a35 a36 : Int) (a37 a38 a39 : Rw) (a40 : Int) (a41 a42 : Rw) (a43 a44 a45 a46 : Int) (a47 a48 a49 a50 a51 a52 a53 a54 a55 a56 a57 : Rw) : Lqce (some 4) [.i a0, .i a1, .i a2, .l a3, .l a4, .i a5, .i a6, .i a7, .i a8, .l a9, .l a10, .l a11, .i a12, .l a13, .l a14, .i a15, .i a16, .i a17, .i a18, .i a19, .i a20, .i a21, .i a22, .i a23, .i a24, .i a25, .i a26, .i a27, .i a28, .i a29, .i a30, .i a31, .i a32, .i a33, .i a34, .i a35, .i a36, .l a37, .l a38, .l a39, .i a40, .l a41, .l a42, .i a43, .i a44, .i a45, .i a46, .l a47, .l a48, .l a49, .l a50, .l a51, .l a52, .l a53, .l a54, .l a55, .l a56, .l a57] =
 cond (decide (a46 < a0)) (
 cond (decide (1000000000 ≤ a45)) (
 some [.i 1, .i 0, .i 0, .i 0, .i 0, .i 0, .i 0, .i 0, .i 0, .i 0, .i 0, .i 0, .l [], .l [], .l [], .l [], .l [], .l [], .l [], .l []]) (
 (Lqbk none [.i a33, .i a34, .i a35, .i a36, .l a37, .l a38, .l a39, .i a40, .l a41, .l a42, .i a43, .i a44, .i a45]).bind fun y1 =>
 cond (decide (23200 < (((g y1 9).list).length : Int))) (
 some [.i 1, .i 0, .i 0, .i 0, .i 0, .i 0, .i 0, .i 0, .i 0, .i 0, .i 0, .i 0, .l [], .l [], .l [], .l [], .l [], .l [], .l [], .l []]) (
 cond (decide (600 < (((g y1 10).list).length : Int))) (
 some [.i 1, .i 0, .i 0, .i 0, .i 0, .i 0, .i 0, .i 0, .i 0, .i 0, .i 0, .i 0, .l [], .l [], .l [], .l [], .l [], .l [], .l [], .l []]) (
 cond (decide (0 < (((g y1 14).list).length : Int))) (
 cond (decide (4000 ≤ (IntKind.i64.wrap ((a55.length : Int) + (a56.length : Int))))) (
 (Lqby none [.i a31, .i a32, .l a55, .l a56, .i a33, .i a34, .i a35, .i a36, .l a37, .l a38, .l a39, .i a40, .l a41, .l a42, .i a43, .i a44, .i a45]).bind fun y2 =>
 some [.i a30, .i ((g y2 0).int), .i ((g y2 1).int), .i ((g y2 2).int), .i ((g y2 3).int), .i ((g y2 4).int), .i ((g y2 5).int), .i ((g y2 6).int), .i ((g y2 7).int), .i ((g y2 8).int), .i ((g y2 9).int), .i a46, .l ((g y2 10).list), .l ((g y2 11).list), .l ((g y2 12).list), .l ((g y2 13).list), .l ((g y2 14).list), .l ((g y2 15).list), .l ((g y2 16).list), .l a57]) (
 cond (inb 0 (((g y1 14).list).length)) (
 (Lqx none [.i 7, .s ((rd ((g y1 14).list) 0 0).str), .s (⟨#[]⟩ : ByteArray), .i 0, .s (⟨#[]⟩ : ByteArray), .l ([]), .i a1]).bind fun y3 =>
 cond (decide (a56.length + ([[.s ((g y3 0).str)]] : Rw).length ≤ most)) (
 cond (inb 0 (((g y1 14).list).length)) (
 cond (decide (a57.length + ([[.s ((rd ((g y1 14).list) 0 0).str)]] : Rw).length ≤ most)) (
 Lqce (some 4) [.i a0, .i a1, .i a2, .l a3, .l a4, .i a5, .i a6, .i a7, .i a8, .l a9, .l a10, .l a11, .i a12, .l a13, .l a14, .i a15, .i a16, .i a17, .i a18, .i a19, .i a20, .i a21, .i a22, .i a23, .i a24, .i a25, .i a26, .i a27, .i a28, .i a29, .i a30, .i a31, .i a32, .i ((g y1 1).int), .i ((g y1 2).int), .i ((g y1 3).int), .i ((g y1 4).int), .l ((g y1 5).list), .l ((g y1 6).list), .l ((g y1 7).list), .i ((g y1 8).int), .l ((g y1 9).list), .l ((g y1 10).list), .i ((g y1 11).int), .i ((g y1 12).int), .i ((g y1 13).int), .i (IntKind.i64.wrap (a46 + 1)), .l a47, .l a48, .l a49, .l a50, .l a51, .l a52, .l a53, .l a54, .l a55, .l (a56 ++ ([[.s ((g y3 0).str)]] : Rw)), .l (a57 ++ ([[.s ((rd ((g y1 14).list) 0 0).str)]] : Rw))]) (
 none)) (
 none)) (
 none)) (
 none))) (
 Lqce (some 4) [.i a0, .i a1, .i a2, .l a3, .l a4, .i a5, .i a6, .i a7, .i a8, .l a9, .l a10, .l a11, .i a12, .l a13, .l a14, .i a15, .i a16, .i a17, .i a18, .i a19, .i a20, .i a21, .i a22, .i a23, .i a24, .i a25, .i a26, .i a27, .i a28, .i a29, .i a30, .i a31, .i a32, .i ((g y1 1).int), .i ((g y1 2).int), .i ((g y1 3).int), .i ((g y1 4).int), .l ((g y1 5).list), .l ((g y1 6).list), .l ((g y1 7).list), .i ((g y1 8).int), .l ((g y1 9).list), .l ((g y1 10).list), .i ((g y1 11).int), .i ((g y1 12).int), .i ((g y1 13).int), .i (IntKind.i64.wrap (a46 + 1)), .l a47, .l a48, .l a49, .l a50, .l a51, .l a52, .l a53, .l a54, .l a55, .l a56, .l a57]))))) (
 (Lqby none [.i a31, .i a32, .l a55, .l a56, .i a33, .i a34, .i a35, .i a36, .l a37, .l a38, .l a39, .i a40, .l a41, .l a42, .i a43, .i a44, .i a45]).bind fun y4 =>
 some [.i a30, .i ((g y4 0).int), .i ((g y4 1).int), .i ((g y4 2).int), .i ((g y4 3).int), .i ((g y4 4).int), .i ((g y4 5).int), .i ((g y4 6).int), .i ((g y4 7).int), .i ((g y4 8).int), .i ((g y4 9).int), .i a46, .l ((g y4 10).list), .l ((g y4 11).list), .l ((g y4 12).list), .l ((g y4 13).list), .l ((g y4 14).list), .l ((g y4 15).list), .l ((g y4 16).list), .l a57]) := (Lim_eq _ _).trans (by kernel_rfl)
theorem kqce : SigOk Tryz.prog (dqce.sig (Lqce none)) ∧ (dqce.sig (Lqce none)).ok = true := sound_lim (known_cons kqx (by kernel_rfl) (known_cons kqz (by kernel_rfl) (known_cons kqbl (by kernel_rfl) (known_cons kqby (by kernel_rfl) (known_cons kqbk (by kernel_rfl) known_nil))))) (by kernel_rfl) (by kernel_rfl) (by kernel_rfl)
def dqdr : FD := { fn := 230, nb := 0, pre := ⟨[.ag [.fz 9 false 0, .fz 9 false 1]], []⟩, post := ⟨[.ag [.ow 0, .ow 1]], [.rw 9 true 0, .rw 9 true 1]⟩, sh := false, cuts := [] }
noncomputable def Lqdr : Option Nat → Lv → Option Lv := Lim Tryz.prog [dqq.sig (Lqq none)] dqdr Tryz.f230
theorem eqdr_i (a0 a1 : Rw) : Lqdr none [.l a0, .l a1] =
 (Lqq none [.l a0, .l a1]).bind fun y1 =>
 cond (!(g y1 0).bool) (
 some [.l [], .l []]) (
 cond (decide (([] : Rw).length + a0.length ≤ most)) (
 cond (decide ((([] : Rw) ++ a0).length + a1.length ≤ most)) (
 some [.l ((([] : Rw) ++ a0) ++ a1), .l []]) (
 none)) (
 none)) := (Lim_eq _ _).trans (by kernel_rfl)
theorem kqdr : SigOk Tryz.prog (dqdr.sig (Lqdr none)) ∧ (dqdr.sig (Lqdr none)).ok = true := sound_lim (known_cons kqq (by kernel_rfl) known_nil) (by kernel_rfl) (by kernel_rfl) (by kernel_rfl)
def dqds : FD := { fn := 218, nb := 0, pre := ⟨[.ag [.i .i64 0, .i .i64 1, .fz 9 false 2, .fz 9 false 3, .i .i64 4, .i .i64 5, .i .i64 6, .i .i64 7, .fz 90 false 8, .fz 156 false 9, .fz 158 false 10, .i .i64 11, .fz 9 false 12, .fz 9 false 13, .i .i64 14, .i .i64 15, .i .i64 16]], []⟩, post := ⟨[.ag [.i .i64 0, .i .i64 1, .ow 0, .ow 1, .i .i64 2, .i .i64 3, .i .i64 4, .i .i64 5, .ow 2, .ow 3, .ow 4, .i .i64 6, .ow 5, .ow 6, .i .i64 7, .i .i64 8, .i .i64 9]], [.rw 9 true 10, .rw 9 true 11, .rw 90 true 12, .rw 156 true 13, .rw 158 true 14, .rw 9 true 15, .rw 9 true 16]⟩, sh := false, cuts := [] }
noncomputable def Lqds : Option Nat → Lv → Option Lv := Lim Tryz.prog [dqbl.sig (Lqbl none), dqby.sig (Lqby none), dqdr.sig (Lqdr none)] dqds Tryz.f218
theorem eqds_i (a0 a1 : Int) (a2 a3 : Rw) (a4 a5 a6 a7 : Int) (a8 a9 a10 : Rw) (a11 : Int) (a12 a13 : Rw) (a14 a15 a16 : Int) : Lqds none [.i a0, .i a1, .l a2, .l a3, .i a4, .i a5, .i a6, .i a7, .l a8, .l a9, .l a10, .i a11, .l a12, .l a13, .i a14, .i a15, .i a16] =
 (Lqbl none [.i a0, .i a1, .l a2, .l a3, .i a4, .i a5, .i a6, .i a7, .l a8, .l a9, .l a10, .i a11, .l a12, .l a13, .i a14, .i a15, .i a16]).bind fun y1 =>
 cond (!(g y1 0).bool) (
 some [.i 0, .i 0, .i 0, .i 0, .i 0, .i 0, .i 0, .i 0, .i 0, .i 0, .l [], .l [], .l [], .l [], .l [], .l [], .l []]) (
 (Lqby none [.i a0, .i a1, .l a2, .l a3, .i a4, .i a5, .i a6, .i a7, .l a8, .l a9, .l a10, .i a11, .l a12, .l a13, .i a14, .i a15, .i a16]).bind fun y2 =>
 (Lqdr none [.l a2, .l a3]).bind fun y3 =>
 some [.i ((g y2 0).int), .i ((g y2 1).int), .i ((g y2 2).int), .i ((g y2 3).int), .i ((g y2 4).int), .i ((g y2 5).int), .i ((g y2 6).int), .i ((g y2 7).int), .i ((g y2 8).int), .i ((g y2 9).int), .l ((g y3 0).list), .l ((g y3 1).list), .l ((g y2 12).list), .l ((g y2 13).list), .l ((g y2 14).list), .l ((g y2 15).list), .l ((g y2 16).list)]) := (Lim_eq _ _).trans (by kernel_rfl)
theorem kqds : SigOk Tryz.prog (dqds.sig (Lqds none)) ∧ (dqds.sig (Lqds none)).ok = true := sound_lim (known_cons kqbl (by kernel_rfl) (known_cons kqby (by kernel_rfl) (known_cons kqdr (by kernel_rfl) known_nil))) (by kernel_rfl) (by kernel_rfl) (by kernel_rfl)
def dqdt : FD := { fn := 231, nb := 0, pre := ⟨[.ag [.fz 9 false 0, .fz 9 false 1], .sc (.i .i64 2)], []⟩, post := ⟨[.ag [.ow 0, .fz 9 true 0]], [.rw 9 true 1]⟩, sh := false, cuts := [] }
noncomputable def Lqdt : Option Nat → Lv → Option Lv := Lim Tryz.prog [dqq.sig (Lqq none)] dqdt Tryz.f231
theorem eqdt_i (a0 a1 : Rw) (a2 : Int) : Lqdt none [.l a0, .l a1, .i a2] =
 (Lqq none [.l a0, .l a1]).bind fun y1 =>
 cond (!(g y1 0).bool) (
 some [.l ([]), .l []]) (
 cond (decide (a2 < 0)) (
 cond (decide ((a1.length : Int) < 0)) (
 cond (decide (([] : Rw).length + a0.length ≤ most)) (
 cond (decide (0 ≤ (a1.length : Int))) (
 cond (decide ((a1.length : Int) ≤ (a1.length : Int))) (
 cond (decide ((([] : Rw) ++ a0).length + (Eng.sub a1 0 ((a1.length : Int).toNat)).length ≤ most)) (
 some [.l ([]), .l ((([] : Rw) ++ a0) ++ (Eng.sub a1 0 ((a1.length : Int).toNat)))]) (
 none)) (
 none)) (
 none)) (
 none)) (
 cond (decide (([] : Rw).length + a0.length ≤ most)) (
 cond (decide (0 ≤ (a1.length : Int))) (
 cond (decide ((([] : Rw) ++ a0).length + (Eng.sub a1 0 0).length ≤ most)) (
 some [.l ([]), .l ((([] : Rw) ++ a0) ++ (Eng.sub a1 0 0))]) (
 none)) (
 none)) (
 none))) (
 cond (decide ((a1.length : Int) < a2)) (
 cond (decide (([] : Rw).length + a0.length ≤ most)) (
 cond (decide (0 ≤ (a1.length : Int))) (
 cond (decide ((a1.length : Int) ≤ (a1.length : Int))) (
 cond (decide ((([] : Rw) ++ a0).length + (Eng.sub a1 0 ((a1.length : Int).toNat)).length ≤ most)) (
 some [.l ([]), .l ((([] : Rw) ++ a0) ++ (Eng.sub a1 0 ((a1.length : Int).toNat)))]) (
 none)) (
 none)) (
 none)) (
 none)) (
 cond (decide (([] : Rw).length + a0.length ≤ most)) (
 cond (decide (0 ≤ a2)) (
 cond (decide (a2 ≤ (a1.length : Int))) (
 cond (decide ((([] : Rw) ++ a0).length + (Eng.sub a1 0 a2.toNat).length ≤ most)) (
 some [.l ([]), .l ((([] : Rw) ++ a0) ++ (Eng.sub a1 0 a2.toNat))]) (
 none)) (
 none)) (
 none)) (
 none)))) := (Lim_eq _ _).trans (by kernel_rfl)
theorem kqdt : SigOk Tryz.prog (dqdt.sig (Lqdt none)) ∧ (dqdt.sig (Lqdt none)).ok = true := sound_lim (known_cons kqq (by kernel_rfl) known_nil) (by kernel_rfl) (by kernel_rfl) (by kernel_rfl)
def dqc7 : FD := { fn := 219, nb := 0, pre := ⟨[.ag [.i .i64 0, .i .i64 1, .fz 9 false 2, .fz 9 false 3, .i .i64 4, .i .i64 5, .i .i64 6, .i .i64 7, .fz 90 false 8, .fz 156 false 9, .fz 158 false 10, .i .i64 11, .fz 9 false 12, .fz 9 false 13, .i .i64 14, .i .i64 15, .i .i64 16], .sc (.i .i64 17)], []⟩, post := ⟨[.ag [.i .i64 0, .i .i64 1, .ow 0, .ow 1, .i .i64 2, .i .i64 3, .i .i64 4, .i .i64 5, .ow 2, .ow 3, .ow 4, .i .i64 6, .fz 9 true 7, .fz 9 true 8, .i .i64 9, .i .i64 10, .i .i64 11]], [.rw 9 true 12, .rw 9 true 13, .rw 90 true 14, .rw 156 true 15, .rw 158 true 16]⟩, sh := false, cuts := [] }
noncomputable def Lqc7 : Option Nat → Lv → Option Lv := Lim Tryz.prog [dqbl.sig (Lqbl none), dqbx.sig (Lqbx none), dqdt.sig (Lqdt none)] dqc7 Tryz.f219
theorem eqc7_i (a0 a1 : Int) (a2 a3 : Rw) (a4 a5 a6 a7 : Int) (a8 a9 a10 : Rw) (a11 : Int) (a12 a13 : Rw) (a14 a15 a16 a17 : Int) : Lqc7 none [.i a0, .i a1, .l a2, .l a3, .i a4, .i a5, .i a6, .i a7, .l a8, .l a9, .l a10, .i a11, .l a12, .l a13, .i a14, .i a15, .i a16, .i a17] =
 (Lqbl none [.i a0, .i a1, .l a2, .l a3, .i a4, .i a5, .i a6, .i a7, .l a8, .l a9, .l a10, .i a11, .l a12, .l a13, .i a14, .i a15, .i a16]).bind fun y1 =>
 cond (!(g y1 0).bool) (
 some [.i 0, .i 0, .i 0, .i 0, .i 0, .i 0, .i 0, .l ([]), .l ([]), .i 0, .i 0, .i 0, .l [], .l [], .l [], .l [], .l []]) (
 (Lqdt none [.l a2, .l a3, .i a17]).bind fun y2 =>
 (Lqbx none [.i a0, .i a1, .l ((g y2 1).list), .l ((g y2 0).list)]).bind fun y3 =>
 some [.i ((g y3 0).int), .i ((g y3 1).int), .i ((g y3 2).int), .i ((g y3 3).int), .i ((g y3 4).int), .i ((g y3 5).int), .i ((g y3 6).int), .l ((g y3 7).list), .l ((g y3 8).list), .i ((g y3 9).int), .i ((g y3 10).int), .i ((g y3 11).int), .l ((g y3 13).list), .l ((g y3 14).list), .l ((g y3 15).list), .l ((g y3 16).list), .l ((g y3 17).list)]) := (Lim_eq _ _).trans (by kernel_rfl)
theorem kqc7 : SigOk Tryz.prog (dqc7.sig (Lqc7 none)) ∧ (dqc7.sig (Lqc7 none)).ok = true := sound_lim (known_cons kqbl (by kernel_rfl) (known_cons kqbx (by kernel_rfl) (known_cons kqdt (by kernel_rfl) known_nil))) (by kernel_rfl) (by kernel_rfl) (by kernel_rfl)
def dqbq : FD := { fn := 175, nb := 0, pre := ⟨[.ag [.i .i64 0, .i .i64 1, .fz 9 false 2, .ow 0, .i .i64 3, .i .i64 4, .i .i64 5, .i .i64 6, .fz 90 false 7, .ow 1, .ow 2, .i .i64 8, .fz 9 false 9, .fz 9 false 10, .i .i64 11, .i .i64 12, .i .i64 13], .ag [.i .i64 14, .s 15, .i .i64 16, .s 17, .i .i64 18, .i .i64 19]], [.rw 9 false 20, .rw 156 false 21, .rw 158 false 22]⟩, post := ⟨[.ag [.i .i64 0, .i .i64 1, .fz 9 false 2, .ow 0, .i .i64 3, .i .i64 4, .i .i64 5, .i .i64 6, .fz 90 false 7, .ow 1, .ow 2, .i .i64 8, .fz 9 false 9, .fz 9 false 10, .i .i64 11, .i .i64 12, .i .i64 13]], [.rw 9 false 14, .rw 156 false 15, .rw 158 false 16]⟩, sh := true, cuts := [⟨21, [2, 4, 5], ⟨[.sc (.pt 0 0), .sc (.pt 1 0), .sc (.pt 2 0)], [.bx [.i .i64 0, .i .i64 1, .fz 9 false 2, .ow 3, .i .i64 3, .i .i64 4, .i .i64 5, .i .i64 6, .fz 90 false 7, .ow 4, .ow 5, .i .i64 8, .fz 9 false 9, .fz 9 false 10, .i .i64 11, .i .i64 12, .i .i64 13], .bx [.i .i64 14, .i .i64 15, .ow 13, .ow 14, .i .i64 16, .i .i64 17, .i .i64 18, .i .i64 19, .ow 15, .ow 16, .ow 17, .i .i64 20, .ow 18, .ow 19, .i .i64 21, .i .i64 22, .i .i64 23], .bx [.i .i64 24, .i .i64 25, .i .i64 26, .ow 6, .ow 7, .i .i64 27, .i .i64 28, .i .i64 29, .i .i64 30, .ow 8, .ow 9, .ow 10, .i .i64 31, .ow 11, .ow 12, .i .i64 32, .i .i64 33, .i .i64 34, .s 35, .i .i64 36, .s 37, .s 38], .rw 9 false 39, .rw 156 false 40, .rw 158 false 41, .rw 9 true 42, .rw 9 true 43, .rw 90 true 44, .rw 156 true 45, .rw 158 true 46, .rw 9 true 47, .rw 9 true 48, .rw 9 true 49, .rw 9 true 50, .rw 90 true 51, .rw 156 true 52, .rw 158 true 53, .rw 9 true 54, .rw 9 true 55]⟩⟩] }
noncomputable def Lqbq : Option Nat → Lv → Option Lv := Lim Tryz.prog [dqcc.sig (Lqcc none), dqct.sig (Lqct none), dqcz.sig (Lqcz none), dqc1.sig (Lqc1 none), dqc2.sig (Lqc2 none), dqc3.sig (Lqc3 none), dqc4.sig (Lqc4 none), dqc5.sig (Lqc5 none), dqc6.sig (Lqc6 none), dqce.sig (Lqce none), dqds.sig (Lqds none), dqc7.sig (Lqc7 none)] dqbq Tryz.f175
theorem eqbq_i (a0 a1 : Int) (a2 : Rw) (a3 a4 a5 a6 : Int) (a7 : Rw) (a8 : Int) (a9 a10 : Rw) (a11 a12 a13 a14 : Int) (a15 : ByteArray) (a16 : Int) (a17 : ByteArray) (a18 a19 : Int) (a20 a21 a22 : Rw) : Lqbq none [.i a0, .i a1, .l a2, .i a3, .i a4, .i a5, .i a6, .l a7, .i a8, .l a9, .l a10, .i a11, .i a12, .i a13, .i a14, .s a15, .i a16, .s a17, .i a18, .i a19, .l a20, .l a21, .l a22] =
 cond (a14 == 1) (
 (Lqcc none [.i a14, .s a15, .i a16, .s a17, .i a18, .i a19, .i a3, .i a4, .i a5, .i a6, .l a7, .l a21, .l a22]).bind fun y1 =>
 (Lqc1 none [.i a0, .i a1, .l a2, .l a20, .i a3, .i a4, .i a5, .i a6, .l a7, .l a21, .l a22, .i a8, .l a9, .l a10, .i a11, .i a12, .i a13, .s ((g y1 0).str), .l ((g y1 1).list), .i a19]).bind fun y2 =>
 Lqbq (some 21) [.i a0, .i a1, .l a2, .i a3, .i a4, .i a5, .i a6, .l a7, .i a8, .l a9, .l a10, .i a11, .i a12, .i a13, .i 0, .i 0, .i 0, .i 0, .i 0, .i 0, .i 0, .i 0, .i 0, .i 0, .i ((g y2 0).int), .i ((g y2 1).int), .i ((g y2 2).int), .i ((g y2 3).int), .i ((g y2 4).int), .i ((g y2 5).int), .i ((g y2 6).int), .i ((g y2 7).int), .i ((g y2 8).int), .i ((g y2 9).int), .i ((g y2 10).int), .s ((g y2 11).str), .i ((g y2 12).int), .s ((g y2 13).str), .s ((g y2 14).str), .l a20, .l a21, .l a22, .l ((g y2 15).list), .l ((g y2 16).list), .l ((g y2 17).list), .l ((g y2 18).list), .l ((g y2 19).list), .l ((g y2 20).list), .l ((g y2 21).list), .l [], .l [], .l [], .l [], .l [], .l [], .l []]) (
 cond (a14 == 2) (
 (Lqct none [.i a14, .s a15, .i a16, .s a17, .i a18, .i a19, .i a3, .i a4, .i a5, .i a6, .l a7, .l a21, .l a22]).bind fun y3 =>
 (Lqc2 none [.i a0, .i a1, .l a2, .l a20, .i a3, .i a4, .i a5, .i a6, .l a7, .l a21, .l a22, .i a8, .l a9, .l a10, .i a11, .i a12, .i a13, .s a17, .s ((g y3 0).str)]).bind fun y4 =>
 Lqbq (some 21) [.i a0, .i a1, .l a2, .i a3, .i a4, .i a5, .i a6, .l a7, .i a8, .l a9, .l a10, .i a11, .i a12, .i a13, .i 0, .i 0, .i 0, .i 0, .i 0, .i 0, .i 0, .i 0, .i 0, .i 0, .i ((g y4 0).int), .i ((g y4 1).int), .i ((g y4 2).int), .i ((g y4 3).int), .i ((g y4 4).int), .i ((g y4 5).int), .i ((g y4 6).int), .i ((g y4 7).int), .i ((g y4 8).int), .i ((g y4 9).int), .i ((g y4 10).int), .s ((g y4 11).str), .i ((g y4 12).int), .s ((g y4 13).str), .s ((g y4 14).str), .l a20, .l a21, .l a22, .l ((g y4 15).list), .l ((g y4 16).list), .l ((g y4 17).list), .l ((g y4 18).list), .l ((g y4 19).list), .l ((g y4 20).list), .l ((g y4 21).list), .l [], .l [], .l [], .l [], .l [], .l [], .l []]) (
 cond (a14 == 3) (
 (Lqc3 none [.i a0, .i a1, .l a2, .l a20, .i a3, .i a4, .i a5, .i a6, .l a7, .l a21, .l a22, .i a8, .l a9, .l a10, .i a11, .i a12, .i a13, .s a17]).bind fun y5 =>
 Lqbq (some 21) [.i a0, .i a1, .l a2, .i a3, .i a4, .i a5, .i a6, .l a7, .i a8, .l a9, .l a10, .i a11, .i a12, .i a13, .i 0, .i 0, .i 0, .i 0, .i 0, .i 0, .i 0, .i 0, .i 0, .i 0, .i ((g y5 0).int), .i ((g y5 1).int), .i ((g y5 2).int), .i ((g y5 3).int), .i ((g y5 4).int), .i ((g y5 5).int), .i ((g y5 6).int), .i ((g y5 7).int), .i ((g y5 8).int), .i ((g y5 9).int), .i ((g y5 10).int), .s ((g y5 11).str), .i ((g y5 12).int), .s ((g y5 13).str), .s ((g y5 14).str), .l a20, .l a21, .l a22, .l ((g y5 15).list), .l ((g y5 16).list), .l ((g y5 17).list), .l ((g y5 18).list), .l ((g y5 19).list), .l ((g y5 20).list), .l ((g y5 21).list), .l [], .l [], .l [], .l [], .l [], .l [], .l []]) (
 cond (a14 == 4) (
 (Lqct none [.i a14, .s a15, .i a16, .s a17, .i a18, .i a19, .i a3, .i a4, .i a5, .i a6, .l a7, .l a21, .l a22]).bind fun y6 =>
 (Lqc4 none [.i a0, .i a1, .l a2, .l a20, .i a3, .i a4, .i a5, .i a6, .l a7, .l a21, .l a22, .i a8, .l a9, .l a10, .i a11, .i a12, .i a13, .s ((g y6 0).str), .i a19]).bind fun y7 =>
 Lqbq (some 21) [.i a0, .i a1, .l a2, .i a3, .i a4, .i a5, .i a6, .l a7, .i a8, .l a9, .l a10, .i a11, .i a12, .i a13, .i 0, .i 0, .i 0, .i 0, .i 0, .i 0, .i 0, .i 0, .i 0, .i 0, .i ((g y7 0).int), .i ((g y7 1).int), .i ((g y7 2).int), .i ((g y7 3).int), .i ((g y7 4).int), .i ((g y7 5).int), .i ((g y7 6).int), .i ((g y7 7).int), .i ((g y7 8).int), .i ((g y7 9).int), .i ((g y7 10).int), .s ((g y7 11).str), .i ((g y7 12).int), .s ((g y7 13).str), .s ((g y7 14).str), .l a20, .l a21, .l a22, .l ((g y7 15).list), .l ((g y7 16).list), .l ((g y7 17).list), .l ((g y7 18).list), .l ((g y7 19).list), .l ((g y7 20).list), .l ((g y7 21).list), .l [], .l [], .l [], .l [], .l [], .l [], .l []]) (
 cond (a14 == 5) (
 (Lqcz none [.i a14, .s a15, .i a16, .s a17, .i a18, .i a19, .i a3, .i a4, .i a5, .i a6, .l a7, .l a21, .l a22]).bind fun y8 =>
 (Lqc5 none [.i a0, .i a1, .l a2, .l a20, .i a3, .i a4, .i a5, .i a6, .l a7, .l a21, .l a22, .i a8, .l a9, .l a10, .i a11, .i a12, .i a13, .i ((g y8 0).int)]).bind fun y9 =>
 Lqbq (some 21) [.i a0, .i a1, .l a2, .i a3, .i a4, .i a5, .i a6, .l a7, .i a8, .l a9, .l a10, .i a11, .i a12, .i a13, .i 0, .i 0, .i 0, .i 0, .i 0, .i 0, .i 0, .i 0, .i 0, .i 0, .i ((g y9 0).int), .i ((g y9 1).int), .i ((g y9 2).int), .i ((g y9 3).int), .i ((g y9 4).int), .i ((g y9 5).int), .i ((g y9 6).int), .i ((g y9 7).int), .i ((g y9 8).int), .i ((g y9 9).int), .i ((g y9 10).int), .s ((g y9 11).str), .i ((g y9 12).int), .s ((g y9 13).str), .s ((g y9 14).str), .l a20, .l a21, .l a22, .l ((g y9 15).list), .l ((g y9 16).list), .l ((g y9 17).list), .l ((g y9 18).list), .l ((g y9 19).list), .l ((g y9 20).list), .l ((g y9 21).list), .l [], .l [], .l [], .l [], .l [], .l [], .l []]) (
 cond (a14 == 6) (
 (Lqc6 none [.i a0, .i a1, .l a2, .l a20, .i a3, .i a4, .i a5, .i a6, .l a7, .l a21, .l a22, .i a8, .l a9, .l a10, .i a11, .i a12, .i a13, .i a19]).bind fun y10 =>
 Lqbq (some 21) [.i a0, .i a1, .l a2, .i a3, .i a4, .i a5, .i a6, .l a7, .i a8, .l a9, .l a10, .i a11, .i a12, .i a13, .i 0, .i 0, .i 0, .i 0, .i 0, .i 0, .i 0, .i 0, .i 0, .i 0, .i ((g y10 0).int), .i ((g y10 1).int), .i ((g y10 2).int), .i ((g y10 3).int), .i ((g y10 4).int), .i ((g y10 5).int), .i ((g y10 6).int), .i ((g y10 7).int), .i ((g y10 8).int), .i ((g y10 9).int), .i ((g y10 10).int), .s ((g y10 11).str), .i ((g y10 12).int), .s ((g y10 13).str), .s ((g y10 14).str), .l a20, .l a21, .l a22, .l ((g y10 15).list), .l ((g y10 16).list), .l ((g y10 17).list), .l ((g y10 18).list), .l ((g y10 19).list), .l ((g y10 20).list), .l ((g y10 21).list), .l [], .l [], .l [], .l [], .l [], .l [], .l []]) (
 cond (a14 == 8) (
 (Lqds none [.i a0, .i a1, .l a2, .l a20, .i a3, .i a4, .i a5, .i a6, .l a7, .l a21, .l a22, .i a8, .l a9, .l a10, .i a11, .i a12, .i a13]).bind fun y11 =>
 some [.i ((g y11 0).int), .i ((g y11 1).int), .l ((g y11 10).list), .i ((g y11 2).int), .i ((g y11 3).int), .i ((g y11 4).int), .i ((g y11 5).int), .l ((g y11 12).list), .i ((g y11 6).int), .l ((g y11 15).list), .l ((g y11 16).list), .i ((g y11 7).int), .i ((g y11 8).int), .i ((g y11 9).int), .l ((g y11 11).list), .l ((g y11 13).list), .l ((g y11 14).list)]) (
 cond (a14 == 9) (
 (Lqc7 none [.i a0, .i a1, .l a2, .l a20, .i a3, .i a4, .i a5, .i a6, .l a7, .l a21, .l a22, .i a8, .l a9, .l a10, .i a11, .i a12, .i a13, .i (a18.tmod 6)]).bind fun y12 =>
 some [.i ((g y12 0).int), .i ((g y12 1).int), .l ((g y12 12).list), .i ((g y12 2).int), .i ((g y12 3).int), .i ((g y12 4).int), .i ((g y12 5).int), .l ((g y12 14).list), .i ((g y12 6).int), .l ((g y12 7).list), .l ((g y12 8).list), .i ((g y12 9).int), .i ((g y12 10).int), .i ((g y12 11).int), .l ((g y12 13).list), .l ((g y12 15).list), .l ((g y12 16).list)]) (
 cond (a14 == 10) (
 (Lqce none [.i a0, .i a1, .l a2, .l a20, .i a3, .i a4, .i a5, .i a6, .l a7, .l a21, .l a22, .i a8, .l a9, .l a10, .i a11, .i a12, .i a13, .i a18]).bind fun y13 =>
 some [.i ((g y13 1).int), .i ((g y13 2).int), .l ((g y13 12).list), .i ((g y13 3).int), .i ((g y13 4).int), .i ((g y13 5).int), .i ((g y13 6).int), .l ((g y13 14).list), .i ((g y13 7).int), .l ((g y13 17).list), .l ((g y13 18).list), .i ((g y13 8).int), .i ((g y13 9).int), .i ((g y13 10).int), .l ((g y13 13).list), .l ((g y13 15).list), .l ((g y13 16).list)]) (
 Lqbq (some 21) [.i a0, .i a1, .l a2, .i a3, .i a4, .i a5, .i a6, .l a7, .i a8, .l a9, .l a10, .i a11, .i a12, .i a13, .i 0, .i 0, .i 0, .i 0, .i 0, .i 0, .i 0, .i 0, .i 0, .i 0, .i 1, .i 0, .i 0, .i 0, .i 0, .i 0, .i 0, .i 0, .i 0, .i 0, .i 0, .s (⟨#[]⟩ : ByteArray), .i 0, .s (⟨#[]⟩ : ByteArray), .s (⟨#[]⟩ : ByteArray), .l a20, .l a21, .l a22, .l [], .l [], .l [], .l [], .l [], .l [], .l [], .l [], .l [], .l [], .l [], .l [], .l [], .l []]))))))))) := (Lim_eq _ _).trans (by kernel_rfl)
theorem eqbq_21 (a0 a1 : Int) (a2 : Rw) (a3 a4 a5 a6 : Int) (a7 : Rw) (a8 : Int) (a9 a10 : Rw) (a11 a12 a13 a14 a15 a16 a17 a18 a19 a20 a21 a22 a23 a24 a25 a26 a27 a28 a29 a30 a31 a32 a33 a34 : Int) (a35 : ByteArray) (a36 : Int) (a37 a38 : ByteArray) (a39 a40 a41 a42 a43 a44 a45 a46 a47 a48 a49 a50 a51 a52 a53 a54 a55 : Rw) : Lqbq (some 21) [.i a0, .i a1, .l a2, .i a3, .i a4, .i a5, .i a6, .l a7, .i a8, .l a9, .l a10, .i a11, .i a12, .i a13, .i a14, .i a15, .i a16, .i a17, .i a18, .i a19, .i a20, .i a21, .i a22, .i a23, .i a24, .i a25, .i a26, .i a27, .i a28, .i a29, .i a30, .i a31, .i a32, .i a33, .i a34, .s a35, .i a36, .s a37, .s a38, .l a39, .l a40, .l a41, .l a42, .l a43, .l a44, .l a45, .l a46, .l a47, .l a48, .l a49, .l a50, .l a51, .l a52, .l a53, .l a54, .l a55] =
 cond (a24 == 0) (
 some [.i a25, .i a26, .l a42, .i a27, .i a28, .i a29, .i a30, .l a44, .i a31, .l a47, .l a48, .i a32, .i a33, .i a34, .l a43, .l a45, .l a46]) (
 some [.i a0, .i a1, .l a2, .i a3, .i a4, .i a5, .i a6, .l a7, .i a8, .l a9, .l a10, .i a11, .i a12, .i a13, .l a39, .l a40, .l a41]) := (Lim_eq _ _).trans (by kernel_rfl)
theorem kqbq : SigOk Tryz.prog (dqbq.sig (Lqbq none)) ∧ (dqbq.sig (Lqbq none)).ok = true := sound_lim (known_cons kqcc (by kernel_rfl) (known_cons kqct (by kernel_rfl) (known_cons kqcz (by kernel_rfl) (known_cons kqc1 (by kernel_rfl) (known_cons kqc2 (by kernel_rfl) (known_cons kqc3 (by kernel_rfl) (known_cons kqc4 (by kernel_rfl) (known_cons kqc5 (by kernel_rfl) (known_cons kqc6 (by kernel_rfl) (known_cons kqce (by kernel_rfl) (known_cons kqds (by kernel_rfl) (known_cons kqc7 (by kernel_rfl) known_nil)))))))))))) (by kernel_rfl) (by kernel_rfl) (by kernel_rfl)
def dqbr : FD := { fn := 109, nb := 1, pre := ⟨[.sc (.pt 0 0)], [.bx [.fz 5 false 0, .i .i64 1]]⟩, post := ⟨[.ag [.i .i64 0, .i .i64 1, .fz 9 true 2, .ow 1, .i .i64 3, .i .i64 4, .i .i64 5, .i .i64 6, .fz 90 true 7, .ow 2, .ow 3, .i .i64 8, .fz 9 true 9, .fz 9 true 10, .i .i64 11, .i .i64 12, .i .i64 13]], [.bx [.fz 5 false 14, .i .i64 15], .rw 9 true 16, .rw 156 true 17, .rw 158 true 18]⟩, sh := true, cuts := [⟨8, [0, 2, 4, 6], ⟨[.sc (.pt 0 0), .sc (.pt 1 0), .sc (.pt 2 0), .sc (.i .i64 0)], [.bx [.fz 5 false 1, .i .i64 2], .bx [.i .i64 3, .i .i64 4, .ow 3, .ow 4, .i .i64 5, .i .i64 6, .i .i64 7, .i .i64 8, .ow 5, .ow 6, .ow 7, .i .i64 9, .ow 8, .ow 9, .i .i64 10, .i .i64 11, .i .i64 12], .bx [.i .i64 13, .i .i64 14, .fz 9 true 15, .ow 10, .i .i64 16, .i .i64 17, .i .i64 18, .i .i64 19, .fz 90 true 20, .ow 11, .ow 12, .i .i64 21, .fz 9 true 22, .fz 9 true 23, .i .i64 24, .i .i64 25, .i .i64 26], .rw 9 true 27, .rw 9 true 28, .rw 90 true 29, .rw 156 true 30, .rw 158 true 31, .rw 9 true 32, .rw 9 true 33, .rw 9 true 34, .rw 156 true 35, .rw 158 true 36]⟩⟩] }
noncomputable def Lqbr : Option Nat → Lv → Option Lv := Lim Tryz.prog [dqb.sig (Lqb none), dqcy.sig (Lqcy none), dqdq.sig (Lqdq none), dqbx.sig (Lqbx none), dqbq.sig (Lqbq none)] dqbr Tryz.f109
theorem eqbr_i (a0 : Rw) (a1 : Int) : Lqbr none [.l a0, .i a1] =
 (Lqb none [.i 6, .l a0, .i a1]).bind fun y1 =>
 cond ((g y1 0).int == 0) (
 (Lqb none [.i 60, .l ((g y1 1).list), .i ((g y1 2).int)]).bind fun y2 =>
 (Lqcy none [.l ((g y2 1).list), .i ((g y2 2).int)]).bind fun y3 =>
 (Lqbx none [.i ((g y3 0).int), .i (IntKind.i64.wrap (20 + (g y2 0).int)), .l ([]), .l ([])]).bind fun y4 =>
 (Lqb none [.i 14, .l ((g y3 1).list), .i ((g y3 2).int)]).bind fun y5 =>
 (Lqb none [.i 6, .l ((g y5 1).list), .i ((g y5 2).int)]).bind fun y6 =>
 cond ((g y6 0).int == 0) (
 Lqbr (some 8) [.i (IntKind.i64.wrap ((g y5 0).int + 12)), .l ((g y6 1).list), .i ((g y6 2).int), .i 0, .i 0, .i 0, .i 0, .i 0, .i 0, .i 0, .i 0, .i 0, .i 0, .i ((g y4 0).int), .i ((g y4 1).int), .l ((g y4 13).list), .i ((g y4 2).int), .i ((g y4 3).int), .i ((g y4 4).int), .i ((g y4 5).int), .l ((g y4 15).list), .i ((g y4 6).int), .l ((g y4 7).list), .l ((g y4 8).list), .i ((g y4 9).int), .i ((g y4 10).int), .i ((g y4 11).int), .l [], .l [], .l [], .l [], .l [], .l [], .l [], .l ((g y4 14).list), .l ((g y4 16).list), .l ((g y4 17).list)]) (
 Lqbr (some 8) [.i ((g y5 0).int), .l ((g y6 1).list), .i ((g y6 2).int), .i 0, .i 0, .i 0, .i 0, .i 0, .i 0, .i 0, .i 0, .i 0, .i 0, .i ((g y4 0).int), .i ((g y4 1).int), .l ((g y4 13).list), .i ((g y4 2).int), .i ((g y4 3).int), .i ((g y4 4).int), .i ((g y4 5).int), .l ((g y4 15).list), .i ((g y4 6).int), .l ((g y4 7).list), .l ((g y4 8).list), .i ((g y4 9).int), .i ((g y4 10).int), .i ((g y4 11).int), .l [], .l [], .l [], .l [], .l [], .l [], .l [], .l ((g y4 14).list), .l ((g y4 16).list), .l ((g y4 17).list)])) (
 (Lqcy none [.l ((g y1 1).list), .i ((g y1 2).int)]).bind fun y7 =>
 (Lqbx none [.i ((g y7 0).int), .i 1000000, .l ([]), .l ([])]).bind fun y8 =>
 (Lqb none [.i 14, .l ((g y7 1).list), .i ((g y7 2).int)]).bind fun y9 =>
 (Lqb none [.i 6, .l ((g y9 1).list), .i ((g y9 2).int)]).bind fun y10 =>
 cond ((g y10 0).int == 0) (
 Lqbr (some 8) [.i (IntKind.i64.wrap ((g y9 0).int + 12)), .l ((g y10 1).list), .i ((g y10 2).int), .i 0, .i 0, .i 0, .i 0, .i 0, .i 0, .i 0, .i 0, .i 0, .i 0, .i ((g y8 0).int), .i ((g y8 1).int), .l ((g y8 13).list), .i ((g y8 2).int), .i ((g y8 3).int), .i ((g y8 4).int), .i ((g y8 5).int), .l ((g y8 15).list), .i ((g y8 6).int), .l ((g y8 7).list), .l ((g y8 8).list), .i ((g y8 9).int), .i ((g y8 10).int), .i ((g y8 11).int), .l [], .l [], .l [], .l [], .l [], .l [], .l [], .l ((g y8 14).list), .l ((g y8 16).list), .l ((g y8 17).list)]) (
 Lqbr (some 8) [.i ((g y9 0).int), .l ((g y10 1).list), .i ((g y10 2).int), .i 0, .i 0, .i 0, .i 0, .i 0, .i 0, .i 0, .i 0, .i 0, .i 0, .i ((g y8 0).int), .i ((g y8 1).int), .l ((g y8 13).list), .i ((g y8 2).int), .i ((g y8 3).int), .i ((g y8 4).int), .i ((g y8 5).int), .l ((g y8 15).list), .i ((g y8 6).int), .l ((g y8 7).list), .l ((g y8 8).list), .i ((g y8 9).int), .i ((g y8 10).int), .i ((g y8 11).int), .l [], .l [], .l [], .l [], .l [], .l [], .l [], .l ((g y8 14).list), .l ((g y8 16).list), .l ((g y8 17).list)])) := (Lim_eq _ _).trans (by kernel_rfl)
theorem eqbr_8 (a0 : Int) (a1 : Rw) (a2 a3 a4 a5 a6 a7 a8 a9 a10 a11 a12 a13 a14 : Int) (a15 : Rw) (a16 a17 a18 a19 : Int) (a20 : Rw) (a21 : Int) (a22 a23 : Rw) (a24 a25 a26 : Int) (a27 a28 a29 a30 a31 a32 a33 a34 a35 a36 : Rw) : Lqbr (some 8) [.i a0, .l a1, .i a2, .i a3, .i a4, .i a5, .i a6, .i a7, .i a8, .i a9, .i a10, .i a11, .i a12, .i a13, .i a14, .l a15, .i a16, .i a17, .i a18, .i a19, .l a20, .i a21, .l a22, .l a23, .i a24, .i a25, .i a26, .l a27, .l a28, .l a29, .l a30, .l a31, .l a32, .l a33, .l a34, .l a35, .l a36] =
 cond (decide (0 < a0)) (
 (Lqdq none [.l a1, .i a2]).bind fun y1 =>
 (Lqbq none [.i a13, .i a14, .l a15, .i a16, .i a17, .i a18, .i a19, .l a20, .i a21, .l a22, .l a23, .i a24, .i a25, .i a26, .i ((g y1 0).int), .s ((g y1 1).str), .i ((g y1 2).int), .s ((g y1 3).str), .i ((g y1 4).int), .i ((g y1 5).int), .l a34, .l a35, .l a36]).bind fun y2 =>
 Lqbr (some 8) [.i (IntKind.i64.wrap (a0 - 1)), .l ((g y1 6).list), .i ((g y1 7).int), .i a3, .i a4, .i a5, .i a6, .i a7, .i a8, .i a9, .i a10, .i a11, .i a12, .i ((g y2 0).int), .i ((g y2 1).int), .l ((g y2 2).list), .i ((g y2 3).int), .i ((g y2 4).int), .i ((g y2 5).int), .i ((g y2 6).int), .l ((g y2 7).list), .i ((g y2 8).int), .l ((g y2 9).list), .l ((g y2 10).list), .i ((g y2 11).int), .i ((g y2 12).int), .i ((g y2 13).int), .l a27, .l a28, .l a29, .l a30, .l a31, .l a32, .l a33, .l ((g y2 14).list), .l ((g y2 15).list), .l ((g y2 16).list)]) (
 some [.i a13, .i a14, .l a15, .i a16, .i a17, .i a18, .i a19, .l a20, .i a21, .l a22, .l a23, .i a24, .i a25, .i a26, .l a1, .i a2, .l a34, .l a35, .l a36]) := (Lim_eq _ _).trans (by kernel_rfl)
theorem kqbr : SigOk Tryz.prog (dqbr.sig (Lqbr none)) ∧ (dqbr.sig (Lqbr none)).ok = true := sound_lim (known_cons kqb (by kernel_rfl) (known_cons kqcy (by kernel_rfl) (known_cons kqdq (by kernel_rfl) (known_cons kqbx (by kernel_rfl) (known_cons kqbq (by kernel_rfl) known_nil))))) (by kernel_rfl) (by kernel_rfl) (by kernel_rfl)
def dqcg : FD := { fn := 201, nb := 0, pre := ⟨[.sc (.s 0), .sc (.i .i64 1)], []⟩, post := ⟨[.sc (.s 0)], []⟩, sh := false, cuts := [⟨2, [0, 1, 5], ⟨[.sc (.s 0), .sc (.i .i64 1), .sc (.s 2)], []⟩⟩] }
noncomputable def Lqcg : Option Nat → Lv → Option Lv := Lim Tryz.prog [] dqcg Tryz.f201
theorem eqcg_i (a0 : ByteArray) (a1 : Int) : Lqcg none [.s a0, .i a1] =
 Lqcg (some 2) [.s a0, .i a1, .s (⟨#[]⟩ : ByteArray)] := (Lim_eq _ _).trans (by kernel_rfl)
theorem eqcg_2 (a0 : ByteArray) (a1 : Int) (a2 : ByteArray) : Lqcg (some 2) [.s a0, .i a1, .s a2] =
 cond (decide (0 < a1)) (
 cond ((a1.tmod 2) == 1) (
 cond (decide (a2.size + a0.size ≤ most)) (
 cond (decide (a0.size + a0.size ≤ most)) (
 Lqcg (some 2) [.s (a0 ++ a0), .i (IntKind.i64.wrap (a1.tdiv 2)), .s (a2 ++ a0)]) (
 none)) (
 none)) (
 cond (decide (a0.size + a0.size ≤ most)) (
 Lqcg (some 2) [.s (a0 ++ a0), .i (IntKind.i64.wrap (a1.tdiv 2)), .s a2]) (
 none))) (
 some [.s a2]) := (Lim_eq _ _).trans (by kernel_rfl)
theorem kqcg : SigOk Tryz.prog (dqcg.sig (Lqcg none)) ∧ (dqcg.sig (Lqcg none)).ok = true := sound_lim known_nil (by kernel_rfl) (by kernel_rfl) (by kernel_rfl)
def dqcj : FD := { fn := 145, nb := 1, pre := ⟨[.sc (.pt 0 0), .ag [.s 0, .fz 9 false 1]], [.bx [.fz 5 false 2, .i .i64 3]]⟩, post := ⟨[.ag [.s 0, .ow 1]], [.bx [.fz 5 false 1, .i .i64 2], .rw 9 true 3]⟩, sh := true, cuts := [⟨15, [4, 5, 6, 7], ⟨[.sc (.pt 1 0), .sc (.pt 2 0), .sc (.i .i64 0), .sc (.i .i64 1)], [.bx [.fz 5 false 2, .i .i64 3], .bx [.s 4, .ow 3], .bx [.s 5, .ow 4], .rw 9 true 6, .rw 9 true 7]⟩⟩] }
noncomputable def Lqcj : Option Nat → Lv → Option Lv := Lim Tryz.prog [dqb.sig (Lqb none), dqbv.sig (Lqbv none), dqcg.sig (Lqcg none)] dqcj Tryz.f145
theorem eqcj_i (a0 : ByteArray) (a1 a2 : Rw) (a3 : Int) : Lqcj none [.s a0, .l a1, .l a2, .i a3] =
 (Lqbv none [.s a0, .l a1]).bind fun y1 =>
 (Lqb none [.i 5, .l a2, .i a3]).bind fun y2 =>
 cond ((g y2 0).int == 0) (
 (Lqb none [.i 2, .l ((g y2 1).list), .i ((g y2 2).int)]).bind fun y3 =>
 (Lqcg none [.s (⟨#[116]⟩ : ByteArray), .i (IntKind.i64.wrap (2000 + (g y3 0).int))]).bind fun y4 =>
 some [.s ((g y4 0).str), .l ((g y3 1).list), .i ((g y3 2).int), .l ((g y1 1).list)]) (
 cond ((g y2 0).int == 1) (
 cond (decide (((g y1 1).list).length + ([[.s (⟨#[120]⟩ : ByteArray)]] : Rw).length ≤ most)) (
 some [.s ((g y1 0).str), .l ((g y2 1).list), .i ((g y2 2).int), .l ((g y1 1).list ++ ([[.s (⟨#[120]⟩ : ByteArray)]] : Rw))]) (
 none)) (
 cond ((g y2 0).int == 2) (
 cond (decide (0 < (((g y1 1).list).length : Int))) (
 cond (inb 0 (((g y1 1).list).length)) (
 cond (decide (((g y1 1).list).length + ([[.s ((rd ((g y1 1).list) 0 0).str)]] : Rw).length ≤ most)) (
 some [.s ((g y1 0).str), .l ((g y2 1).list), .i ((g y2 2).int), .l ((g y1 1).list ++ ([[.s ((rd ((g y1 1).list) 0 0).str)]] : Rw))]) (
 none)) (
 none)) (
 some [.s ((g y1 0).str), .l ((g y2 1).list), .i ((g y2 2).int), .l ((g y1 1).list)])) (
 cond ((g y2 0).int == 3) (
 (Lqb none [.i 2, .l ((g y2 1).list), .i ((g y2 2).int)]).bind fun y5 =>
 Lqcj (some 15) [.i (IntKind.i64.wrap (30 + (g y5 0).int)), .i 0, .l ((g y5 1).list), .i ((g y5 2).int), .s (⟨#[]⟩ : ByteArray), .s ((g y1 0).str), .l [], .l ([] : Rw)]) (
 cond (decide (((g y1 0).str).size + (⟨#[122]⟩ : ByteArray).size ≤ most)) (
 some [.s (((g y1 0).str) ++ (⟨#[122]⟩ : ByteArray)), .l ((g y2 1).list), .i ((g y2 2).int), .l ((g y1 1).list)]) (
 none))))) := (Lim_eq _ _).trans (by kernel_rfl)
theorem eqcj_15 (a0 a1 : Int) (a2 : Rw) (a3 : Int) (a4 a5 : ByteArray) (a6 a7 : Rw) : Lqcj (some 15) [.i a0, .i a1, .l a2, .i a3, .s a4, .s a5, .l a6, .l a7] =
 cond (decide (a1 < a0)) (
 cond (decide (a7.length + ([[.s (bytesOf ([[.i (IntKind.u8.wrap (IntKind.i64.wrap (33 + a1)))]] : Rw))]] : Rw).length ≤ most)) (
 Lqcj (some 15) [.i a0, .i (IntKind.i64.wrap (a1 + 1)), .l a2, .i a3, .s a4, .s a5, .l a6, .l (a7 ++ ([[.s (bytesOf ([[.i (IntKind.u8.wrap (IntKind.i64.wrap (33 + a1)))]] : Rw))]] : Rw))]) (
 none)) (
 some [.s a5, .l a2, .i a3, .l a7]) := (Lim_eq _ _).trans (by kernel_rfl)
theorem kqcj : SigOk Tryz.prog (dqcj.sig (Lqcj none)) ∧ (dqcj.sig (Lqcj none)).ok = true := sound_lim (known_cons kqb (by kernel_rfl) (known_cons kqbv (by kernel_rfl) (known_cons kqcg (by kernel_rfl) known_nil))) (by kernel_rfl) (by kernel_rfl) (by kernel_rfl)
def dqbh : FD := { fn := 223, nb := 0, pre := ⟨[.sc (.i .i64 0)], []⟩, post := ⟨[.sc (.s 0)], []⟩, sh := false, cuts := [] }
noncomputable def Rqbh (n : Nat) : Option Nat → Lv → Option Lv := Nat.rec (fun _ _ => none) (fun _ r => Lim Tryz.prog [dqbh.sig (r none)] dqbh Tryz.f223) n
theorem eqbh_i (m : Nat) (a0 : Int) : Rqbh (m + 1) none [.i a0] =
 cond (decide (a0 < 10)) (
 some [.s (bytesOf ([[.i (IntKind.u8.wrap (IntKind.i64.wrap (48 + a0)))]] : Rw))]) (
 (Rqbh m none [.i (IntKind.i64.wrap (a0.tdiv 10))]).bind fun y1 =>
 cond (decide (((g y1 0).str).size + (bytesOf ([[.i (IntKind.u8.wrap (IntKind.i64.wrap (48 + (a0.tmod 10))))]] : Rw)).size ≤ most)) (
 some [.s (((g y1 0).str) ++ (bytesOf ([[.i (IntKind.u8.wrap (IntKind.i64.wrap (48 + (a0.tmod 10))))]] : Rw)))]) (
 none)) := (Lim_eq _ _).trans (by kernel_rfl)
theorem kRqbh : ∀ n, SigOk Tryz.prog (dqbh.sig (Rqbh n none)) ∧ (dqbh.sig (Rqbh n none)).ok = true
 | 0 => ⟨(fun w args x y X0 h1 h2 h3 h4 h5 h6 => nomatch h6), by kernel_rfl⟩
 | n + 1 => sound_lim (known_cons (kRqbh n) (by kernel_rfl) known_nil) (by kernel_rfl) (by kernel_rfl) (by kernel_rfl)
noncomputable def Lqbh : Option Nat → Lv → Option Lv := Rqbh 20
theorem kqbh : SigOk Tryz.prog (dqbh.sig (Lqbh none)) ∧ (dqbh.sig (Lqbh none)).ok = true := kRqbh 20
end KV
end
section
set_option maxRecDepth 100000
namespace KV
open Go Go.Eng Go.Proofs
def dqbi : FD := { fn := 196, nb := 0, pre := ⟨[.sc (.i .i64 0), .sc (.b 1)], []⟩, post := ⟨[.ag [.i .i64 0, .i .i64 1, .i .i64 2, .i .i64 3, .ow 0, .ow 1, .ow 2]], [.rw 90 true 4, .rw 156 true 5, .rw 158 true 6]⟩, sh := false, cuts := [⟨4, [0, 1, 4, 5, 6, 7], ⟨[.sc (.i .i64 0), .sc (.b 1), .sc (.pt 0 0), .sc (.pt 1 0), .sc (.s 2), .sc (.i .i64 3)], [.bx [.i .i64 4, .i .i64 5, .i .i64 6, .i .i64 7, .ow 2, .ow 3, .ow 4], .bx [.i .i64 8, .i .i64 9, .i .i64 10, .i .i64 11, .ow 5, .ow 6, .ow 7], .rw 90 true 12, .rw 156 true 13, .rw 158 true 14, .rw 90 true 15, .rw 156 true 16, .rw 158 true 17]⟩⟩, ⟨11, [0, 1, 4, 5, 6, 7, 8, 9], ⟨[.sc (.i .i64 0), .sc (.b 1), .sc (.pt 0 0), .sc (.pt 1 0), .sc (.s 2), .sc (.i .i64 3), .sc (.pt 2 0), .sc (.i .i64 4)], [.bx [.i .i64 5, .i .i64 6, .i .i64 7, .i .i64 8, .ow 3, .ow 4, .ow 5], .bx [.i .i64 9, .i .i64 10, .i .i64 11, .i .i64 12, .ow 6, .ow 7, .ow 8], .bx [.s 13, .ow 9], .rw 90 true 14, .rw 156 true 15, .rw 158 true 16, .rw 90 true 17, .rw 156 true 18, .rw 158 true 19, .rw 9 true 20]⟩⟩] }
noncomputable def Lqbi : Option Nat → Lv → Option Lv := Lim Tryz.prog [dql.sig (Lql none), dqg.sig (Lqg none), dqbh.sig (Lqbh none)] dqbi Tryz.f196
theorem eqbi_i (a0 : Int) (a1 : Bool) : Lqbi none [.i a0, .b a1] =
 Lqbi (some 4) [.i a0, .b a1, .s (⟨#[]⟩ : ByteArray), .i 1, .i 0, .i 0, .i 0, .i 0, .i 8, .i 0, .i 0, .i a0, .l [], .l [], .l [], .l [], .l [], .l []] := (Lim_eq _ _).trans (by kernel_rfl)
theorem eqbi_4 (a0 : Int) (a1 : Bool) (a2 : ByteArray) (a3 a4 a5 a6 a7 a8 a9 a10 a11 : Int) (a12 a13 a14 a15 a16 a17 : Rw) : Lqbi (some 4) [.i a0, .b a1, .s a2, .i a3, .i a4, .i a5, .i a6, .i a7, .i a8, .i a9, .i a10, .i a11, .l a12, .l a13, .l a14, .l a15, .l a16, .l a17] =
 cond (decide (a3 ≤ a0)) (
 (Lqbh none [.i a3]).bind fun y1 =>
 cond (!a1) (
 cond (!Eng.seq a2 (⟨#[]⟩ : ByteArray)) (
 (Lql none [.s ((g y1 0).str), .l ([[.s a2]] : Rw), .i 8]).bind fun y2 =>
 (Lqg none [.s ((g y2 0).str), .i 8]).bind fun y3 =>
 Lqbi (some 11) [.i a0, .b a1, .s ((g y3 0).str), .i a3, .i 0, .i a4, .i a5, .i a6, .i a7, .i a8, .i a9, .i a10, .i a11, .s ((g y1 0).str), .l a12, .l a13, .l a14, .l a15, .l a16, .l a17, .l ([[.s a2]] : Rw)]) (
 (Lql none [.s ((g y1 0).str), .l ([]), .i 8]).bind fun y4 =>
 (Lqg none [.s ((g y4 0).str), .i 8]).bind fun y5 =>
 Lqbi (some 11) [.i a0, .b a1, .s ((g y5 0).str), .i a3, .i 0, .i a4, .i a5, .i a6, .i a7, .i a8, .i a9, .i a10, .i a11, .s ((g y1 0).str), .l a12, .l a13, .l a14, .l a15, .l a16, .l a17, .l []])) (
 (Lql none [.s ((g y1 0).str), .l ([]), .i 8]).bind fun y6 =>
 (Lqg none [.s ((g y6 0).str), .i 8]).bind fun y7 =>
 Lqbi (some 11) [.i a0, .b a1, .s ((g y7 0).str), .i a3, .i 0, .i a4, .i a5, .i a6, .i a7, .i a8, .i a9, .i a10, .i a11, .s ((g y1 0).str), .l a12, .l a13, .l a14, .l a15, .l a16, .l a17, .l []])) (
 some [.i a8, .i a9, .i a10, .i a11, .l a15, .l a16, .l a17]) := (Lim_eq _ _).trans (by kernel_rfl)
theorem eqbi_11 (a0 : Int) (a1 : Bool) (a2 : ByteArray) (a3 a4 a5 a6 a7 a8 a9 a10 a11 a12 : Int) (a13 : ByteArray) (a14 a15 a16 a17 a18 a19 a20 : Rw) : Lqbi (some 11) [.i a0, .b a1, .s a2, .i a3, .i a4, .i a5, .i a6, .i a7, .i a8, .i a9, .i a10, .i a11, .i a12, .s a13, .l a14, .l a15, .l a16, .l a17, .l a18, .l a19, .l a20] =
 cond (decide (a4 < (a17.length : Int))) (
 cond (inb a4 a17.length) (
 cond (slt ((rd a17 a4.toNat 0).str) a2) (
 Lqbi (some 11) [.i a0, .b a1, .s a2, .i a3, .i (IntKind.i64.wrap (a4 + 1)), .i a5, .i a6, .i a7, .i a8, .i a9, .i a10, .i a11, .i a12, .s a13, .l a14, .l a15, .l a16, .l a17, .l a18, .l a19, .l a20]) (
 cond (decide (0 ≤ a4)) (
 cond (decide (a4 ≤ (a17.length : Int))) (
 cond (decide (([] : Rw).length + (Eng.sub a17 0 a4.toNat).length ≤ most)) (
 cond (decide ((([] : Rw) ++ (Eng.sub a17 0 a4.toNat)).length + ([[.s a2, .i a3, .s a13, .l a20]] : Rw).length ≤ most)) (
 cond (decide (0 ≤ a4)) (
 cond (decide (a4 ≤ (a17.length : Int))) (
 cond (decide (((([] : Rw) ++ (Eng.sub a17 0 a4.toNat)) ++ ([[.s a2, .i a3, .s a13, .l a20]] : Rw)).length + (Eng.sub a17 a4.toNat a17.length).length ≤ most)) (
 Lqbi (some 4) [.i a0, .b a1, .s a2, .i (IntKind.i64.wrap (a3 + 1)), .i a5, .i a6, .i a7, .i a8, .i a9, .i a10, .i a11, .i a12, .l a14, .l a15, .l a16, .l (((([] : Rw) ++ (Eng.sub a17 0 a4.toNat)) ++ ([[.s a2, .i a3, .s a13, .l a20]] : Rw)) ++ (Eng.sub a17 a4.toNat a17.length)), .l a18, .l a19]) (
 none)) (
 none)) (
 none)) (
 none)) (
 none)) (
 none)) (
 none))) (
 none)) (
 cond (decide (0 ≤ a4)) (
 cond (decide (a4 ≤ (a17.length : Int))) (
 cond (decide (([] : Rw).length + (Eng.sub a17 0 a4.toNat).length ≤ most)) (
 cond (decide ((([] : Rw) ++ (Eng.sub a17 0 a4.toNat)).length + ([[.s a2, .i a3, .s a13, .l a20]] : Rw).length ≤ most)) (
 cond (decide (0 ≤ a4)) (
 cond (decide (a4 ≤ (a17.length : Int))) (
 cond (decide (((([] : Rw) ++ (Eng.sub a17 0 a4.toNat)) ++ ([[.s a2, .i a3, .s a13, .l a20]] : Rw)).length + (Eng.sub a17 a4.toNat a17.length).length ≤ most)) (
 Lqbi (some 4) [.i a0, .b a1, .s a2, .i (IntKind.i64.wrap (a3 + 1)), .i a5, .i a6, .i a7, .i a8, .i a9, .i a10, .i a11, .i a12, .l a14, .l a15, .l a16, .l (((([] : Rw) ++ (Eng.sub a17 0 a4.toNat)) ++ ([[.s a2, .i a3, .s a13, .l a20]] : Rw)) ++ (Eng.sub a17 a4.toNat a17.length)), .l a18, .l a19]) (
 none)) (
 none)) (
 none)) (
 none)) (
 none)) (
 none)) (
 none)) := (Lim_eq _ _).trans (by kernel_rfl)
theorem kqbi : SigOk Tryz.prog (dqbi.sig (Lqbi none)) ∧ (dqbi.sig (Lqbi none)).ok = true := sound_lim (known_cons kql (by kernel_rfl) (known_cons kqg (by kernel_rfl) (known_cons kqbh (by kernel_rfl) known_nil))) (by kernel_rfl) (by kernel_rfl) (by kernel_rfl)
def dqc8 : FD := { fn := 195, nb := 1, pre := ⟨[.sc (.pt 0 0), .ag [.i .i64 0, .i .i64 1, .i .i64 2, .i .i64 3, .fz 90 false 4, .fz 156 false 5, .fz 158 false 6]], [.bx [.fz 5 false 7, .i .i64 8]]⟩, post := ⟨[.ag [.i .i64 0, .i .i64 1, .i .i64 2, .i .i64 3, .ow 1, .ow 2, .ow 3]], [.bx [.fz 5 false 4, .i .i64 5], .rw 90 true 6, .rw 156 true 7, .rw 158 true 8]⟩, sh := true, cuts := [] }
noncomputable def Lqc8 : Option Nat → Lv → Option Lv := Lim Tryz.prog [dqb.sig (Lqb none), dqcj.sig (Lqcj none), dqg.sig (Lqg none), dqr.sig (Lqr none), dqbi.sig (Lqbi none)] dqc8 Tryz.f195
theorem eqc8_i (a0 a1 a2 a3 : Int) (a4 a5 a6 a7 : Rw) (a8 : Int) : Lqc8 none [.i a0, .i a1, .i a2, .i a3, .l a4, .l a5, .l a6, .l a7, .i a8] =
 (Lqr none [.i a0, .i a1, .i a2, .i a3, .l a4, .l a5, .l a6]).bind fun y1 =>
 (Lqb none [.i (((g y1 4).list).length : Int), .l a7, .i a8]).bind fun y2 =>
 (Lqb none [.i 12, .l ((g y2 1).list), .i ((g y2 2).int)]).bind fun y3 =>
 cond ((g y3 0).int == 0) (
 (Lqb none [.i 11, .l ((g y3 1).list), .i ((g y3 2).int)]).bind fun y4 =>
 some [.i (IntKind.i64.wrap ((g y4 0).int - 1)), .i ((g y1 1).int), .i ((g y1 2).int), .i ((g y1 3).int), .l ((g y4 1).list), .i ((g y4 2).int), .l ((g y1 4).list), .l ((g y1 5).list), .l ((g y1 6).list)]) (
 cond ((g y3 0).int == 1) (
 (Lqb none [.i 3, .l ((g y3 1).list), .i ((g y3 2).int)]).bind fun y5 =>
 cond (inb ((g y5 0).int) (([[.i (-1)], [.i 1000000000], [.i 1000000001]] : Rw).length)) (
 some [.i ((g y1 0).int), .i ((rd ([[.i (-1)], [.i 1000000000], [.i 1000000001]] : Rw) (((g y5 0).int).toNat) 0).int), .i ((g y1 2).int), .i ((g y1 3).int), .l ((g y5 1).list), .i ((g y5 2).int), .l ((g y1 4).list), .l ((g y1 5).list), .l ((g y1 6).list)]) (
 none)) (
 cond ((g y3 0).int == 2) (
 (Lqb none [.i 5, .l ((g y3 1).list), .i ((g y3 2).int)]).bind fun y6 =>
 cond (inb ((g y6 0).int) (([[.i (-1)], [.i 0], [.i 1], [.i 1000000000], [.i 1000000001]] : Rw).length)) (
 some [.i ((g y1 0).int), .i ((g y1 1).int), .i ((g y1 2).int), .i ((rd ([[.i (-1)], [.i 0], [.i 1], [.i 1000000000], [.i 1000000001]] : Rw) (((g y6 0).int).toNat) 0).int), .l ((g y6 1).list), .i ((g y6 2).int), .l ((g y1 4).list), .l ((g y1 5).list), .l ((g y1 6).list)]) (
 none)) (
 cond ((g y3 0).int == 3) (
 (Lqb none [.i 4, .l ((g y3 1).list), .i ((g y3 2).int)]).bind fun y7 =>
 cond (inb ((g y7 0).int) (([[.i (-1)], [.i 0], [.i 1000000000], [.i 1000000001]] : Rw).length)) (
 some [.i ((g y1 0).int), .i ((g y1 1).int), .i ((rd ([[.i (-1)], [.i 0], [.i 1000000000], [.i 1000000001]] : Rw) (((g y7 0).int).toNat) 0).int), .i ((g y1 3).int), .l ((g y7 1).list), .i ((g y7 2).int), .l ((g y1 4).list), .l ((g y1 5).list), .l ((g y1 6).list)]) (
 none)) (
 cond ((g y3 0).int == 4) (
 cond (decide (0 < (((g y1 4).list).length : Int))) (
 cond (inb ((g y2 0).int) (((g y1 4).list).length)) (
 (Lqcj none [.s ((rd ((g y1 4).list) (((g y2 0).int).toNat) 2).str), .l ((rd ((g y1 4).list) (((g y2 0).int).toNat) 3).list), .l ((g y3 1).list), .i ((g y3 2).int)]).bind fun y8 =>
 cond (inb ((g y2 0).int) (((g y1 4).list).length)) (
 some [.i ((g y1 0).int), .i ((g y1 1).int), .i ((g y1 2).int), .i ((g y1 3).int), .l ((g y8 1).list), .i ((g y8 2).int), .l (wrs ((g y1 4).list) (((g y2 0).int).toNat) 2 ([.s ((g y8 0).str), .l ((g y8 3).list)] : List C)), .l ((g y1 5).list), .l ((g y1 6).list)]) (
 none)) (
 none)) (
 some [.i ((g y1 0).int), .i ((g y1 1).int), .i ((g y1 2).int), .i ((g y1 3).int), .l ((g y3 1).list), .i ((g y3 2).int), .l ((g y1 4).list), .l ((g y1 5).list), .l ((g y1 6).list)])) (
 cond ((g y3 0).int == 5) (
 cond (decide (1 < (((g y1 4).list).length : Int))) (
 cond (inb 1 (((g y1 4).list).length)) (
 cond (inb 0 (((g y1 4).list).length)) (
 some [.i ((g y1 0).int), .i ((g y1 1).int), .i ((g y1 2).int), .i ((g y1 3).int), .l ((g y3 1).list), .i ((g y3 2).int), .l (wrs ((g y1 4).list) 0 1 ([.i ((rd ((g y1 4).list) 1 1).int)] : List C)), .l ((g y1 5).list), .l ((g y1 6).list)]) (
 none)) (
 none)) (
 some [.i ((g y1 0).int), .i ((g y1 1).int), .i ((g y1 2).int), .i ((g y1 3).int), .l ((g y3 1).list), .i ((g y3 2).int), .l ((g y1 4).list), .l ((g y1 5).list), .l ((g y1 6).list)])) (
 cond ((g y3 0).int == 6) (
 cond (decide (0 < (((g y1 4).list).length : Int))) (
 cond (decide (0 ≤ (g y2 0).int)) (
 cond (decide ((g y2 0).int ≤ (((g y1 4).list).length : Int))) (
 cond (decide (([] : Rw).length + (Eng.sub ((g y1 4).list) 0 ((g y2 0).int).toNat).length ≤ most)) (
 cond (decide (0 ≤ (IntKind.i64.wrap ((g y2 0).int + 1)))) (
 cond (decide ((IntKind.i64.wrap ((g y2 0).int + 1)) ≤ (((g y1 4).list).length : Int))) (
 cond (decide ((([] : Rw) ++ (Eng.sub ((g y1 4).list) 0 ((g y2 0).int).toNat)).length + (Eng.sub ((g y1 4).list) (IntKind.i64.wrap ((g y2 0).int + 1)).toNat ((g y1 4).list).length).length ≤ most)) (
 some [.i ((g y1 0).int), .i ((g y1 1).int), .i ((g y1 2).int), .i ((g y1 3).int), .l ((g y3 1).list), .i ((g y3 2).int), .l ((([] : Rw) ++ (Eng.sub ((g y1 4).list) 0 ((g y2 0).int).toNat)) ++ (Eng.sub ((g y1 4).list) (IntKind.i64.wrap ((g y2 0).int + 1)).toNat ((g y1 4).list).length)), .l ((g y1 5).list), .l ((g y1 6).list)]) (
 none)) (
 none)) (
 none)) (
 none)) (
 none)) (
 none)) (
 some [.i ((g y1 0).int), .i ((g y1 1).int), .i ((g y1 2).int), .i ((g y1 3).int), .l ((g y3 1).list), .i ((g y3 2).int), .l ((g y1 4).list), .l ((g y1 5).list), .l ((g y1 6).list)])) (
 cond ((g y3 0).int == 7) (
 (Lqb none [.i 4, .l ((g y3 1).list), .i ((g y3 2).int)]).bind fun y9 =>
 cond (inb ((g y9 0).int) (([[.s (⟨#[112]⟩ : ByteArray)], [.s (⟨#[122]⟩ : ByteArray)], [.s (⟨#[]⟩ : ByteArray)], [.s (⟨#[120, 32, 121]⟩ : ByteArray)]] : Rw).length)) (
 (Lqg none [.s (⟨#[113]⟩ : ByteArray), .i a0]).bind fun y10 =>
 cond (decide (((g y1 5).list).length + ([[.s ((rd ([[.s (⟨#[112]⟩ : ByteArray)], [.s (⟨#[122]⟩ : ByteArray)], [.s (⟨#[]⟩ : ByteArray)], [.s (⟨#[120, 32, 121]⟩ : ByteArray)]] : Rw) (((g y9 0).int).toNat) 0).str), .s ((g y10 0).str)]] : Rw).length ≤ most)) (
 some [.i ((g y1 0).int), .i ((g y1 1).int), .i ((g y1 2).int), .i ((g y1 3).int), .l ((g y9 1).list), .i ((g y9 2).int), .l ((g y1 4).list), .l ((g y1 5).list ++ ([[.s ((rd ([[.s (⟨#[112]⟩ : ByteArray)], [.s (⟨#[122]⟩ : ByteArray)], [.s (⟨#[]⟩ : ByteArray)], [.s (⟨#[120, 32, 121]⟩ : ByteArray)]] : Rw) (((g y9 0).int).toNat) 0).str), .s ((g y10 0).str)]] : Rw)), .l ((g y1 6).list)]) (
 none)) (
 none)) (
 cond ((g y3 0).int == 8) (
 cond (decide (0 < (((g y1 4).list).length : Int))) (
 (Lqb none [.i 2, .l ((g y3 1).list), .i ((g y3 2).int)]).bind fun y11 =>
 cond (inb ((g y11 0).int) (([[.s (⟨#[97]⟩ : ByteArray)], [.s (⟨#[122]⟩ : ByteArray)]] : Rw).length)) (
 cond (inb ((g y2 0).int) (((g y1 4).list).length)) (
 cond (decide (((g y1 5).list).length + ([[.s ((rd ([[.s (⟨#[97]⟩ : ByteArray)], [.s (⟨#[122]⟩ : ByteArray)]] : Rw) (((g y11 0).int).toNat) 0).str), .s ((rd ((g y1 4).list) (((g y2 0).int).toNat) 0).str)]] : Rw).length ≤ most)) (
 some [.i ((g y1 0).int), .i ((g y1 1).int), .i ((g y1 2).int), .i ((g y1 3).int), .l ((g y11 1).list), .i ((g y11 2).int), .l ((g y1 4).list), .l ((g y1 5).list ++ ([[.s ((rd ([[.s (⟨#[97]⟩ : ByteArray)], [.s (⟨#[122]⟩ : ByteArray)]] : Rw) (((g y11 0).int).toNat) 0).str), .s ((rd ((g y1 4).list) (((g y2 0).int).toNat) 0).str)]] : Rw)), .l ((g y1 6).list)]) (
 none)) (
 none)) (
 none)) (
 some [.i ((g y1 0).int), .i ((g y1 1).int), .i ((g y1 2).int), .i ((g y1 3).int), .l ((g y3 1).list), .i ((g y3 2).int), .l ((g y1 4).list), .l ((g y1 5).list), .l ((g y1 6).list)])) (
 cond ((g y3 0).int == 9) (
 cond (decide (0 < (((g y1 6).list).length : Int))) (
 (Lqb none [.i 4, .l ((g y3 1).list), .i ((g y3 2).int)]).bind fun y12 =>
 cond (inb ((g y12 0).int) (([[.i 0], [.i 1], [.i 100000], [.i 100001]] : Rw).length)) (
 cond (inb 0 (((g y1 6).list).length)) (
 some [.i ((g y1 0).int), .i ((g y1 1).int), .i ((g y1 2).int), .i ((g y1 3).int), .l ((g y12 1).list), .i ((g y12 2).int), .l ((g y1 4).list), .l ((g y1 5).list), .l (wrs ((g y1 6).list) 0 2 ([.i (IntKind.i64.wrap ((g y1 1).int + (rd ([[.i 0], [.i 1], [.i 100000], [.i 100001]] : Rw) (((g y12 0).int).toNat) 0).int))] : List C))]) (
 none)) (
 none)) (
 some [.i ((g y1 0).int), .i ((g y1 1).int), .i ((g y1 2).int), .i ((g y1 3).int), .l ((g y3 1).list), .i ((g y3 2).int), .l ((g y1 4).list), .l ((g y1 5).list), .l ((g y1 6).list)])) (
 cond ((g y3 0).int == 10) (
 cond (decide (0 < (((g y1 6).list).length : Int))) (
 (Lqb none [.i 3, .l ((g y3 1).list), .i ((g y3 2).int)]).bind fun y13 =>
 cond (inb ((g y13 0).int) (([[.i 0], [.i ((g y1 2).int)], [.i (IntKind.i64.wrap ((g y1 2).int + 1))]] : Rw).length)) (
 cond (inb 0 (((g y1 6).list).length)) (
 some [.i ((g y1 0).int), .i ((g y1 1).int), .i ((g y1 2).int), .i ((g y1 3).int), .l ((g y13 1).list), .i ((g y13 2).int), .l ((g y1 4).list), .l ((g y1 5).list), .l (wrs ((g y1 6).list) 0 0 ([.i ((rd ([[.i 0], [.i ((g y1 2).int)], [.i (IntKind.i64.wrap ((g y1 2).int + 1))]] : Rw) (((g y13 0).int).toNat) 0).int)] : List C))]) (
 none)) (
 none)) (
 some [.i ((g y1 0).int), .i ((g y1 1).int), .i ((g y1 2).int), .i ((g y1 3).int), .l ((g y3 1).list), .i ((g y3 2).int), .l ((g y1 4).list), .l ((g y1 5).list), .l ((g y1 6).list)])) (
 (Lqb none [.i 2, .l ((g y3 1).list), .i ((g y3 2).int)]).bind fun y14 =>
 (Lqb none [.i 2, .l ((g y14 1).list), .i ((g y14 2).int)]).bind fun y15 =>
 (Lqbi none [.i (IntKind.i64.wrap (600 + (g y14 0).int)), .b ((g y15 0).int == 0)]).bind fun y16 =>
 some [.i ((g y16 0).int), .i ((g y16 1).int), .i ((g y16 2).int), .i ((g y16 3).int), .l ((g y15 1).list), .i ((g y15 2).int), .l ((g y16 4).list), .l ((g y16 5).list), .l ((g y16 6).list)]))))))))))) := (Lim_eq _ _).trans (by kernel_rfl)
theorem kqc8 : SigOk Tryz.prog (dqc8.sig (Lqc8 none)) ∧ (dqc8.sig (Lqc8 none)).ok = true := sound_lim (known_cons kqb (by kernel_rfl) (known_cons kqcj (by kernel_rfl) (known_cons kqg (by kernel_rfl) (known_cons kqr (by kernel_rfl) (known_cons kqbi (by kernel_rfl) known_nil))))) (by kernel_rfl) (by kernel_rfl) (by kernel_rfl)
def dqc9 : FD := { fn := 232, nb := 0, pre := ⟨[.ag [.i .i64 0, .i .i64 1, .i .i64 2, .i .i64 3, .fz 90 false 4, .fz 156 false 5, .fz 158 false 6], .ag [.i .i64 7, .fz 9 false 8, .fz 9 false 9, .i .i64 10, .i .i64 11, .i .i64 12]], []⟩, post := ⟨[.sc (.b 0)], []⟩, sh := false, cuts := [] }
noncomputable def Lqc9 : Option Nat → Lv → Option Lv := Lim Tryz.prog [dqs.sig (Lqs none), dqt.sig (Lqt none)] dqc9 Tryz.f232
theorem eqc9_i (a0 a1 a2 a3 : Int) (a4 a5 a6 : Rw) (a7 : Int) (a8 a9 : Rw) (a10 a11 a12 : Int) : Lqc9 none [.i a0, .i a1, .i a2, .i a3, .l a4, .l a5, .l a6, .i a7, .l a8, .l a9, .i a10, .i a11, .i a12] =
 (Lqt none [.i a0, .i a1, .i a2, .i a3, .l a4, .l a5, .l a6]).bind fun y1 =>
 cond ((g y1 0).bool) (
 (Lqs none [.i a0, .i a1, .i a2, .i a3, .l a4, .l a5, .l a6, .i a7, .l a8, .l a9, .i a10, .i a11, .i a12]).bind fun y2 =>
 some [.b ((g y2 0).bool)]) (
 some [.b false]) := (Lim_eq _ _).trans (by kernel_rfl)
theorem kqc9 : SigOk Tryz.prog (dqc9.sig (Lqc9 none)) ∧ (dqc9.sig (Lqc9 none)).ok = true := sound_lim (known_cons kqs (by kernel_rfl) (known_cons kqt (by kernel_rfl) known_nil)) (by kernel_rfl) (by kernel_rfl) (by kernel_rfl)
def dqda : FD := { fn := 224, nb := 0, pre := ⟨[.ag [.i .i64 0, .i .i64 1, .i .i64 2, .i .i64 3, .fz 90 false 4, .fz 156 false 5, .fz 158 false 6], .ag [.i .i64 7, .fz 9 false 8, .fz 9 false 9, .i .i64 10, .i .i64 11, .i .i64 12]], []⟩, post := ⟨[.ag [.i .i64 0, .i .i64 1, .i .i64 2, .i .i64 3, .i .i64 4, .ow 0, .ow 1, .ow 2, .i .i64 5, .fz 9 true 6, .fz 9 true 7, .i .i64 8, .i .i64 9, .i .i64 10, .ow 3]], [.rw 90 true 11, .rw 156 true 12, .rw 158 true 13, .rw 9 true 14]⟩, sh := false, cuts := [] }
noncomputable def Lqda : Option Nat → Lv → Option Lv := Lim Tryz.prog [dqr.sig (Lqr none), dqbj.sig (Lqbj none), dqbk.sig (Lqbk none), dqc9.sig (Lqc9 none)] dqda Tryz.f224
theorem eqda_i (a0 a1 a2 a3 : Int) (a4 a5 a6 : Rw) (a7 : Int) (a8 a9 : Rw) (a10 a11 a12 : Int) : Lqda none [.i a0, .i a1, .i a2, .i a3, .l a4, .l a5, .l a6, .i a7, .l a8, .l a9, .i a10, .i a11, .i a12] =
 (Lqc9 none [.i a0, .i a1, .i a2, .i a3, .l a4, .l a5, .l a6, .i a7, .l a8, .l a9, .i a10, .i a11, .i a12]).bind fun y1 =>
 cond (!(g y1 0).bool) (
 some [.i 1, .i 0, .i 0, .i 0, .i 0, .i 0, .l ([]), .l ([]), .i 0, .i 0, .i 0, .l [], .l [], .l [], .l []]) (
 cond (decide (1000000000 ≤ a12)) (
 some [.i 1, .i 0, .i 0, .i 0, .i 0, .i 0, .l ([]), .l ([]), .i 0, .i 0, .i 0, .l [], .l [], .l [], .l []]) (
 (Lqr none [.i a0, .i a1, .i a2, .i a3, .l a4, .l a5, .l a6]).bind fun y2 =>
 (Lqbj none [.i a7, .l a8, .l a9, .i a10, .i a11, .i a12]).bind fun y3 =>
 (Lqbk none [.i ((g y2 0).int), .i ((g y2 1).int), .i ((g y2 2).int), .i ((g y2 3).int), .l ((g y2 4).list), .l ((g y2 5).list), .l ((g y2 6).list), .i ((g y3 0).int), .l ((g y3 4).list), .l ((g y3 5).list), .i ((g y3 1).int), .i ((g y3 2).int), .i ((g y3 3).int)]).bind fun y4 =>
 (Lqr none [.i ((g y4 1).int), .i ((g y4 2).int), .i ((g y4 3).int), .i ((g y4 4).int), .l ((g y4 5).list), .l ((g y4 6).list), .l ((g y4 7).list)]).bind fun y5 =>
 some [.i ((g y4 0).int), .i ((g y5 0).int), .i ((g y5 1).int), .i ((g y5 2).int), .i ((g y5 3).int), .i ((g y4 8).int), .l ((g y4 9).list), .l ((g y4 10).list), .i ((g y4 11).int), .i ((g y4 12).int), .i ((g y4 13).int), .l ((g y5 4).list), .l ((g y5 5).list), .l ((g y5 6).list), .l ((g y4 14).list)])) := (Lim_eq _ _).trans (by kernel_rfl)
theorem kqda : SigOk Tryz.prog (dqda.sig (Lqda none)) ∧ (dqda.sig (Lqda none)).ok = true := sound_lim (known_cons kqr (by kernel_rfl) (known_cons kqbj (by kernel_rfl) (known_cons kqbk (by kernel_rfl) (known_cons kqc9 (by kernel_rfl) known_nil)))) (by kernel_rfl) (by kernel_rfl) (by kernel_rfl)
def dqbc : FD := { fn := 197, nb := 1, pre := ⟨[.sc (.pt 0 0)], [.bx [.fz 5 false 0, .i .i64 1]]⟩, post := ⟨[.ag [.i .i64 0, .i .i64 1, .ow 1, .ow 2, .i .i64 2, .i .i64 3, .i .i64 4, .i .i64 5, .ow 3, .ow 4, .ow 5, .i .i64 6, .fz 9 true 7, .fz 9 true 8, .i .i64 9, .i .i64 10, .i .i64 11]], [.bx [.fz 5 false 12, .i .i64 13], .rw 9 true 14, .rw 9 true 15, .rw 90 true 16, .rw 156 true 17, .rw 158 true 18]⟩, sh := true, cuts := [⟨5, [0, 2, 3, 4, 5, 6], ⟨[.sc (.pt 0 0), .sc (.pt 1 0), .sc (.i .i64 0), .sc (.pt 2 0), .sc (.s 1), .sc (.i .i64 2)], [.bx [.fz 5 false 3, .i .i64 4], .bx [.i .i64 5, .i .i64 6, .ow 3, .ow 4, .i .i64 7, .i .i64 8, .i .i64 9, .i .i64 10, .ow 5, .ow 6, .ow 7, .i .i64 11, .ow 8, .ow 9, .i .i64 12, .i .i64 13, .i .i64 14], .bx [.ow 10, .ow 11], .rw 9 true 15, .rw 9 true 16, .rw 90 true 17, .rw 156 true 18, .rw 158 true 19, .rw 9 true 20, .rw 9 true 21, .rw 9 true 22, .rw 9 true 23]⟩⟩, ⟨14, [0, 2, 3, 4, 8, 9], ⟨[.sc (.pt 0 0), .sc (.pt 1 0), .sc (.i .i64 0), .sc (.pt 2 0), .sc (.s 1), .sc (.i .i64 2)], [.bx [.fz 5 false 3, .i .i64 4], .bx [.i .i64 5, .i .i64 6, .ow 3, .ow 4, .i .i64 7, .i .i64 8, .i .i64 9, .i .i64 10, .ow 5, .ow 6, .ow 7, .i .i64 11, .ow 8, .ow 9, .i .i64 12, .i .i64 13, .i .i64 14], .bx [.ow 10, .ow 11], .rw 9 true 15, .rw 9 true 16, .rw 90 true 17, .rw 156 true 18, .rw 158 true 19, .rw 9 true 20, .rw 9 true 21, .rw 9 true 22, .rw 9 true 23]⟩⟩, ⟨18, [2, 10, 12], ⟨[.sc (.pt 1 0), .sc (.pt 2 0), .sc (.i .i64 0)], [.bx [.fz 5 false 1, .i .i64 2], .bx [.i .i64 3, .i .i64 4, .ow 3, .ow 4, .i .i64 5, .i .i64 6, .i .i64 7, .i .i64 8, .ow 5, .ow 6, .ow 7, .i .i64 9, .ow 8, .ow 9, .i .i64 10, .i .i64 11, .i .i64 12], .bx [.i .i64 13, .i .i64 14, .ow 10, .ow 11, .i .i64 15, .i .i64 16, .i .i64 17, .i .i64 18, .ow 12, .ow 13, .ow 14, .i .i64 19, .fz 9 true 20, .fz 9 true 21, .i .i64 22, .i .i64 23, .i .i64 24], .rw 9 true 25, .rw 9 true 26, .rw 90 true 27, .rw 156 true 28, .rw 158 true 29, .rw 9 true 30, .rw 9 true 31, .rw 9 true 32, .rw 9 true 33, .rw 90 true 34, .rw 156 true 35, .rw 158 true 36]⟩⟩] }
noncomputable def Lqbc : Option Nat → Lv → Option Lv := Lim Tryz.prog [dql.sig (Lql none), dqb.sig (Lqb none), dqg.sig (Lqg none), dqx.sig (Lqx none), dqbx.sig (Lqbx none), dqbh.sig (Lqbh none), dqda.sig (Lqda none)] dqbc Tryz.f197
theorem eqbc_i (a0 : Rw) (a1 : Int) : Lqbc none [.l a0, .i a1] =
 (Lqb none [.i 2, .l a0, .i a1]).bind fun y1 =>
 cond (inb ((g y1 0).int) (([[.i 8], [.i 1]] : Rw).length)) (
 Lqbc (some 5) [.i ((rd ([[.i 8], [.i 1]] : Rw) (((g y1 0).int).toNat) 0).int), .s (⟨#[]⟩ : ByteArray), .i 0, .l ((g y1 1).list), .i ((g y1 2).int), .i 0, .i 0, .i 0, .i 0, .i 0, .i 0, .i 0, .i 0, .i 0, .i 0, .l [], .l [], .l [], .l [], .l [], .l [], .l [], .l [], .l []]) (
 none) := (Lim_eq _ _).trans (by kernel_rfl)
theorem eqbc_5 (a0 : Int) (a1 : ByteArray) (a2 : Int) (a3 : Rw) (a4 a5 a6 a7 a8 a9 a10 a11 a12 a13 a14 : Int) (a15 a16 a17 a18 a19 a20 a21 a22 a23 : Rw) : Lqbc (some 5) [.i a0, .s a1, .i a2, .l a3, .i a4, .i a5, .i a6, .i a7, .i a8, .i a9, .i a10, .i a11, .i a12, .i a13, .i a14, .l a15, .l a16, .l a17, .l a18, .l a19, .l a20, .l a21, .l a22, .l a23] =
 cond (decide (a2 < 4)) (
 (Lqbh none [.i a2]).bind fun y1 =>
 cond (decide ((⟨#[102, 117, 108, 108]⟩ : ByteArray).size + ((g y1 0).str).size ≤ most)) (
 cond (!Eng.seq a1 (⟨#[]⟩ : ByteArray)) (
 (Lql none [.s ((⟨#[102, 117, 108, 108]⟩ : ByteArray) ++ ((g y1 0).str)), .l ([[.s a1]] : Rw), .i a0]).bind fun y2 =>
 (Lqg none [.s ((g y2 0).str), .i a0]).bind fun y3 =>
 (Lqx none [.i 1, .s (⟨#[]⟩ : ByteArray), .s (⟨#[]⟩ : ByteArray), .i 1, .s ((⟨#[102, 117, 108, 108]⟩ : ByteArray) ++ ((g y1 0).str)), .l ([[.s a1]] : Rw), .i a0]).bind fun y4 =>
 cond (decide (a22.length + ([[.s ((g y4 0).str)]] : Rw).length ≤ most)) (
 Lqbc (some 5) [.i a0, .s ((g y3 0).str), .i (IntKind.i64.wrap (a2 + 1)), .l a3, .i a4, .i a5, .i a6, .i a7, .i a8, .i a9, .i a10, .i a11, .i a12, .i a13, .i a14, .l a15, .l a16, .l a17, .l a18, .l a19, .l a20, .l a21, .l (a22 ++ ([[.s ((g y4 0).str)]] : Rw)), .l a23]) (
 none)) (
 (Lql none [.s ((⟨#[102, 117, 108, 108]⟩ : ByteArray) ++ ((g y1 0).str)), .l ([]), .i a0]).bind fun y5 =>
 (Lqg none [.s ((g y5 0).str), .i a0]).bind fun y6 =>
 (Lqx none [.i 1, .s (⟨#[]⟩ : ByteArray), .s (⟨#[]⟩ : ByteArray), .i 1, .s ((⟨#[102, 117, 108, 108]⟩ : ByteArray) ++ ((g y1 0).str)), .l ([]), .i a0]).bind fun y7 =>
 cond (decide (a22.length + ([[.s ((g y7 0).str)]] : Rw).length ≤ most)) (
 Lqbc (some 5) [.i a0, .s ((g y6 0).str), .i (IntKind.i64.wrap (a2 + 1)), .l a3, .i a4, .i a5, .i a6, .i a7, .i a8, .i a9, .i a10, .i a11, .i a12, .i a13, .i a14, .l a15, .l a16, .l a17, .l a18, .l a19, .l a20, .l a21, .l (a22 ++ ([[.s ((g y7 0).str)]] : Rw)), .l a23]) (
 none))) (
 none)) (
 (Lqx none [.i 6, .s (⟨#[]⟩ : ByteArray), .s (⟨#[]⟩ : ByteArray), .i 1, .s (⟨#[]⟩ : ByteArray), .l ([]), .i a0]).bind fun y8 =>
 (Lqb none [.i 4, .l a3, .i a4]).bind fun y9 =>
 Lqbc (some 14) [.i a0, .s ((g y8 0).str), .i (IntKind.i64.wrap (4000 - (g y9 0).int)), .l ((g y9 1).list), .i ((g y9 2).int), .i a5, .i a6, .i a7, .i a8, .i a9, .i a10, .i a11, .i a12, .i a13, .i a14, .l a15, .l a16, .l a17, .l a18, .l a19, .l a20, .l a21, .l a22, .l a23]) := (Lim_eq _ _).trans (by kernel_rfl)
theorem eqbc_14 (a0 : Int) (a1 : ByteArray) (a2 : Int) (a3 : Rw) (a4 a5 a6 a7 a8 a9 a10 a11 a12 a13 a14 : Int) (a15 a16 a17 a18 a19 a20 a21 a22 a23 : Rw) : Lqbc (some 14) [.i a0, .s a1, .i a2, .l a3, .i a4, .i a5, .i a6, .i a7, .i a8, .i a9, .i a10, .i a11, .i a12, .i a13, .i a14, .l a15, .l a16, .l a17, .l a18, .l a19, .l a20, .l a21, .l a22, .l a23] =
 cond (decide ((a22.length : Int) < a2)) (
 cond (decide (a22.length + ([[.s a1]] : Rw).length ≤ most)) (
 Lqbc (some 14) [.i a0, .s a1, .i a2, .l a3, .i a4, .i a5, .i a6, .i a7, .i a8, .i a9, .i a10, .i a11, .i a12, .i a13, .i a14, .l a15, .l a16, .l a17, .l a18, .l a19, .l a20, .l a21, .l (a22 ++ ([[.s a1]] : Rw)), .l a23]) (
 none)) (
 (Lqb none [.i 2, .l a3, .i a4]).bind fun y1 =>
 cond (inb ((g y1 0).int) (([[.i 1000000], [.i 60]] : Rw).length)) (
 (Lqbx none [.i a0, .i ((rd ([[.i 1000000], [.i 60]] : Rw) (((g y1 0).int).toNat) 0).int), .l a22, .l a23]).bind fun y2 =>
 (Lqb none [.i 14, .l ((g y1 1).list), .i ((g y1 2).int)]).bind fun y3 =>
 Lqbc (some 18) [.i ((g y3 0).int), .l ((g y3 1).list), .i ((g y3 2).int), .i a5, .i a6, .i a7, .i a8, .i a9, .i a10, .i a11, .i a12, .i a13, .i a14, .i ((g y2 0).int), .i ((g y2 1).int), .i ((g y2 2).int), .i ((g y2 3).int), .i ((g y2 4).int), .i ((g y2 5).int), .i ((g y2 6).int), .l ((g y2 7).list), .l ((g y2 8).list), .i ((g y2 9).int), .i ((g y2 10).int), .i ((g y2 11).int), .l a15, .l a16, .l a17, .l a18, .l a19, .l a20, .l a21, .l ((g y2 13).list), .l ((g y2 14).list), .l ((g y2 15).list), .l ((g y2 16).list), .l ((g y2 17).list)]) (
 none)) := (Lim_eq _ _).trans (by kernel_rfl)
theorem eqbc_18 (a0 : Int) (a1 : Rw) (a2 a3 a4 a5 a6 a7 a8 a9 a10 a11 a12 a13 a14 a15 a16 a17 a18 a19 : Int) (a20 a21 : Rw) (a22 a23 a24 : Int) (a25 a26 a27 a28 a29 a30 a31 a32 a33 a34 a35 a36 : Rw) : Lqbc (some 18) [.i a0, .l a1, .i a2, .i a3, .i a4, .i a5, .i a6, .i a7, .i a8, .i a9, .i a10, .i a11, .i a12, .i a13, .i a14, .i a15, .i a16, .i a17, .i a18, .i a19, .l a20, .l a21, .i a22, .i a23, .i a24, .l a25, .l a26, .l a27, .l a28, .l a29, .l a30, .l a31, .l a32, .l a33, .l a34, .l a35, .l a36] =
 cond (decide (0 < a0)) (
 (Lqda none [.i a15, .i a16, .i a17, .i a18, .l a34, .l a35, .l a36, .i a19, .l a20, .l a21, .i a22, .i a23, .i a24]).bind fun y1 =>
 cond (decide (0 < (((g y1 14).list).length : Int))) (
 some [.i a13, .i a14, .i a15, .i a16, .i a17, .i a18, .i a19, .l a20, .l a21, .i a22, .i a23, .i a24, .l a1, .i a2, .l a32, .l a33, .l a34, .l a35, .l a36]) (
 Lqbc (some 18) [.i (IntKind.i64.wrap (a0 - 1)), .l a1, .i a2, .i a3, .i a4, .i a5, .i a6, .i a7, .i a8, .i a9, .i a10, .i a11, .i a12, .i a13, .i a14, .i a15, .i a16, .i a17, .i a18, .i ((g y1 5).int), .l ((g y1 6).list), .l ((g y1 7).list), .i ((g y1 8).int), .i ((g y1 9).int), .i ((g y1 10).int), .l a25, .l a26, .l a27, .l a28, .l a29, .l a30, .l a31, .l a32, .l a33, .l a34, .l a35, .l a36])) (
 some [.i a13, .i a14, .i a15, .i a16, .i a17, .i a18, .i a19, .l a20, .l a21, .i a22, .i a23, .i a24, .l a1, .i a2, .l a32, .l a33, .l a34, .l a35, .l a36]) := (Lim_eq _ _).trans (by kernel_rfl)
theorem kqbc : SigOk Tryz.prog (dqbc.sig (Lqbc none)) ∧ (dqbc.sig (Lqbc none)).ok = true := sound_lim (known_cons kql (by kernel_rfl) (known_cons kqb (by kernel_rfl) (known_cons kqg (by kernel_rfl) (known_cons kqx (by kernel_rfl) (known_cons kqbx (by kernel_rfl) (known_cons kqbh (by kernel_rfl) (known_cons kqda (by kernel_rfl) known_nil))))))) (by kernel_rfl) (by kernel_rfl) (by kernel_rfl)
def dq6 : FD := { fn := 198, nb := 1, pre := ⟨[.sc (.pt 0 0), .ag [.i .i64 0, .i .i64 1, .i .i64 2, .i .i64 3, .fz 90 false 4, .fz 156 false 5, .fz 158 false 6], .ag [.i .i64 7, .fz 9 false 8, .fz 9 false 9, .i .i64 10, .i .i64 11, .i .i64 12]], [.bx [.fz 5 false 13, .i .i64 14]]⟩, post := ⟨[.ag [.i .i64 0, .ow 1, .ow 2, .i .i64 1, .i .i64 2, .i .i64 3]], [.bx [.fz 5 false 4, .i .i64 5], .rw 9 true 6, .rw 9 true 7]⟩, sh := true, cuts := [⟨6, [0, 4, 6, 7], ⟨[.sc (.pt 0 0), .sc (.pt 1 0), .sc (.pt 2 0), .sc (.pt 3 0)], [.bx [.fz 5 false 0, .i .i64 1], .bx [.i .i64 2, .i .i64 3, .i .i64 4, .i .i64 5, .fz 90 false 6, .fz 156 false 7, .fz 158 false 8], .bx [.i .i64 9, .ow 6, .ow 7, .i .i64 10, .i .i64 11, .i .i64 12], .bx [.i .i64 13, .ow 4, .ow 5, .i .i64 14, .i .i64 15, .i .i64 16], .rw 9 true 17, .rw 9 true 18, .rw 9 true 19, .rw 9 true 20]⟩⟩, ⟨10, [4, 6, 7, 9], ⟨[.sc (.pt 1 0), .sc (.pt 2 0), .sc (.pt 3 0), .sc (.i .i64 0)], [.bx [.fz 5 false 1, .i .i64 2], .bx [.i .i64 3, .i .i64 4, .i .i64 5, .i .i64 6, .fz 90 false 7, .fz 156 false 8, .fz 158 false 9], .bx [.i .i64 10, .ow 4, .ow 5, .i .i64 11, .i .i64 12, .i .i64 13], .bx [.i .i64 14, .ow 6, .ow 7, .i .i64 15, .i .i64 16, .i .i64 17], .rw 9 true 18, .rw 9 true 19, .rw 9 true 20, .rw 9 true 21]⟩⟩, ⟨28, [4, 6, 7, 10], ⟨[.sc (.pt 1 0), .sc (.pt 2 0), .sc (.pt 3 0), .sc (.i .i64 0)], [.bx [.fz 5 false 1, .i .i64 2], .bx [.i .i64 3, .i .i64 4, .i .i64 5, .i .i64 6, .fz 90 false 7, .fz 156 false 8, .fz 158 false 9], .bx [.i .i64 10, .ow 4, .ow 5, .i .i64 11, .i .i64 12, .i .i64 13], .bx [.i .i64 14, .ow 6, .ow 7, .i .i64 15, .i .i64 16, .i .i64 17], .rw 9 true 18, .rw 9 true 19, .rw 9 true 20, .rw 9 true 21]⟩⟩] }
noncomputable def Lq6 : Option Nat → Lv → Option Lv := Lim Tryz.prog [dqj.sig (Lqj none), dqb.sig (Lqb none), dqg.sig (Lqg none), dqbj.sig (Lqbj none), dqbh.sig (Lqbh none)] dq6 Tryz.f198
theorem eq6_i (a0 a1 a2 a3 : Int) (a4 a5 a6 : Rw) (a7 : Int) (a8 a9 : Rw) (a10 a11 a12 : Int) (a13 : Rw) (a14 : Int) : Lq6 none [.i a0, .i a1, .i a2, .i a3, .l a4, .l a5, .l a6, .i a7, .l a8, .l a9, .i a10, .i a11, .i a12, .l a13, .i a14] =
 (Lqbj none [.i a7, .l a8, .l a9, .i a10, .i a11, .i a12]).bind fun y1 =>
 cond (a7 == 2) (
 cond (decide (0 < (((g y1 5).list).length : Int))) (
 (Lqb none [.i 2, .l a13, .i a14]).bind fun y2 =>
 cond ((g y2 0).int == 0) (
 (Lqb none [.i (((g y1 5).list).length : Int), .l ((g y2 1).list), .i ((g y2 2).int)]).bind fun y3 =>
 cond (decide (0 ≤ (g y3 0).int)) (
 cond (decide ((g y3 0).int ≤ (((g y1 5).list).length : Int))) (
 cond (decide (([] : Rw).length + (Eng.sub ((g y1 5).list) 0 ((g y3 0).int).toNat).length ≤ most)) (
 cond (decide (0 ≤ (IntKind.i64.wrap ((g y3 0).int + 1)))) (
 cond (decide ((IntKind.i64.wrap ((g y3 0).int + 1)) ≤ (((g y1 5).list).length : Int))) (
 cond (decide ((([] : Rw) ++ (Eng.sub ((g y1 5).list) 0 ((g y3 0).int).toNat)).length + (Eng.sub ((g y1 5).list) (IntKind.i64.wrap ((g y3 0).int + 1)).toNat ((g y1 5).list).length).length ≤ most)) (
 some [.i ((g y1 0).int), .i ((g y1 1).int), .i ((g y1 2).int), .i ((g y1 3).int), .l ((g y3 1).list), .i ((g y3 2).int), .l ((g y1 4).list), .l ((([] : Rw) ++ (Eng.sub ((g y1 5).list) 0 ((g y3 0).int).toNat)) ++ (Eng.sub ((g y1 5).list) (IntKind.i64.wrap ((g y3 0).int + 1)).toNat ((g y1 5).list).length))]) (
 none)) (
 none)) (
 none)) (
 none)) (
 none)) (
 none)) (
 Lq6 (some 6) [.l ((g y2 1).list), .i ((g y2 2).int), .i a0, .i a1, .i a2, .i a3, .l a4, .l a5, .l a6, .i 0, .i 0, .i 0, .i 0, .i ((g y1 0).int), .i ((g y1 1).int), .i ((g y1 2).int), .i ((g y1 3).int), .l ((g y1 4).list), .l ((g y1 5).list), .l [], .l []])) (
 Lq6 (some 6) [.l a13, .i a14, .i a0, .i a1, .i a2, .i a3, .l a4, .l a5, .l a6, .i 0, .i 0, .i 0, .i 0, .i ((g y1 0).int), .i ((g y1 1).int), .i ((g y1 2).int), .i ((g y1 3).int), .l ((g y1 4).list), .l ((g y1 5).list), .l [], .l []])) (
 Lq6 (some 6) [.l a13, .i a14, .i a0, .i a1, .i a2, .i a3, .l a4, .l a5, .l a6, .i 0, .i 0, .i 0, .i 0, .i ((g y1 0).int), .i ((g y1 1).int), .i ((g y1 2).int), .i ((g y1 3).int), .l ((g y1 4).list), .l ((g y1 5).list), .l [], .l []]) := (Lim_eq _ _).trans (by kernel_rfl)
theorem eq6_6 (a0 : Rw) (a1 a2 a3 a4 a5 : Int) (a6 a7 a8 : Rw) (a9 a10 a11 a12 a13 a14 a15 a16 : Int) (a17 a18 a19 a20 : Rw) : Lq6 (some 6) [.l a0, .i a1, .i a2, .i a3, .i a4, .i a5, .l a6, .l a7, .l a8, .i a9, .i a10, .i a11, .i a12, .i a13, .i a14, .i a15, .i a16, .l a17, .l a18, .l a19, .l a20] =
 (Lqb none [.i 9, .l a0, .i a1]).bind fun y1 =>
 cond ((g y1 0).int == 7) (
 Lq6 (some 10) [.i 0, .l ((g y1 1).list), .i ((g y1 2).int), .i a2, .i a3, .i a4, .i a5, .l a6, .l a7, .l a8, .i a9, .i a10, .i a11, .i a12, .i a13, .i a14, .i a15, .i a16, .l a19, .l a20, .l a17, .l a18]) (
 cond ((g y1 0).int == 0) (
 (Lqb none [.i 5, .l ((g y1 1).list), .i ((g y1 2).int)]).bind fun y2 =>
 some [.i (IntKind.i64.wrap ((g y2 0).int - 1)), .i a14, .i a15, .i a16, .l ((g y2 1).list), .i ((g y2 2).int), .l a17, .l a18]) (
 cond ((g y1 0).int == 1) (
 (Lqb none [.i 5, .l ((g y1 1).list), .i ((g y1 2).int)]).bind fun y3 =>
 cond (inb ((g y3 0).int) (([[.i 0], [.i 1], [.i a14], [.i (IntKind.i64.wrap (a14 + 1))], [.i (IntKind.i64.wrap (a14 + 2))]] : Rw).length)) (
 some [.i a13, .i a14, .i ((rd ([[.i 0], [.i 1], [.i a14], [.i (IntKind.i64.wrap (a14 + 1))], [.i (IntKind.i64.wrap (a14 + 2))]] : Rw) (((g y3 0).int).toNat) 0).int), .i a16, .l ((g y3 1).list), .i ((g y3 2).int), .l a17, .l a18]) (
 none)) (
 cond ((g y1 0).int == 2) (
 (Lqb none [.i 4, .l ((g y1 1).list), .i ((g y1 2).int)]).bind fun y4 =>
 cond (inb ((g y4 0).int) (([[.i (-1)], [.i 0], [.i a5], [.i (IntKind.i64.wrap (a5 + 1))]] : Rw).length)) (
 some [.i a13, .i ((rd ([[.i (-1)], [.i 0], [.i a5], [.i (IntKind.i64.wrap (a5 + 1))]] : Rw) (((g y4 0).int).toNat) 0).int), .i a15, .i a16, .l ((g y4 1).list), .i ((g y4 2).int), .l a17, .l a18]) (
 none)) (
 cond ((g y1 0).int == 3) (
 (Lqg none [.s (⟨#[113]⟩ : ByteArray), .i a2]).bind fun y5 =>
 cond (decide (a17.length + ([[.s ((g y5 0).str)]] : Rw).length ≤ most)) (
 some [.i a13, .i a14, .i a15, .i a16, .l ((g y1 1).list), .i ((g y1 2).int), .l (a17 ++ ([[.s ((g y5 0).str)]] : Rw)), .l a18]) (
 none)) (
 cond ((g y1 0).int == 4) (
 (Lqg none [.s (⟨#[109]⟩ : ByteArray), .i a2]).bind fun y6 =>
 cond (decide (a18.length + ([[.s ((g y6 0).str)]] : Rw).length ≤ most)) (
 some [.i a13, .i a14, .i a15, .i a16, .l ((g y1 1).list), .i ((g y1 2).int), .l a17, .l (a18 ++ ([[.s ((g y6 0).str)]] : Rw))]) (
 none)) (
 cond ((g y1 0).int == 5) (
 cond (decide (a17.length + ([[.s (⟨#[116, 111, 111, 108, 111, 110, 103, 102, 111, 114, 97, 110, 121]⟩ : ByteArray)]] : Rw).length ≤ most)) (
 some [.i a13, .i a14, .i a15, .i a16, .l ((g y1 1).list), .i ((g y1 2).int), .l (a17 ++ ([[.s (⟨#[116, 111, 111, 108, 111, 110, 103, 102, 111, 114, 97, 110, 121]⟩ : ByteArray)]] : Rw)), .l a18]) (
 none)) (
 cond ((g y1 0).int == 6) (
 cond (decide (0 < (a6.length : Int))) (
 (Lqj none [.i a2]).bind fun y7 =>
 cond ((g y7 0).bool) (
 (Lqb none [.i 2, .l ((g y1 1).list), .i ((g y1 2).int)]).bind fun y8 =>
 Lq6 (some 28) [.i (IntKind.i64.wrap (23200 + (g y8 0).int)), .l ((g y8 1).list), .i ((g y8 2).int), .i a2, .i a3, .i a4, .i a5, .l a6, .l a7, .l a8, .i a9, .i a10, .i a11, .i a12, .i a13, .i a14, .i a15, .i a16, .l a19, .l a20, .l a17, .l a18]) (
 some [.i a13, .i a14, .i a15, .i a16, .l ((g y1 1).list), .i ((g y1 2).int), .l a17, .l a18])) (
 some [.i a13, .i a14, .i a15, .i a16, .l ((g y1 1).list), .i ((g y1 2).int), .l a17, .l a18])) (
 (Lqb none [.i 4, .l ((g y1 1).list), .i ((g y1 2).int)]).bind fun y9 =>
 cond (inb ((g y9 0).int) (([[.i (-1)], [.i 1000000000], [.i 999999999], [.i 1000000001]] : Rw).length)) (
 some [.i a13, .i a14, .i a15, .i ((rd ([[.i (-1)], [.i 1000000000], [.i 999999999], [.i 1000000001]] : Rw) (((g y9 0).int).toNat) 0).int), .l ((g y9 1).list), .i ((g y9 2).int), .l a17, .l a18]) (
 none))))))))) := (Lim_eq _ _).trans (by kernel_rfl)
theorem eq6_10 (a0 : Int) (a1 : Rw) (a2 a3 a4 a5 a6 : Int) (a7 a8 a9 : Rw) (a10 a11 a12 a13 a14 a15 a16 a17 : Int) (a18 a19 a20 a21 : Rw) : Lq6 (some 10) [.i a0, .l a1, .i a2, .i a3, .i a4, .i a5, .i a6, .l a7, .l a8, .l a9, .i a10, .i a11, .i a12, .i a13, .i a14, .i a15, .i a16, .i a17, .l a18, .l a19, .l a20, .l a21] =
 cond (decide ((a21.length : Int) < 600)) (
 (Lqj none [.i a3]).bind fun y1 =>
 cond ((g y1 0).bool) (
 (Lqbh none [.i a0]).bind fun y2 =>
 cond (decide ((⟨#[102, 117, 108, 108, 32]⟩ : ByteArray).size + ((g y2 0).str).size ≤ most)) (
 (Lqg none [.s ((⟨#[102, 117, 108, 108, 32]⟩ : ByteArray) ++ ((g y2 0).str)), .i a3]).bind fun y3 =>
 cond (decide (a21.length + ([[.s ((g y3 0).str)]] : Rw).length ≤ most)) (
 Lq6 (some 10) [.i (IntKind.i64.wrap (a0 + 1)), .l a1, .i a2, .i a3, .i a4, .i a5, .i a6, .l a7, .l a8, .l a9, .i a10, .i a11, .i a12, .i a13, .i a14, .i a15, .i a16, .i a17, .l a18, .l a19, .l a20, .l (a21 ++ ([[.s ((g y3 0).str)]] : Rw))]) (
 none)) (
 none)) (
 some [.i a14, .i a15, .i a16, .i a17, .l a1, .i a2, .l a20, .l a21])) (
 some [.i a14, .i a15, .i a16, .i a17, .l a1, .i a2, .l a20, .l a21]) := (Lim_eq _ _).trans (by kernel_rfl)
theorem eq6_28 (a0 : Int) (a1 : Rw) (a2 a3 a4 a5 a6 : Int) (a7 a8 a9 : Rw) (a10 a11 a12 a13 a14 a15 a16 a17 : Int) (a18 a19 a20 a21 : Rw) : Lq6 (some 28) [.i a0, .l a1, .i a2, .i a3, .i a4, .i a5, .i a6, .l a7, .l a8, .l a9, .i a10, .i a11, .i a12, .i a13, .i a14, .i a15, .i a16, .i a17, .l a18, .l a19, .l a20, .l a21] =
 cond (decide ((a20.length : Int) < a0)) (
 cond (inb 0 a7.length) (
 cond (decide (a20.length + ([[.s ((rd a7 0 0).str)]] : Rw).length ≤ most)) (
 Lq6 (some 28) [.i a0, .l a1, .i a2, .i a3, .i a4, .i a5, .i a6, .l a7, .l a8, .l a9, .i a10, .i a11, .i a12, .i a13, .i a14, .i a15, .i a16, .i a17, .l a18, .l a19, .l (a20 ++ ([[.s ((rd a7 0 0).str)]] : Rw)), .l a21]) (
 none)) (
 none)) (
 some [.i a14, .i a15, .i a16, .i a17, .l a1, .i a2, .l a20, .l a21]) := (Lim_eq _ _).trans (by kernel_rfl)
theorem kq6 : SigOk Tryz.prog (dq6.sig (Lq6 none)) ∧ (dq6.sig (Lq6 none)).ok = true := sound_lim (known_cons kqj (by kernel_rfl) (known_cons kqb (by kernel_rfl) (known_cons kqg (by kernel_rfl) (known_cons kqbj (by kernel_rfl) (known_cons kqbh (by kernel_rfl) known_nil))))) (by kernel_rfl) (by kernel_rfl) (by kernel_rfl)
def dqdu : FD := { fn := 131, nb := 1, pre := ⟨[.sc (.pt 0 0)], [.bx [.fz 5 false 0, .i .i64 1]]⟩, post := ⟨[.ag [.i .i64 0, .i .i64 1, .fz 9 true 2, .fz 9 true 3, .i .i64 4, .i .i64 5, .i .i64 6, .i .i64 7, .fz 90 true 8, .fz 156 true 9, .fz 158 true 10, .i .i64 11, .fz 9 true 12, .fz 9 true 13, .i .i64 14, .i .i64 15, .i .i64 16]], [.bx [.fz 5 false 17, .i .i64 18]]⟩, sh := true, cuts := [] }
noncomputable def Lqdu : Option Nat → Lv → Option Lv := Lim Tryz.prog [dqb.sig (Lqb none), dqx.sig (Lqx none), dqbr.sig (Lqbr none), dqc8.sig (Lqc8 none), dqbc.sig (Lqbc none), dq6.sig (Lq6 none)] dqdu Tryz.f131
theorem eqdu_i (a0 : Rw) (a1 : Int) : Lqdu none [.l a0, .i a1] =
 (Lqb none [.i 24, .l a0, .i a1]).bind fun y1 =>
 cond ((g y1 0).int == 0) (
 (Lqbc none [.l ((g y1 1).list), .i ((g y1 2).int)]).bind fun y2 =>
 some [.i ((g y2 0).int), .i ((g y2 1).int), .l ((g y2 14).list), .l ((g y2 15).list), .i ((g y2 2).int), .i ((g y2 3).int), .i ((g y2 4).int), .i ((g y2 5).int), .l ((g y2 16).list), .l ((g y2 17).list), .l ((g y2 18).list), .i ((g y2 6).int), .l ((g y2 7).list), .l ((g y2 8).list), .i ((g y2 9).int), .i ((g y2 10).int), .i ((g y2 11).int), .l ((g y2 12).list), .i ((g y2 13).int)]) (
 (Lqbr none [.l ((g y1 1).list), .i ((g y1 2).int)]).bind fun y3 =>
 (Lqb none [.i 8, .l ((g y3 14).list), .i ((g y3 15).int)]).bind fun y4 =>
 cond (decide (0 < (g y4 0).int)) (
 some [.i ((g y3 0).int), .i ((g y3 1).int), .l ((g y3 2).list), .l ((g y3 16).list), .i ((g y3 3).int), .i ((g y3 4).int), .i ((g y3 5).int), .i ((g y3 6).int), .l ((g y3 7).list), .l ((g y3 17).list), .l ((g y3 18).list), .i ((g y3 8).int), .l ((g y3 9).list), .l ((g y3 10).list), .i ((g y3 11).int), .i ((g y3 12).int), .i ((g y3 13).int), .l ((g y4 1).list), .i ((g y4 2).int)]) (
 (Lqb none [.i 6, .l ((g y4 1).list), .i ((g y4 2).int)]).bind fun y5 =>
 cond ((g y5 0).int == 0) (
 (Lqc8 none [.i ((g y3 3).int), .i ((g y3 4).int), .i ((g y3 5).int), .i ((g y3 6).int), .l ((g y3 7).list), .l ((g y3 17).list), .l ((g y3 18).list), .l ((g y5 1).list), .i ((g y5 2).int)]).bind fun y6 =>
 some [.i ((g y3 0).int), .i ((g y3 1).int), .l ((g y3 2).list), .l ((g y3 16).list), .i ((g y6 0).int), .i ((g y6 1).int), .i ((g y6 2).int), .i ((g y6 3).int), .l ((g y6 6).list), .l ((g y6 7).list), .l ((g y6 8).list), .i ((g y3 8).int), .l ((g y3 9).list), .l ((g y3 10).list), .i ((g y3 11).int), .i ((g y3 12).int), .i ((g y3 13).int), .l ((g y6 4).list), .i ((g y6 5).int)]) (
 cond ((g y5 0).int == 5) (
 (Lqb none [.i 3, .l ((g y5 1).list), .i ((g y5 2).int)]).bind fun y7 =>
 some [.i ((g y3 0).int), .i ((g y3 1).int), .l ((g y3 2).list), .l ((g y3 16).list), .i ((g y3 3).int), .i ((g y3 4).int), .i ((g y3 5).int), .i ((g y3 6).int), .l ((g y3 7).list), .l ((g y3 17).list), .l ((g y3 18).list), .i ((g y3 8).int), .l ((g y3 9).list), .l ((g y3 10).list), .i ((g y3 11).int), .i ((g y3 12).int), .i (IntKind.i64.wrap (1000000000 - (g y7 0).int)), .l ((g y7 1).list), .i ((g y7 2).int)]) (
 cond ((g y5 0).int == 1) (
 (Lq6 none [.i ((g y3 3).int), .i ((g y3 4).int), .i ((g y3 5).int), .i ((g y3 6).int), .l ((g y3 7).list), .l ((g y3 17).list), .l ((g y3 18).list), .i ((g y3 8).int), .l ((g y3 9).list), .l ((g y3 10).list), .i ((g y3 11).int), .i ((g y3 12).int), .i ((g y3 13).int), .l ((g y5 1).list), .i ((g y5 2).int)]).bind fun y8 =>
 some [.i ((g y3 0).int), .i ((g y3 1).int), .l ((g y3 2).list), .l ((g y3 16).list), .i ((g y3 3).int), .i ((g y3 4).int), .i ((g y3 5).int), .i ((g y3 6).int), .l ((g y3 7).list), .l ((g y3 17).list), .l ((g y3 18).list), .i ((g y8 0).int), .l ((g y8 6).list), .l ((g y8 7).list), .i ((g y8 1).int), .i ((g y8 2).int), .i ((g y8 3).int), .l ((g y8 4).list), .i ((g y8 5).int)]) (
 cond ((g y5 0).int == 2) (
 (Lqb none [.i 2, .l ((g y5 1).list), .i ((g y5 2).int)]).bind fun y9 =>
 cond (inb ((g y9 0).int) (([[.i (-1)], [.i 1000001]] : Rw).length)) (
 some [.i ((g y3 0).int), .i ((rd ([[.i (-1)], [.i 1000001]] : Rw) (((g y9 0).int).toNat) 0).int), .l ((g y3 2).list), .l ((g y3 16).list), .i ((g y3 3).int), .i ((g y3 4).int), .i ((g y3 5).int), .i ((g y3 6).int), .l ((g y3 7).list), .l ((g y3 17).list), .l ((g y3 18).list), .i ((g y3 8).int), .l ((g y3 9).list), .l ((g y3 10).list), .i ((g y3 11).int), .i ((g y3 12).int), .i ((g y3 13).int), .l ((g y9 1).list), .i ((g y9 2).int)]) (
 none)) (
 cond ((g y5 0).int == 3) (
 (Lqb none [.i 10, .l ((g y5 1).list), .i ((g y5 2).int)]).bind fun y10 =>
 some [.i ((g y10 0).int), .i ((g y3 1).int), .l ((g y3 2).list), .l ((g y3 16).list), .i ((g y3 3).int), .i ((g y3 4).int), .i ((g y3 5).int), .i ((g y3 6).int), .l ((g y3 7).list), .l ((g y3 17).list), .l ((g y3 18).list), .i ((g y3 8).int), .l ((g y3 9).list), .l ((g y3 10).list), .i ((g y3 11).int), .i ((g y3 12).int), .i ((g y3 13).int), .l ((g y10 1).list), .i ((g y10 2).int)]) (
 (Lqx none [.i 6, .s (⟨#[]⟩ : ByteArray), .s (⟨#[]⟩ : ByteArray), .i 1, .s (⟨#[]⟩ : ByteArray), .l ([]), .i 8]).bind fun y11 =>
 cond (decide (((g y3 16).list).length + ([[.s ((g y11 0).str)]] : Rw).length ≤ most)) (
 some [.i ((g y3 0).int), .i ((g y3 1).int), .l ((g y3 2).list), .l ((g y3 16).list ++ ([[.s ((g y11 0).str)]] : Rw)), .i ((g y3 3).int), .i ((g y3 4).int), .i ((g y3 5).int), .i ((g y3 6).int), .l ((g y3 7).list), .l ((g y3 17).list), .l ((g y3 18).list), .i ((g y3 8).int), .l ((g y3 9).list), .l ((g y3 10).list), .i ((g y3 11).int), .i ((g y3 12).int), .i ((g y3 13).int), .l ((g y5 1).list), .i ((g y5 2).int)]) (
 none)))))))) := (Lim_eq _ _).trans (by kernel_rfl)
theorem kqdu : SigOk Tryz.prog (dqdu.sig (Lqdu none)) ∧ (dqdu.sig (Lqdu none)).ok = true := sound_lim (known_cons kqb (by kernel_rfl) (known_cons kqx (by kernel_rfl) (known_cons kqbr (by kernel_rfl) (known_cons kqc8 (by kernel_rfl) (known_cons kqbc (by kernel_rfl) (known_cons kq6 (by kernel_rfl) known_nil)))))) (by kernel_rfl) (by kernel_rfl) (by kernel_rfl)
def dqdv : FD := { fn := 66, nb := 0, pre := ⟨[.sc (.fz 5 false 0)], []⟩, post := ⟨[.tu [(true, [.i .i64 0, .i .i64 1, .fz 9 true 2, .fz 9 true 3, .i .i64 4, .i .i64 5, .i .i64 6, .i .i64 7, .fz 90 true 8, .fz 156 true 9, .fz 158 true 10, .i .i64 11, .fz 9 true 12, .fz 9 true 13, .i .i64 14, .i .i64 15, .i .i64 16]), (false, [.i .i64 17])]], []⟩, sh := false, cuts := [] }
noncomputable def Lqdv : Option Nat → Lv → Option Lv := Lim Tryz.prog [dqdp.sig (Lqdp none), dqb.sig (Lqb none), dqdu.sig (Lqdu none)] dqdv Tryz.f66
theorem eqdv_i (a0 : Rw) : Lqdv none [.l a0] =
 (Lqdp none [.l a0]).bind fun y1 =>
 (Lqdu none [.l ((g y1 0).list), .i ((g y1 1).int)]).bind fun y2 =>
 (Lqb none [.i 16, .l ((g y2 17).list), .i ((g y2 18).int)]).bind fun y3 =>
 cond ((g y3 0).int == 0) (
 (Lqb none [.i 3, .l ((g y3 1).list), .i ((g y3 2).int)]).bind fun y4 =>
 cond (inb ((g y4 0).int) (([[.i (-1)], [.i 10001], [.i 300]] : Rw).length)) (
 some [.i ((g y2 0).int), .i ((g y2 1).int), .l ((g y2 2).list), .l ((g y2 3).list), .i ((g y2 4).int), .i ((g y2 5).int), .i ((g y2 6).int), .i ((g y2 7).int), .l ((g y2 8).list), .l ((g y2 9).list), .l ((g y2 10).list), .i ((g y2 11).int), .l ((g y2 12).list), .l ((g y2 13).list), .i ((g y2 14).int), .i ((g y2 15).int), .i ((g y2 16).int), .i ((rd ([[.i (-1)], [.i 10001], [.i 300]] : Rw) (((g y4 0).int).toNat) 0).int)]) (
 none)) (
 (Lqb none [.i 60, .l ((g y3 1).list), .i ((g y3 2).int)]).bind fun y5 =>
 some [.i ((g y2 0).int), .i ((g y2 1).int), .l ((g y2 2).list), .l ((g y2 3).list), .i ((g y2 4).int), .i ((g y2 5).int), .i ((g y2 6).int), .i ((g y2 7).int), .l ((g y2 8).list), .l ((g y2 9).list), .l ((g y2 10).list), .i ((g y2 11).int), .l ((g y2 12).list), .l ((g y2 13).list), .i ((g y2 14).int), .i ((g y2 15).int), .i ((g y2 16).int), .i ((g y5 0).int)]) := (Lim_eq _ _).trans (by kernel_rfl)
theorem kqdv : SigOk Tryz.prog (dqdv.sig (Lqdv none)) ∧ (dqdv.sig (Lqdv none)).ok = true := sound_lim (known_cons kqdp (by kernel_rfl) (known_cons kqb (by kernel_rfl) (known_cons kqdu (by kernel_rfl) known_nil))) (by kernel_rfl) (by kernel_rfl) (by kernel_rfl)
end KV
end
section
set_option maxRecDepth 100000
namespace KV
open Go Go.Eng Go.Proofs
def dqbm : FD := { fn := 11, nb := 0, pre := ⟨[.sc (.fz 5 false 0)], []⟩, post := ⟨[.sc (.b 0)], []⟩, sh := false, cuts := [⟨14, [3, 5, 6, 7, 8], ⟨[.sc (.pt 0 0), .sc (.ow 1), .sc (.pt 2 0), .sc (.i .i64 0), .sc (.i .i64 1)], [.bx [.i .i64 2, .i .i64 3, .fz 9 true 4, .fz 9 true 5, .i .i64 6, .i .i64 7, .i .i64 8, .i .i64 9, .fz 90 true 10, .fz 156 true 11, .fz 158 true 12, .i .i64 13, .fz 9 true 14, .fz 9 true 15, .i .i64 16, .i .i64 17, .i .i64 18], .rw 9 true 19, .bx [.i .i64 20, .i .i64 21, .fz 9 true 22, .fz 9 true 23, .i .i64 24, .i .i64 25, .i .i64 26, .i .i64 27, .fz 90 true 28, .fz 156 true 29, .fz 158 true 30, .i .i64 31, .fz 9 true 32, .fz 9 true 33, .i .i64 34, .i .i64 35, .i .i64 36]]⟩⟩, ⟨23, [5, 6, 10], ⟨[.sc (.ow 0), .sc (.pt 1 0), .sc (.i .i64 0)], [.rw 9 true 1, .bx [.i .i64 2, .i .i64 3, .fz 9 true 4, .fz 9 true 5, .i .i64 6, .i .i64 7, .i .i64 8, .i .i64 9, .fz 90 true 10, .fz 156 true 11, .fz 158 true 12, .i .i64 13, .fz 9 true 14, .fz 9 true 15, .i .i64 16, .i .i64 17, .i .i64 18]]⟩⟩] }
noncomputable def Lqbm : Option Nat → Lv → Option Lv := Lim Tryz.prog [dqbs.sig (Lqbs none), dqbl.sig (Lqbl none), dqdn.sig (Lqdn none), dqcu.sig (Lqcu none), dqca.sig (Lqca none), dqdo.sig (Lqdo none), dqdv.sig (Lqdv none)] dqbm Tryz.f11
theorem eqbm_i (a0 : Rw) : Lqbm none [.l a0] =
 cond (decide (1048576 < (a0.length : Int))) (
 some [.b true]) (
 (Lqdv none [.l a0]).bind fun y1 =>
 (Lqbl none [.i ((g y1 0).int), .i ((g y1 1).int), .l ((g y1 2).list), .l ((g y1 3).list), .i ((g y1 4).int), .i ((g y1 5).int), .i ((g y1 6).int), .i ((g y1 7).int), .l ((g y1 8).list), .l ((g y1 9).list), .l ((g y1 10).list), .i ((g y1 11).int), .l ((g y1 12).list), .l ((g y1 13).list), .i ((g y1 14).int), .i ((g y1 15).int), .i ((g y1 16).int)]).bind fun y2 =>
 cond (!(g y2 0).bool) (
 (Lqbs none [.i ((g y1 0).int), .i ((g y1 1).int), .l ((g y1 2).list), .l ((g y1 3).list), .i ((g y1 4).int), .i ((g y1 5).int), .i ((g y1 6).int), .i ((g y1 7).int), .l ((g y1 8).list), .l ((g y1 9).list), .l ((g y1 10).list), .i ((g y1 11).int), .l ((g y1 12).list), .l ((g y1 13).list), .i ((g y1 14).int), .i ((g y1 15).int), .i ((g y1 16).int), .i 5]).bind fun y3 =>
 some [.b ((g y3 0).int == 1)]) (
 cond (decide (600 < (IntKind.i64.wrap ((((g y1 13).list).length : Int) + (((g y1 8).list).length : Int))))) (
 some [.b true]) (
 cond (decide (19200 < (IntKind.i64.wrap ((((g y1 12).list).length : Int) + (IntKind.i64.wrap (30 * (((g y1 8).list).length : Int))))))) (
 some [.b true]) (
 cond (decide (999999995 < (g y1 16).int)) (
 some [.b true]) (
 cond (decide (4000 < (IntKind.i64.wrap ((IntKind.i64.wrap ((((g y1 2).list).length : Int) + (((g y1 3).list).length : Int))) + (((g y1 8).list).length : Int))))) (
 some [.b true]) (
 (Lqdn none [.i ((g y1 4).int), .i ((g y1 5).int), .i ((g y1 6).int), .i ((g y1 7).int), .l ((g y1 8).list), .l ((g y1 9).list), .l ((g y1 10).list)]).bind fun y4 =>
 (Lqca none [.i ((g y1 4).int), .i ((g y1 5).int), .i ((g y1 6).int), .i ((g y1 7).int), .l ((g y1 8).list), .l ((g y1 9).list), .l ((g y1 10).list)]).bind fun y5 =>
 Lqbm (some 14) [.i (IntKind.i64.wrap ((IntKind.i64.wrap (3 * (g y5 0).int)) + (((g y1 12).list).length : Int))), .i 0, .i ((g y1 0).int), .i ((g y1 1).int), .l ((g y1 2).list), .l ((g y1 3).list), .i ((g y1 4).int), .i ((g y1 5).int), .i ((g y1 6).int), .i ((g y1 7).int), .l ((g y1 8).list), .l ((g y1 9).list), .l ((g y1 10).list), .i ((g y1 11).int), .l ((g y1 12).list), .l ((g y1 13).list), .i ((g y1 14).int), .i ((g y1 15).int), .i ((g y1 16).int), .l ((g y4 0).list), .i ((g y1 0).int), .i ((g y1 1).int), .l ((g y1 2).list), .l ((g y1 3).list), .i ((g y1 4).int), .i ((g y1 5).int), .i ((g y1 6).int), .i ((g y1 7).int), .l ((g y1 8).list), .l ((g y1 9).list), .l ((g y1 10).list), .i ((g y1 11).int), .l ((g y1 12).list), .l ((g y1 13).list), .i ((g y1 14).int), .i ((g y1 15).int), .i ((g y1 16).int)])))))) := (Lim_eq _ _).trans (by kernel_rfl)
theorem eqbm_14 (a0 a1 a2 a3 : Int) (a4 a5 : Rw) (a6 a7 a8 a9 : Int) (a10 a11 a12 : Rw) (a13 : Int) (a14 a15 : Rw) (a16 a17 a18 : Int) (a19 : Rw) (a20 a21 : Int) (a22 a23 : Rw) (a24 a25 a26 a27 : Int) (a28 a29 a30 : Rw) (a31 : Int) (a32 a33 : Rw) (a34 a35 a36 : Int) : Lqbm (some 14) [.i a0, .i a1, .i a2, .i a3, .l a4, .l a5, .i a6, .i a7, .i a8, .i a9, .l a10, .l a11, .l a12, .i a13, .l a14, .l a15, .i a16, .i a17, .i a18, .l a19, .i a20, .i a21, .l a22, .l a23, .i a24, .i a25, .i a26, .i a27, .l a28, .l a29, .l a30, .i a31, .l a32, .l a33, .i a34, .i a35, .i a36] =
 cond (decide (a1 < a0)) (
 cond (decide (a36 < (IntKind.i64.wrap (a18 + 2)))) (
 (Lqbs none [.i a20, .i a21, .l a22, .l a23, .i a24, .i a25, .i a26, .i a27, .l a28, .l a29, .l a30, .i a31, .l a32, .l a33, .i a34, .i a35, .i a36, .i 1]).bind fun y1 =>
 cond ((g y1 0).int != 0) (
 some [.b false]) (
 cond ((g y1 12).int != 1) (
 some [.b false]) (
 Lqbm (some 14) [.i a0, .i (IntKind.i64.wrap (a1 + 1)), .i a2, .i a3, .l a4, .l a5, .i a6, .i a7, .i a8, .i a9, .l a10, .l a11, .l a12, .i a13, .l a14, .l a15, .i a16, .i a17, .i a18, .l a19, .i ((g y1 1).int), .i ((g y1 2).int), .l ((g y1 13).list), .l ((g y1 14).list), .i ((g y1 3).int), .i ((g y1 4).int), .i ((g y1 5).int), .i ((g y1 6).int), .l ((g y1 15).list), .l ((g y1 16).list), .l ((g y1 17).list), .i ((g y1 7).int), .l ((g y1 18).list), .l ((g y1 8).list), .i ((g y1 9).int), .i ((g y1 10).int), .i ((g y1 11).int)]))) (
 cond (a36 != (IntKind.i64.wrap (a18 + 2))) (
 some [.b false]) (
 cond ((a28.length : Int) != (a19.length : Int)) (
 some [.b false]) (
 Lqbm (some 23) [.i 0, .l a19, .i a20, .i a21, .l a22, .l a23, .i a24, .i a25, .i a26, .i a27, .l a28, .l a29, .l a30, .i a31, .l a32, .l a33, .i a34, .i a35, .i a36])))) (
 cond (a36 != (IntKind.i64.wrap (a18 + 2))) (
 some [.b false]) (
 cond ((a28.length : Int) != (a19.length : Int)) (
 some [.b false]) (
 Lqbm (some 23) [.i 0, .l a19, .i a20, .i a21, .l a22, .l a23, .i a24, .i a25, .i a26, .i a27, .l a28, .l a29, .l a30, .i a31, .l a32, .l a33, .i a34, .i a35, .i a36]))) := (Lim_eq _ _).trans (by kernel_rfl)
theorem eqbm_23 (a0 : Int) (a1 : Rw) (a2 a3 : Int) (a4 a5 : Rw) (a6 a7 a8 a9 : Int) (a10 a11 a12 : Rw) (a13 : Int) (a14 a15 : Rw) (a16 a17 a18 : Int) : Lqbm (some 23) [.i a0, .l a1, .i a2, .i a3, .l a4, .l a5, .i a6, .i a7, .i a8, .i a9, .l a10, .l a11, .l a12, .i a13, .l a14, .l a15, .i a16, .i a17, .i a18] =
 cond (decide (a0 < (a1.length : Int))) (
 cond (inb a0 a1.length) (
 (Lqcu none [.i a2, .i a3, .l a4, .l a5, .i a6, .i a7, .i a8, .i a9, .l a10, .l a11, .l a12, .i a13, .l a14, .l a15, .i a16, .i a17, .i a18, .s ((rd a1 a0.toNat 0).str)]).bind fun y1 =>
 cond (!(g y1 1).bool) (
 some [.b false]) (
 Lqbm (some 23) [.i (IntKind.i64.wrap (a0 + 1)), .l a1, .i a2, .i a3, .l a4, .l a5, .i a6, .i a7, .i a8, .i a9, .l a10, .l a11, .l a12, .i a13, .l a14, .l a15, .i a16, .i a17, .i a18])) (
 none)) (
 (Lqdo none [.i a6, .i a7, .i a8, .i a9, .l a10, .l a11, .l a12]).bind fun y2 =>
 some [.b ((((g y2 0).list).length : Int) == 0)]) := (Lim_eq _ _).trans (by kernel_rfl)
theorem kqbm : SigOk Tryz.prog (dqbm.sig (Lqbm none)) ∧ (dqbm.sig (Lqbm none)).ok = true := sound_lim (known_cons kqbs (by kernel_rfl) (known_cons kqbl (by kernel_rfl) (known_cons kqdn (by kernel_rfl) (known_cons kqcu (by kernel_rfl) (known_cons kqca (by kernel_rfl) (known_cons kqdo (by kernel_rfl) (known_cons kqdv (by kernel_rfl) known_nil))))))) (by kernel_rfl) (by kernel_rfl) (by kernel_rfl)
end KV
end
