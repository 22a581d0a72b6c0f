/- Part 6 of the proof of FnForms: what it leans on. -/
import Derived.Test.YtpnblgbkjbpeoaaM1
import Derived.Test.YtpnblgbkjbpeoaaM2
import Derived.Test.YtpnblgbkjbpeoaaM3
import Derived.Test.YtpnblgbkjbpeoaaM4
import Derived.Test.YtpnblgbkjbpeoaaM5

namespace Go.Proofs.Ytpnblgbkjbpeoaa.P
open Go.RowKit Go.Proofs.YtpnblgbkjbpeoaaW.PrintWords Go.Proofs.YtpnblgbkjbpeoaaW.PrintLast Go.Proofs.YtpnblgbkjbpeoaaW.PrintMore
attribute [local go_sem] max2_int min2_int max_two min_two max_three min_three max_four min_four   -- for this text's walks alone
set_option linter.unusedVariables false
set_option linter.unusedSimpArgs false
/-! ### spec_l1Bend: function 83 -/
def spec_l1Bend.f (k : Nat) (s0_0 : List Int) (s0_1 : Int) (a1 : ByteArray) : Option (ByteArray × Int) := (spec_l1Rd_pick.f k s0_0 s0_1 (wrap64 ((a1.size : Int) + 1))).bind fun bt1118 => ((spec_l1Rd_pick.f k s0_0 bt1118.2 4).bind fun bt1120 => (if bt1120.1 = 0 then (if 0 ≤ bt1118.1 then (if bt1118.1 ≤ (a1.size : Int) then (some (a1.extract 0 (bt1118.1 : Int).toNat, bt1120.2)) else (none)) else (none)) else (if bt1120.1 = 1 then (if 0 ≤ bt1118.1 then (if bt1118.1 ≤ (a1.size : Int) then ((some (([(⟨#[32]⟩ : ByteArray), (⟨#[10]⟩ : ByteArray), (⟨#[0]⟩ : ByteArray), (⟨#[45]⟩ : ByteArray), (⟨#[48]⟩ : ByteArray), (⟨#[120]⟩ : ByteArray), (⟨#[37, 122, 122]⟩ : ByteArray), (⟨#[37, 52]⟩ : ByteArray)] : List ByteArray) : List ByteArray)).bind fun y1122 => ((spec_l1Rd_pick.f k s0_0 bt1120.2 8).bind fun bt1125 => (if 0 ≤ bt1125.1 then (if bt1125.1 < (y1122.length : Int) then (if (a1.extract 0 (bt1118.1 : Int).toNat).size + (rdOf ByteArray.empty y1122 bt1125.1).size ≤ 9223372036854775807 then (if ((a1.extract 0 (bt1118.1 : Int).toNat) ++ (rdOf ByteArray.empty y1122 bt1125.1)).size + (a1.extract (bt1118.1 : Int).toNat a1.size).size ≤ 9223372036854775807 then (some (((a1.extract 0 (bt1118.1 : Int).toNat) ++ (rdOf ByteArray.empty y1122 bt1125.1)) ++ (a1.extract (bt1118.1 : Int).toNat a1.size), bt1125.2)) else (none)) else (none)) else (none)) else (none)))) else (none)) else (none)) else (if bt1120.1 = 2 then (if bt1118.1 < (a1.size : Int) then (if 0 ≤ bt1118.1 then (if bt1118.1 ≤ (a1.size : Int) then (if 0 ≤ (wrap64 (bt1118.1 + 1)) then (if (wrap64 (bt1118.1 + 1)) ≤ (a1.size : Int) then (if (a1.extract 0 (bt1118.1 : Int).toNat).size + (a1.extract ((wrap64 (bt1118.1 + 1)) : Int).toNat a1.size).size ≤ 9223372036854775807 then (some ((a1.extract 0 (bt1118.1 : Int).toNat) ++ (a1.extract ((wrap64 (bt1118.1 + 1)) : Int).toNat a1.size), bt1120.2)) else (none)) else (none)) else (none)) else (none)) else (none)) else (some (a1, bt1120.2))) else (if bt1118.1 < (a1.size : Int) then (if 0 ≤ bt1118.1 then (if bt1118.1 ≤ (a1.size : Int) then ((spec_l1Rd_pick.f k s0_0 bt1120.2 256).bind fun bt1128 => ((some (([(bt1128.1) % 256] : List Int) : List Int)).bind fun y1130 => (if (a1.extract 0 (bt1118.1 : Int).toNat).size + (strOfNums y1130).size ≤ 9223372036854775807 then (if 0 ≤ (wrap64 (bt1118.1 + 1)) then (if (wrap64 (bt1118.1 + 1)) ≤ (a1.size : Int) then (if ((a1.extract 0 (bt1118.1 : Int).toNat) ++ (strOfNums y1130)).size + (a1.extract ((wrap64 (bt1118.1 + 1)) : Int).toNat a1.size).size ≤ 9223372036854775807 then (some (((a1.extract 0 (bt1118.1 : Int).toNat) ++ (strOfNums y1130)) ++ (a1.extract ((wrap64 (bt1118.1 + 1)) : Int).toNat a1.size), bt1128.2)) else (none)) else (none)) else (none)) else (none)))) else (none)) else (none)) else (some (a1, bt1120.2)))))))
def spec_l1Bend.T6 : Bool × List (List Nat × List Nat) := (true, [([], []), ([], []), ([0, 1], [0, 1]), ([], []), ([], []), ([4], [4]), ([3, 5], [3, 5]), ([6], [6]), ([2, 7], [2, 7]), ([], []), ([], []), ([9, 10], [9, 10]), ([8, 11], [8, 11]), ([12, 5, 0, 1, 2, 3, 4, 5, 6, 7, 8, 9, 10, 11, 12], [12])])
def spec_l1Bend.B6 : List Nat := [0, 0, 3, 0, 0, 16, 56, 120, 255, 0, 0, 1536, 4095, 8191]
theorem spec_l1Bend.tab6 : rtab .any (opsOf Try.f83 6) = spec_l1Bend.T6 := by kernel_rfl
theorem spec_l1Bend.bits6 : waitsOk spec_l1Bend.T6.2 spec_l1Bend.B6 = true := by kernel_rfl
def spec_l1Bend.T9 : Bool × List (List Nat × List Nat) := (true, [([], []), ([], []), ([0, 1], [0, 1]), ([], []), ([], []), ([4], [4]), ([3, 5], [3, 5]), ([2, 6], [2, 6]), ([7, 0, 1, 2, 3, 4, 5, 6, 7], [7])])
def spec_l1Bend.B9 : List Nat := [0, 0, 3, 0, 0, 16, 56, 127, 255]
theorem spec_l1Bend.tab9 : rtab .any (opsOf Try.f83 9) = spec_l1Bend.T9 := by kernel_rfl
theorem spec_l1Bend.bits9 : waitsOk spec_l1Bend.T9.2 spec_l1Bend.B9 = true := by kernel_rfl
def spec_l1Bend.T11 : Bool × List (List Nat × List Nat) := (true, [([], []), ([], []), ([0, 1], [0, 1]), ([], []), ([3], [3]), ([4], [4]), ([5], [5]), ([6], [6]), ([2, 7], [2, 7]), ([], []), ([], []), ([10], [10]), ([9, 11], [9, 11]), ([8, 12], [8, 12]), ([13, 4, 0, 1, 2, 3, 4, 5, 6, 7, 8, 9, 10, 11, 12, 13], [13])])
def spec_l1Bend.B11 : List Nat := [0, 0, 3, 0, 8, 24, 56, 120, 255, 0, 0, 1024, 3584, 8191, 16383]
theorem spec_l1Bend.tab11 : rtab .any (opsOf Try.f83 11) = spec_l1Bend.T11 := by kernel_rfl
theorem spec_l1Bend.bits11 : waitsOk spec_l1Bend.T11.2 spec_l1Bend.B11 = true := by kernel_rfl
set_option maxHeartbeats 8000000 in
set_option maxRecDepth 100000 in
theorem spec_l1Bend.calls (k : Nat) (g : Nat) (s0_0 : List Int) (s0_1 : Int) (a1 : ByteArray) (r1 : ByteArray) (r2 : Int) (w0 w : World) (hI : IsS104 w0 w g s0_0 s0_1) (hB : Below w0.heap.size w0 w) (h : spec_l1Bend.f k s0_0 s0_1 a1 = some (r1, r2)) :
  Calls Try.prog 83 #[.pointer (some ⟨g, 0, none⟩), .string a1] w fun e w' => e = .returned (.string r1) ∧ IsS104 w0 w' g s0_0 r2 ∧ Below w0.heap.size w0 w' ∧ KeepBut w w' g none := by
 have HI0 := Aside0.mk hI
 have HK := am__ (KeepBut.refl w g none)
 have HL := Aside0.mk hB.size
 clear hI
 have HW0 := Aside0.mk hB.size
 have HB := Aside0.mk hB
 clear hB
 have H : ((spec_l1Rd_pick.f k s0_0 s0_1 (wrap64 ((a1.size : Int) + 1))).bind fun bt1118 => ((spec_l1Rd_pick.f k s0_0 bt1118.2 4).bind fun bt1120 => (if bt1120.1 = 0 then (if 0 ≤ bt1118.1 then (if bt1118.1 ≤ (a1.size : Int) then (some (a1.extract 0 (bt1118.1 : Int).toNat, bt1120.2)) else (none)) else (none)) else (if bt1120.1 = 1 then (if 0 ≤ bt1118.1 then (if bt1118.1 ≤ (a1.size : Int) then ((some (([(⟨#[32]⟩ : ByteArray), (⟨#[10]⟩ : ByteArray), (⟨#[0]⟩ : ByteArray), (⟨#[45]⟩ : ByteArray), (⟨#[48]⟩ : ByteArray), (⟨#[120]⟩ : ByteArray), (⟨#[37, 122, 122]⟩ : ByteArray), (⟨#[37, 52]⟩ : ByteArray)] : List ByteArray) : List ByteArray)).bind fun y1122 => ((spec_l1Rd_pick.f k s0_0 bt1120.2 8).bind fun bt1125 => (if 0 ≤ bt1125.1 then (if bt1125.1 < (y1122.length : Int) then (if (a1.extract 0 (bt1118.1 : Int).toNat).size + (rdOf ByteArray.empty y1122 bt1125.1).size ≤ 9223372036854775807 then (if ((a1.extract 0 (bt1118.1 : Int).toNat) ++ (rdOf ByteArray.empty y1122 bt1125.1)).size + (a1.extract (bt1118.1 : Int).toNat a1.size).size ≤ 9223372036854775807 then (some (((a1.extract 0 (bt1118.1 : Int).toNat) ++ (rdOf ByteArray.empty y1122 bt1125.1)) ++ (a1.extract (bt1118.1 : Int).toNat a1.size), bt1125.2)) else (none)) else (none)) else (none)) else (none)))) else (none)) else (none)) else (if bt1120.1 = 2 then (if bt1118.1 < (a1.size : Int) then (if 0 ≤ bt1118.1 then (if bt1118.1 ≤ (a1.size : Int) then (if 0 ≤ (wrap64 (bt1118.1 + 1)) then (if (wrap64 (bt1118.1 + 1)) ≤ (a1.size : Int) then (if (a1.extract 0 (bt1118.1 : Int).toNat).size + (a1.extract ((wrap64 (bt1118.1 + 1)) : Int).toNat a1.size).size ≤ 9223372036854775807 then (some ((a1.extract 0 (bt1118.1 : Int).toNat) ++ (a1.extract ((wrap64 (bt1118.1 + 1)) : Int).toNat a1.size), bt1120.2)) else (none)) else (none)) else (none)) else (none)) else (none)) else (some (a1, bt1120.2))) else (if bt1118.1 < (a1.size : Int) then (if 0 ≤ bt1118.1 then (if bt1118.1 ≤ (a1.size : Int) then ((spec_l1Rd_pick.f k s0_0 bt1120.2 256).bind fun bt1128 => ((some (([(bt1128.1) % 256] : List Int) : List Int)).bind fun y1130 => (if (a1.extract 0 (bt1118.1 : Int).toNat).size + (strOfNums y1130).size ≤ 9223372036854775807 then (if 0 ≤ (wrap64 (bt1118.1 + 1)) then (if (wrap64 (bt1118.1 + 1)) ≤ (a1.size : Int) then (if ((a1.extract 0 (bt1118.1 : Int).toNat) ++ (strOfNums y1130)).size + (a1.extract ((wrap64 (bt1118.1 + 1)) : Int).toNat a1.size).size ≤ 9223372036854775807 then (some (((a1.extract 0 (bt1118.1 : Int).toNat) ++ (strOfNums y1130)) ++ (a1.extract ((wrap64 (bt1118.1 + 1)) : Int).toNat a1.size), bt1128.2)) else (none)) else (none)) else (none)) else (none)))) else (none)) else (none)) else (some (a1, bt1120.2)))))))) = some (r1, r2) := h
 clear h
 replace H := Option.bind_eq_some_iff.mp H
 obtain ⟨⟨t1118, t1119⟩, A30, H⟩ := H
 replace H : ((spec_l1Rd_pick.f k s0_0 t1119 4).bind fun bt1120 => (if bt1120.1 = 0 then (if 0 ≤ t1118 then (if t1118 ≤ (a1.size : Int) then (some (a1.extract 0 (t1118 : Int).toNat, bt1120.2)) else (none)) else (none)) else (if bt1120.1 = 1 then (if 0 ≤ t1118 then (if t1118 ≤ (a1.size : Int) then ((some (([(⟨#[32]⟩ : ByteArray), (⟨#[10]⟩ : ByteArray), (⟨#[0]⟩ : ByteArray), (⟨#[45]⟩ : ByteArray), (⟨#[48]⟩ : ByteArray), (⟨#[120]⟩ : ByteArray), (⟨#[37, 122, 122]⟩ : ByteArray), (⟨#[37, 52]⟩ : ByteArray)] : List ByteArray) : List ByteArray)).bind fun y1122 => ((spec_l1Rd_pick.f k s0_0 bt1120.2 8).bind fun bt1125 => (if 0 ≤ bt1125.1 then (if bt1125.1 < (y1122.length : Int) then (if (a1.extract 0 (t1118 : Int).toNat).size + (rdOf ByteArray.empty y1122 bt1125.1).size ≤ 9223372036854775807 then (if ((a1.extract 0 (t1118 : Int).toNat) ++ (rdOf ByteArray.empty y1122 bt1125.1)).size + (a1.extract (t1118 : Int).toNat a1.size).size ≤ 9223372036854775807 then (some (((a1.extract 0 (t1118 : Int).toNat) ++ (rdOf ByteArray.empty y1122 bt1125.1)) ++ (a1.extract (t1118 : Int).toNat a1.size), bt1125.2)) else (none)) else (none)) else (none)) else (none)))) else (none)) else (none)) else (if bt1120.1 = 2 then (if t1118 < (a1.size : Int) then (if 0 ≤ t1118 then (if t1118 ≤ (a1.size : Int) then (if 0 ≤ (wrap64 (t1118 + 1)) then (if (wrap64 (t1118 + 1)) ≤ (a1.size : Int) then (if (a1.extract 0 (t1118 : Int).toNat).size + (a1.extract ((wrap64 (t1118 + 1)) : Int).toNat a1.size).size ≤ 9223372036854775807 then (some ((a1.extract 0 (t1118 : Int).toNat) ++ (a1.extract ((wrap64 (t1118 + 1)) : Int).toNat a1.size), bt1120.2)) else (none)) else (none)) else (none)) else (none)) else (none)) else (some (a1, bt1120.2))) else (if t1118 < (a1.size : Int) then (if 0 ≤ t1118 then (if t1118 ≤ (a1.size : Int) then ((spec_l1Rd_pick.f k s0_0 bt1120.2 256).bind fun bt1128 => ((some (([(bt1128.1) % 256] : List Int) : List Int)).bind fun y1130 => (if (a1.extract 0 (t1118 : Int).toNat).size + (strOfNums y1130).size ≤ 9223372036854775807 then (if 0 ≤ (wrap64 (t1118 + 1)) then (if (wrap64 (t1118 + 1)) ≤ (a1.size : Int) then (if ((a1.extract 0 (t1118 : Int).toNat) ++ (strOfNums y1130)).size + (a1.extract ((wrap64 (t1118 + 1)) : Int).toNat a1.size).size ≤ 9223372036854775807 then (some (((a1.extract 0 (t1118 : Int).toNat) ++ (strOfNums y1130)) ++ (a1.extract ((wrap64 (t1118 + 1)) : Int).toNat a1.size), bt1128.2)) else (none)) else (none)) else (none)) else (none)))) else (none)) else (none)) else (some (a1, bt1120.2))))))) = some (r1, r2) := H
 have A3 := Aside0.mk A30
 clear A30
 replace H := Option.bind_eq_some_iff.mp H
 obtain ⟨⟨t1120, t1121⟩, A40, H⟩ := H
 replace H : (if t1120 = 0 then (if 0 ≤ t1118 then (if t1118 ≤ (a1.size : Int) then (some (a1.extract 0 (t1118 : Int).toNat, t1121)) else (none)) else (none)) else (if t1120 = 1 then (if 0 ≤ t1118 then (if t1118 ≤ (a1.size : Int) then ((some (([(⟨#[32]⟩ : ByteArray), (⟨#[10]⟩ : ByteArray), (⟨#[0]⟩ : ByteArray), (⟨#[45]⟩ : ByteArray), (⟨#[48]⟩ : ByteArray), (⟨#[120]⟩ : ByteArray), (⟨#[37, 122, 122]⟩ : ByteArray), (⟨#[37, 52]⟩ : ByteArray)] : List ByteArray) : List ByteArray)).bind fun y1122 => ((spec_l1Rd_pick.f k s0_0 t1121 8).bind fun bt1125 => (if 0 ≤ bt1125.1 then (if bt1125.1 < (y1122.length : Int) then (if (a1.extract 0 (t1118 : Int).toNat).size + (rdOf ByteArray.empty y1122 bt1125.1).size ≤ 9223372036854775807 then (if ((a1.extract 0 (t1118 : Int).toNat) ++ (rdOf ByteArray.empty y1122 bt1125.1)).size + (a1.extract (t1118 : Int).toNat a1.size).size ≤ 9223372036854775807 then (some (((a1.extract 0 (t1118 : Int).toNat) ++ (rdOf ByteArray.empty y1122 bt1125.1)) ++ (a1.extract (t1118 : Int).toNat a1.size), bt1125.2)) else (none)) else (none)) else (none)) else (none)))) else (none)) else (none)) else (if t1120 = 2 then (if t1118 < (a1.size : Int) then (if 0 ≤ t1118 then (if t1118 ≤ (a1.size : Int) then (if 0 ≤ (wrap64 (t1118 + 1)) then (if (wrap64 (t1118 + 1)) ≤ (a1.size : Int) then (if (a1.extract 0 (t1118 : Int).toNat).size + (a1.extract ((wrap64 (t1118 + 1)) : Int).toNat a1.size).size ≤ 9223372036854775807 then (some ((a1.extract 0 (t1118 : Int).toNat) ++ (a1.extract ((wrap64 (t1118 + 1)) : Int).toNat a1.size), t1121)) else (none)) else (none)) else (none)) else (none)) else (none)) else (some (a1, t1121))) else (if t1118 < (a1.size : Int) then (if 0 ≤ t1118 then (if t1118 ≤ (a1.size : Int) then ((spec_l1Rd_pick.f k s0_0 t1121 256).bind fun bt1128 => ((some (([(bt1128.1) % 256] : List Int) : List Int)).bind fun y1130 => (if (a1.extract 0 (t1118 : Int).toNat).size + (strOfNums y1130).size ≤ 9223372036854775807 then (if 0 ≤ (wrap64 (t1118 + 1)) then (if (wrap64 (t1118 + 1)) ≤ (a1.size : Int) then (if ((a1.extract 0 (t1118 : Int).toNat) ++ (strOfNums y1130)).size + (a1.extract ((wrap64 (t1118 + 1)) : Int).toNat a1.size).size ≤ 9223372036854775807 then (some (((a1.extract 0 (t1118 : Int).toNat) ++ (strOfNums y1130)) ++ (a1.extract ((wrap64 (t1118 + 1)) : Int).toNat a1.size), bt1128.2)) else (none)) else (none)) else (none)) else (none)))) else (none)) else (none)) else (some (a1, t1121)))))) = some (r1, r2) := H
 have A4 := Aside0.mk A40
 clear A40
 by_cases c5 : t1120 = 0
 ·rw [if_pos c5] at H
  have c5b0 : (t1120 == 0) = true := beq_iff_eq.mpr c5
  have c5b1 : (t1120 != 0) = false := bne_eq_false_iff_eq.mpr c5
  clear c5
  by_cases c6 : 0 ≤ t1118
  ·rw [if_pos c6] at H
   have c6b0 := eq_true c6
   have c6b1 : decide (0 ≤ t1118) = true := decide_eq_true c6
   clear c6
   by_cases c7 : t1118 ≤ (a1.size : Int)
   ·rw [if_pos c7] at H
    have c7b0 := eq_true c7
    have c7b1 : decide (t1118 ≤ (a1.size : Int)) = true := decide_eq_true c7
    clear c7
    simp only [Option.some.injEq, Prod.mk.injEq] at H
    obtain ⟨rfl, rfl⟩ := H
    go_enter Try.func83, Try.ntmps83
    go_wp2_with (first | ((with_reducible refine gate_callee (f := 71) rfl ?_); refine gl__ (some 10) Try.func71 #[.pointer (some ⟨g, 0, none⟩), .int .i64 (wrap64 ((a1.size : Int) + 1))] ?_; (with_reducible refine (spec_l1Rd_pick.calls k g s0_0 s0_1 (wrap64 ((a1.size : Int) + 1)) t1118 t1119 w0 _ hhi0__iss104 b0_l__ A3.out).mono ?_); rintro e w8 ⟨rfl, hi, hb, hk⟩; refine ⟨_, rfl, ?_⟩; replace HK := am__ (KeepBut.trans (kee__) hk (.inl rfl)); replace HB := am__ (hb); replace HI0 := am__ (hi); clear hi hb hk) | ((with_reducible refine gate_callee (f := 71) rfl ?_); refine gl__ (some 12) Try.func71 #[.pointer (some ⟨g, 0, none⟩), .int .i64 4] ?_; (with_reducible refine (spec_l1Rd_pick.calls k g s0_0 t1119 4 t1120 t1121 w0 _ hhi0__iss104 b0_l__ A4.out).mono ?_); rintro e w9 ⟨rfl, hi, hb, hk⟩; refine ⟨_, rfl, ?_⟩; replace HK := am__ (KeepBut.trans (kee__) hk (.inl rfl)); replace HB := am__ (hb); replace HI0 := am__ (hi); clear hi hb hk))
    go_ret
    exact ⟨by first | rfl | (simp [errW_none, errW_some] <;> rfl) | (simp [*, errW_none, errW_some] <;> rfl), hhi0__iss104, by repeat (first | (with_reducible first | exact HB.out | apply below_alloc | apply pw_below_drewN | apply below_drew1 | refine below_set ?_ (IsS104.ge HI0.out)) | exact HB.out), kee__⟩
   ·rw [if_neg c7] at H
    exact absurd H (by simp)
  ·rw [if_neg c6] at H
   exact absurd H (by simp)
 ·rw [if_neg c5] at H
  have c5b0 : (t1120 == 0) = false := beq_eq_false_iff_ne.mpr c5
  have c5b1 : (t1120 != 0) = true := bne_iff_ne.mpr c5
  by_cases c10 : t1120 = 1
  ·rw [if_pos c10] at H
   have c10b0 : (t1120 == 1) = true := beq_iff_eq.mpr c10
   have c10b1 : (t1120 != 1) = false := bne_eq_false_iff_eq.mpr c10
   clear c10
   by_cases c11 : 0 ≤ t1118
   ·rw [if_pos c11] at H
    have c11b0 := eq_true c11
    have c11b1 : decide (0 ≤ t1118) = true := decide_eq_true c11
    clear c11
    by_cases c12 : t1118 ≤ (a1.size : Int)
    ·rw [if_pos c12] at H
     have c12b0 := eq_true c12
     have c12b1 : decide (t1118 ≤ (a1.size : Int)) = true := decide_eq_true c12
     clear c12
     obtain ⟨y1122, hy1122⟩ : ∃ y_ : List ByteArray, y_ = (([(⟨#[32]⟩ : ByteArray), (⟨#[10]⟩ : ByteArray), (⟨#[0]⟩ : ByteArray), (⟨#[45]⟩ : ByteArray), (⟨#[48]⟩ : ByteArray), (⟨#[120]⟩ : ByteArray), (⟨#[37, 122, 122]⟩ : ByteArray), (⟨#[37, 52]⟩ : ByteArray)] : List ByteArray)) := ⟨_, rfl⟩
     replace H : ((spec_l1Rd_pick.f k s0_0 t1121 8).bind fun bt1125 => (if 0 ≤ bt1125.1 then (if bt1125.1 < (y1122.length : Int) then (if (a1.extract 0 (t1118 : Int).toNat).size + (rdOf ByteArray.empty y1122 bt1125.1).size ≤ 9223372036854775807 then (if ((a1.extract 0 (t1118 : Int).toNat) ++ (rdOf ByteArray.empty y1122 bt1125.1)).size + (a1.extract (t1118 : Int).toNat a1.size).size ≤ 9223372036854775807 then (some (((a1.extract 0 (t1118 : Int).toNat) ++ (rdOf ByteArray.empty y1122 bt1125.1)) ++ (a1.extract (t1118 : Int).toNat a1.size), bt1125.2)) else (none)) else (none)) else (none)) else (none))) = some (r1, r2) := by first | (rw [hy1122]; with_reducible exact H) | (have H2_ := (Option.bind_some _ _).symm.trans H; rw [hy1122]; with_reducible exact H2_) | (have H2_ := (Option.bind_some _ _).symm.trans H; with_reducible exact H2_) | with_reducible exact H | (rw [hy1122]; exact H) | exact H
     have Ny1122 := Aside0.mk hy1122
     clear hy1122
     replace H := Option.bind_eq_some_iff.mp H
     obtain ⟨⟨t1125, t1126⟩, A130, H⟩ := H
     replace H : (if 0 ≤ t1125 then (if t1125 < (y1122.length : Int) then (if (a1.extract 0 (t1118 : Int).toNat).size + (rdOf ByteArray.empty y1122 t1125).size ≤ 9223372036854775807 then (if ((a1.extract 0 (t1118 : Int).toNat) ++ (rdOf ByteArray.empty y1122 t1125)).size + (a1.extract (t1118 : Int).toNat a1.size).size ≤ 9223372036854775807 then (some (((a1.extract 0 (t1118 : Int).toNat) ++ (rdOf ByteArray.empty y1122 t1125)) ++ (a1.extract (t1118 : Int).toNat a1.size), t1126)) else (none)) else (none)) else (none)) else (none)) = some (r1, r2) := H
     have A13 := Aside0.mk A130
     clear A130
     by_cases c14 : 0 ≤ t1125
     ·rw [if_pos c14] at H
      have c14b0 : decide (0 ≤ t1125) = true := decide_eq_true c14
      clear c14
      by_cases c15 : t1125 < (y1122.length : Int)
      ·rw [if_pos c15] at H
       have c15b0 : decide (t1125 < (y1122.length : Int)) = true := decide_eq_true c15
       clear c15
       by_cases c16 : (a1.extract 0 (t1118 : Int).toNat).size + (rdOf ByteArray.empty y1122 t1125).size ≤ 9223372036854775807
       ·rw [if_pos c16] at H
        have c16b0 := eq_true c16
        have c16b1 : decide ((a1.extract 0 (t1118 : Int).toNat).size + (rdOf ByteArray.empty y1122 t1125).size ≤ 9223372036854775807) = true := decide_eq_true c16
        try have c16b2 : (9223372036854775807 < (a1.extract 0 (t1118 : Int).toNat).size + (rdOf ByteArray.empty y1122 t1125).size) = False := eq_false (Nat.not_lt.2 c16)
        try have c16b4 : (9223372036854775807 < t1118.toNat + (rdOf ByteArray.empty y1122 t1125).size) = False := eq_false (by have h_ := c16; simp only [ByteArray.size_append, ByteArray.size_extract, eq_iff_iff, iff_true] at *; omega)
        try have c16b5 : (t1118.toNat + (rdOf ByteArray.empty y1122 t1125).size ≤ 9223372036854775807) = True := eq_true (by have h_ := c16; simp only [ByteArray.size_append, ByteArray.size_extract, eq_iff_iff, iff_true] at *; omega)
        have c17b0 := eq_true (of_decide_eq_true (by first | (with_reducible assumption) | assumption) : 0 ≤ t1118)
        have c18b0 := eq_true (of_decide_eq_true (by first | (with_reducible assumption) | assumption) : t1118 ≤ (a1.size : Int))
        by_cases c19 : ((a1.extract 0 (t1118 : Int).toNat) ++ (rdOf ByteArray.empty y1122 t1125)).size + (a1.extract (t1118 : Int).toNat a1.size).size ≤ 9223372036854775807
        ·rw [if_pos c19] at H
         have c19b0 := eq_true c19
         have c19b1 : decide (((a1.extract 0 (t1118 : Int).toNat) ++ (rdOf ByteArray.empty y1122 t1125)).size + (a1.extract (t1118 : Int).toNat a1.size).size ≤ 9223372036854775807) = true := decide_eq_true c19
         try have c19b2 : (9223372036854775807 < ((a1.extract 0 (t1118 : Int).toNat) ++ (rdOf ByteArray.empty y1122 t1125)).size + (a1.extract (t1118 : Int).toNat a1.size).size) = False := eq_false (Nat.not_lt.2 c19)
         try have c19b4 : (9223372036854775807 < t1118.toNat + (rdOf ByteArray.empty y1122 t1125).size + (a1.size - t1118.toNat)) = False := eq_false (by have h_ := c19; simp only [ByteArray.size_append, ByteArray.size_extract, eq_iff_iff, iff_true] at *; omega)
         try have c19b5 : (t1118.toNat + (rdOf ByteArray.empty y1122 t1125).size + (a1.size - t1118.toNat) ≤ 9223372036854775807) = True := eq_true (by have h_ := c19; simp only [ByteArray.size_append, ByteArray.size_extract, eq_iff_iff, iff_true] at *; omega)
         try (have c19b3 := c19b2; simp only [ByteArray.size_append] at c19b3)
         simp only [Option.some.injEq, Prod.mk.injEq] at H
         obtain ⟨rfl, rfl⟩ := H
         go_enter Try.func83, Try.ntmps83
         try go_wp2_with (first | ((with_reducible refine gate_callee (f := 71) rfl ?_); refine gl__ (some 10) Try.func71 #[.pointer (some ⟨g, 0, none⟩), .int .i64 (wrap64 ((a1.size : Int) + 1))] ?_; (with_reducible refine (spec_l1Rd_pick.calls k g s0_0 s0_1 (wrap64 ((a1.size : Int) + 1)) t1118 t1119 w0 _ hhi0__iss104 b0_l__ A3.out).mono ?_); rintro e w20 ⟨rfl, hi, hb, hk⟩; refine ⟨_, rfl, ?_⟩; replace HK := am__ (KeepBut.trans (kee__) hk (.inl rfl)); replace HB := am__ (hb); replace HI0 := am__ (hi); clear hi hb hk) | ((with_reducible refine gate_callee (f := 71) rfl ?_); refine gl__ (some 12) Try.func71 #[.pointer (some ⟨g, 0, none⟩), .int .i64 4] ?_; (with_reducible refine (spec_l1Rd_pick.calls k g s0_0 t1119 4 t1120 t1121 w0 _ hhi0__iss104 b0_l__ A4.out).mono ?_); rintro e w21 ⟨rfl, hi, hb, hk⟩; refine ⟨_, rfl, ?_⟩; replace HK := am__ (KeepBut.trans (kee__) hk (.inl rfl)); replace HB := am__ (hb); replace HI0 := am__ (hi); clear hi hb hk))
         have pi1127 : (0 ≤ (t1125 : Int)) = True := eq_true (of_decide_eq_true (by first | (with_reducible assumption) | assumption))
         have qi1127 : (t1125 < (y1122.length : Int)) = True := eq_true (of_decide_eq_true (by first | (with_reducible assumption) | assumption))
         have n0_ := am__ (IsS104.drew HI0.out)
         have n1_ := am__ (keep_drew HK.out)
         have n2_ := am__ (below_drew1 HB.out)
         clear HI0
         clear HK
         clear HB
         have HI0 := n0_
         have HK := n1_
         have HB := n2_
         clear n0_ n1_ n2_
         refine start_ (n := 14) (S := fun w' => True) (ds := []) #[false, false, false, false, false, false, false, false, false, false, false, false, false, false] (by kernel_rfl) rfl rfl trivial (fun hHeld => ?_); refine with_tabW spec_l1Bend.tab6 spec_l1Bend.bits6 (fun HT_ HW_ => ?_)
         generalize w21.drew = w22 at HI0 HK HB hHeld ⊢
         refine pu__ (i := 0) (N := some 20) #[true, false, false, false, false, false, false, false, false, false, false, false, false, false] HT_.out ?_
         refine pu__ (i := 1) (N := some 21) #[true, true, false, false, false, false, false, false, false, false, false, false, false, false] HT_.out ?_
         refine pu__ (i := 4) (N := some 24) #[true, true, false, false, true, false, false, false, false, false, false, false, false, false] HT_.out ?_
         refine pu__ (i := 9) (N := some 29) #[true, true, false, false, true, false, false, false, false, true, false, false, false, false] HT_.out ?_
         refine pu__ (i := 10) (N := some 30) #[true, true, false, false, true, false, false, false, false, true, true, false, false, false] HT_.out ?_
         refine inv_at [2, 3, 5, 6, 7, 8, 11, 12, 13] (fun a0_ b a w' => ∃ (v1123 : Value) (adz_v1123 : Addr) (m6_ : Value), a = putSel a0_ b [(2, 22, .string (a1.extract 0 (t1118 : Int).toNat)), (3, 23, v1123), (5, 25, .int .i64 t1125), (6, 26, m6_), (7, 27, .string (rdOf ByteArray.empty y1122 t1125)), (8, 28, .string ((a1.extract 0 (t1118 : Int).toNat) ++ (rdOf ByteArray.empty y1122 t1125))), (11, 31, .string (a1.extract (t1118 : Int).toNat a1.size)), (12, 32, .string (((a1.extract 0 (t1118 : Int).toNat) ++ (rdOf ByteArray.empty y1122 t1125)) ++ (a1.extract (t1118 : Int).toNat a1.size))), (13, 4, .string (((a1.extract 0 (t1118 : Int).toNat) ++ (rdOf ByteArray.empty y1122 t1125)) ++ (a1.extract (t1118 : Int).toNat a1.size)))] ∧ (b 5 = false → IsS104 w0 w' g s0_0 t1121) ∧ (KeepBut w w' g none) ∧ (Below w0.heap.size w0 w') ∧ (b 3 = true → Kd.R Kd.string 9 w' w.heap.size (fun _ => True) v1123 y1122) ∧ (b 3 = true → ∃ c_, (v1123 : Value) = .slice (some adz_v1123) y1122.length c_) ∧ (b 5 = true → IsS104 w0 w' g s0_0 t1126) ∧ (b 6 = true → (m6_ : Value) = .pointer (some (adz_v1123.add (t1125).toNat)))) HT_.out HW_.out (by kernel_rfl) (by kernel_rfl) ?_ ?_ ?_
         ·exact ⟨.bool false, ⟨0, 0, none⟩, .bool false, by simp only [putSel, Bool.false_eq_true, if_false], fun _ => HI0.out, HK.out, HB.out, fun h_ => absurd h_ (by decide), fun h_ => absurd h_ (by decide), fun h_ => absurd h_ (by decide), fun h_ => absurd h_ (by decide)⟩
         ·skip
          clear HB HI0 HK
          refine steps_cons ?_ ?_
          ·rintro b a w' ⟨v1123, adz_v1123, m6_, ha, Q_HI0, Q_HK, Q_HB, Q_HO1124, Q_HA_HO1124, Q_HI0_e5, Q_X6_⟩ hb_ hon hoff
           refine ⟨_, rfl, fun K hK => ?_⟩
           have e20 : a.tmps[20]? = some (.string a1) := by rw [ha]; exact (putSel_off rfl).trans rfl
           have e21 : a.tmps[21]? = some (.int .i64 t1118) := by rw [ha]; exact (putSel_off rfl).trans rfl
           replace ha := Aside0.mk ha
           have HK := Aside0.mk Q_HK
           have HB := Aside0.mk Q_HB
           refine value_ (w1 := w') (v := .string (a1.extract 0 (t1118 : Int).toNat)) (by rfl) rfl ?_ ?_
           ·go_simp
            (try simp only [i64_w])
            try rfl
           refine hK.out _ _ ⟨v1123, adz_v1123, m6_, (by rw [ha.out]; exact putSel_upk 0 hb_ rfl rfl rfl), Q_HI0, Q_HK, Q_HB, Q_HO1124, Q_HA_HO1124, Q_HI0_e5, Q_X6_⟩
          refine steps_cons ?_ ?_
          ·rintro b a w' ⟨v1123, adz_v1123, m6_, ha, Q_HI0, Q_HK, Q_HB, Q_HO1124, Q_HA_HO1124, Q_HI0_e5, Q_X6_⟩ hb_ hon hoff
           refine ⟨_, rfl, fun K hK => ?_⟩
           replace ha := Aside0.mk ha
           have HK := Aside0.mk Q_HK
           have HB := Aside0.mk Q_HB
           refine Kd.R_lit_step Kd.string _ 9 ?hg (N := 23) ?hd (xs := ([(⟨#[32]⟩ : ByteArray), (⟨#[10]⟩ : ByteArray), (⟨#[0]⟩ : ByteArray), (⟨#[45]⟩ : ByteArray), (⟨#[48]⟩ : ByteArray), (⟨#[120]⟩ : ByteArray), (⟨#[37, 122, 122]⟩ : ByteArray), (⟨#[37, 52]⟩ : ByteArray)] : List ByteArray)) (inner := [.string (⟨#[32]⟩ : ByteArray), .string (⟨#[10]⟩ : ByteArray), .string (⟨#[0]⟩ : ByteArray), .string (⟨#[45]⟩ : ByteArray), .string (⟨#[48]⟩ : ByteArray), .string (⟨#[120]⟩ : ByteArray), .string (⟨#[37, 122, 122]⟩ : ByteArray), .string (⟨#[37, 52]⟩ : ByteArray)]) (ok := fun _ => True) (okp := fun _ => True) ?hr ?hp (fun _ hk => hk) trivial (Below.refl _ _) (Nat.le_refl _) (by simp) ?_; (case hd => rfl); (case hg => rfl); (case hr => first | (go_simp; done) | (go_simp; rfl)); (case hp => exact (Reps.one (show Kd.M Kd.string _ _ _ (⟨#[32]⟩ : ByteArray) [.string (⟨#[32]⟩ : ByteArray)] from rfl) (Reps.one (show Kd.M Kd.string _ _ _ (⟨#[10]⟩ : ByteArray) [.string (⟨#[10]⟩ : ByteArray)] from rfl) (Reps.one (show Kd.M Kd.string _ _ _ (⟨#[0]⟩ : ByteArray) [.string (⟨#[0]⟩ : ByteArray)] from rfl) (Reps.one (show Kd.M Kd.string _ _ _ (⟨#[45]⟩ : ByteArray) [.string (⟨#[45]⟩ : ByteArray)] from rfl) (Reps.one (show Kd.M Kd.string _ _ _ (⟨#[48]⟩ : ByteArray) [.string (⟨#[48]⟩ : ByteArray)] from rfl) (Reps.one (show Kd.M Kd.string _ _ _ (⟨#[120]⟩ : ByteArray) [.string (⟨#[120]⟩ : ByteArray)] from rfl) (Reps.one (show Kd.M Kd.string _ _ _ (⟨#[37, 122, 122]⟩ : ByteArray) [.string (⟨#[37, 122, 122]⟩ : ByteArray)] from rfl) (Reps.one (show Kd.M Kd.string _ _ _ (⟨#[37, 52]⟩ : ByteArray) [.string (⟨#[37, 52]⟩ : ByteArray)] from rfl) (Reps.none _ _))))))))))
           intro v1123 w23 ho24 hb hg_ hnew_
           clear hg_ hnew_
           (first | rw [← Ny1122.out] at ho24 | (simp only [Int.reduceToNat] at ho24; rw [← Ny1122.out] at ho24))
           have n0_ := am__ (Kd.R_lower ho24 (keep_size (w := w) (g := g) (row := none) (kee__)))
           have n2_ := am__ (KeepBut.trans (kee__) (KeepBut.of_below hb g none) (.inl rfl))
           have n3_ := am__ (below_step (bel__) hb)
           have z_HI0 := fun (h0_ : b 5 = false) => (show IsS104 w0 w23 g s0_0 t1121 from by first | exact (IsS104.below (by repeat (first | (with_reducible first | exact (Q_HI0 h0_) | apply IsS104.alloc | apply IsS104.drewN | apply IsS104.drew | apply IsS104.set_1) | exact (Q_HI0 h0_))) hb))
           have z_HI0_e5 := fun (h0_ : b 5 = true) => (show IsS104 w0 w23 g s0_0 t1126 from by first | exact (IsS104.below (by repeat (first | (with_reducible first | exact (Q_HI0_e5 h0_) | apply IsS104.alloc | apply IsS104.drewN | apply IsS104.drew | apply IsS104.set_1) | exact (Q_HI0_e5 h0_))) hb))
           clear HK
           clear HB
           have HO1124 := n0_
           have HK := n2_
           have HB := n3_
           clear n0_ n2_ n3_
           clear hb ho24
           obtain ⟨Ao25, co25, eo25⟩ := Kd.R_slice HO1124.out
           subst eo25
           obtain ⟨ado25, fo25, _⟩ := Kd.at_string (Kd.R_reads' HO1124.out).2.2 0 (by decide) (by rw [Ny1122.out]; simp)
           cases fo25
           refine hK.out _ _ ⟨.slice (some ado25) y1122.length co25, ado25, m6_, (by rw [ha.out]; exact putSel_upk 1 hb_ rfl rfl rfl), z_HI0, (kee__), (bel__), fun _ => (rr__ HO1124.out), fun _ => ⟨_, rfl⟩, z_HI0_e5, fun h0_ => absurd ((hoff 6 (by kernel_rfl)).symm.trans h0_) (by decide)⟩
          refine steps_cons ?_ ?_
          ·rintro b a w' ⟨v1123, adz_v1123, m6_, ha, Q_HI0, Q_HK, Q_HB, Q_HO1124, Q_HA_HO1124, Q_HI0_e5, Q_X6_⟩ hb_ hon hoff
           refine ⟨_, rfl, fun K hK => ?_⟩
           have e24 : a.tmps[24]? = some (.pointer (some ⟨g, 0, none⟩)) := by rw [ha]; exact (putSel_off rfl).trans rfl
           replace ha := Aside0.mk ha
           have HI0 := am__ (Q_HI0 hb_)
           have HK := Aside0.mk Q_HK
           have HB := Aside0.mk Q_HB
           refine goes_ Try.func71 (by kernel_rfl) rfl #[.pointer (some ⟨g, 0, none⟩), .int .i64 8] (by rfl) rfl rfl (by first | (simp only [List.map_toArray, List.map_cons, List.map_nil, Act.eval, Array.getD_eq_getD_getElem?, Option.getD_some, e24]; done) | (simp only [List.map_toArray, List.map_cons, List.map_nil, Act.eval, Array.getD_eq_getD_getElem?, Option.getD_some, e24]; rfl)) ?_
           with_reducible refine (spec_l1Rd_pick.calls k g s0_0 t1121 8 t1125 t1126 w0 _ ?side1 ?side2 A13.out).mono ?_
           (case side1 => repeat (first | (with_reducible first | exact HI0.out | apply IsS104.alloc | apply IsS104.drewN | apply IsS104.drew | apply IsS104.set_1) | exact HI0.out))
           (case side2 => repeat (first | (with_reducible first | exact HB.out | apply below_alloc | apply pw_below_drewN | apply below_drew1 | refine below_set ?_ (IsS104.ge HI0.out)) | exact HB.out))
           rintro e w23 ⟨rfl, hi, hb, hk⟩
           refine ⟨_, rfl, ?_⟩
           have n0_ := am__ (KeepBut.trans (kee__) hk (.inl rfl))
           have n1_ := am__ (hb)
           have n2_ := am__ (hi)
           have z_HO1124 := fun (h0_ : b 3 = true) => (show Kd.R Kd.string 9 w23 w.heap.size (fun _ => True) v1123 y1122 from by first | exact (Kd.R_mono (Kd.R_keep (IsS104.apart (show IsS104 w0 _ g s0_0 t1121 from hhi0__iss104) (by refine rps__ ?_; exact (Q_HO1124 h0_)) (by decide)) hk h2__) h1__) | exact Kd.R_mono (Kd.R_mono (Kd.R_keep (IsS104.apart (show IsS104 w0 _ g s0_0 t1121 from hhi0__iss104) (by refine rps__ ?_; exact (Q_HO1124 h0_)) (by decide)) hk h2__) h1__) (fun _ h_ => by first | trivial | exact h_ | exact h_.1))
           clear HK
           clear HB
           clear HI0
           have HK := n0_
           have HB := n1_
           have HI0 := n2_
           clear n0_ n1_ n2_
           (try clear hb)
           (try clear hb2)
           (try clear hk)
           (try clear hi)
           refine hK.out _ _ ⟨v1123, adz_v1123, m6_, (by rw [ha.out]; exact putSel_upk 2 hb_ rfl rfl rfl), fun h0_ => absurd ((up_self b 5).symm.trans h0_) (by decide), (kee__), (b0_l__), z_HO1124, Q_HA_HO1124, fun _ => (hhi0__iss104), fun h0_ => absurd ((hoff 6 (by kernel_rfl)).symm.trans h0_) (by decide)⟩
          refine steps_cons ?_ ?_
          ·rintro b a w' ⟨v1123, adz_v1123, m6_, ha, Q_HI0, Q_HK, Q_HB, Q_HO1124, Q_HA_HO1124, Q_HI0_e5, Q_X6_⟩ hb_ hon hoff
           refine ⟨_, rfl, fun K hK => ?_⟩
           have e23 : a.tmps[23]? = some (v1123) := by rw [ha]; exact putSel_on (e := (3, 23, v1123)) 1 rfl rfl (hon 3 (by kernel_rfl)) rfl
           have e25 : a.tmps[25]? = some (.int .i64 t1125) := by rw [ha]; exact putSel_on (e := (5, 25, .int .i64 t1125)) 2 rfl rfl (hon 5 (by kernel_rfl)) rfl
           replace ha := Aside0.mk ha
           have HK := Aside0.mk Q_HK
           have HB := Aside0.mk Q_HB
           have HO1124 := am__ (Q_HO1124 (hon 3 (by kernel_rfl)))
           have HA_HO1124 := am__ (Q_HA_HO1124 (hon 3 (by kernel_rfl)))
           have HI0 := am__ (Q_HI0_e5 (hon 5 (by kernel_rfl)))
           obtain ⟨c_, hv_⟩ := HA_HO1124.out
           rw [hv_] at e23
           refine value_ (w1 := w') (v := .pointer (some (adz_v1123.add (t1125).toNat))) (by rfl) rfl ?_ ?_
           ·go_simp
            (try simp only [i64_w])
            try rfl
           refine hK.out _ _ ⟨v1123, adz_v1123, (.pointer (some (adz_v1123.add (t1125).toNat))), (by rw [ha.out]; exact putSel_upk 3 hb_ rfl rfl rfl), fun h0_ => absurd ((hon 5 (by kernel_rfl)).symm.trans h0_) (by decide), Q_HK, Q_HB, Q_HO1124, Q_HA_HO1124, Q_HI0_e5, fun _ => rfl⟩
          refine steps_cons ?_ ?_
          ·rintro b a w' ⟨v1123, adz_v1123, m6_, ha, Q_HI0, Q_HK, Q_HB, Q_HO1124, Q_HA_HO1124, Q_HI0_e5, Q_X6_⟩ hb_ hon hoff
           refine ⟨_, rfl, fun K hK => ?_⟩
           have e26 : a.tmps[26]? = some (m6_) := by rw [ha]; exact putSel_on (e := (6, 26, m6_)) 3 rfl rfl (hon 6 (by kernel_rfl)) rfl
           rw [Q_X6_ (hon 6 (by kernel_rfl))] at e26
           replace ha := Aside0.mk ha
           have HK := Aside0.mk Q_HK
           have HB := Aside0.mk Q_HB
           have HO1124 := am__ (Q_HO1124 (hon 3 (by kernel_rfl)))
           have HA_HO1124 := am__ (Q_HA_HO1124 (hon 3 (by kernel_rfl)))
           have HI0 := am__ (Q_HI0_e5 (hon 5 (by kernel_rfl)))
           obtain ⟨c_, hv_⟩ := HA_HO1124.out
           have hF_ := HO1124.out
           rw [hv_] at hF_
           obtain ⟨ad_, ea_, hx_⟩ := Kd.at_string (Kd.R_reads' hF_).2.2 t1125 (of_eq_true pi1127) (of_eq_true qi1127)
           cases ea_
           refine value_ (w1 := w') (v := .string (rdOf ByteArray.empty y1122 t1125)) (by rfl) rfl ?_ ?_
           ·go_simp
            (try simp only [i64_w])
            try rfl
           refine hK.out _ _ ⟨v1123, adz_v1123, m6_, (by rw [ha.out]; exact putSel_upk 4 hb_ rfl rfl rfl), fun h0_ => absurd ((hon 5 (by kernel_rfl)).symm.trans h0_) (by decide), Q_HK, Q_HB, Q_HO1124, Q_HA_HO1124, Q_HI0_e5, Q_X6_⟩
          refine steps_cons ?_ ?_
          ·rintro b a w' ⟨v1123, adz_v1123, m6_, ha, Q_HI0, Q_HK, Q_HB, Q_HO1124, Q_HA_HO1124, Q_HI0_e5, Q_X6_⟩ hb_ hon hoff
           refine ⟨_, rfl, fun K hK => ?_⟩
           have e22 : a.tmps[22]? = some (.string (a1.extract 0 (t1118 : Int).toNat)) := by rw [ha]; exact putSel_on (e := (2, 22, .string (a1.extract 0 (t1118 : Int).toNat))) 0 rfl rfl (hon 2 (by kernel_rfl)) rfl
           have e27 : a.tmps[27]? = some (.string (rdOf ByteArray.empty y1122 t1125)) := by rw [ha]; exact putSel_on (e := (7, 27, .string (rdOf ByteArray.empty y1122 t1125))) 4 rfl rfl (hon 7 (by kernel_rfl)) rfl
           replace ha := Aside0.mk ha
           have HK := Aside0.mk Q_HK
           have HB := Aside0.mk Q_HB
           have HO1124 := am__ (Q_HO1124 (hon 3 (by kernel_rfl)))
           have HA_HO1124 := am__ (Q_HA_HO1124 (hon 3 (by kernel_rfl)))
           have HI0 := am__ (Q_HI0_e5 (hon 5 (by kernel_rfl)))
           refine value_ (w1 := w') (v := .string ((a1.extract 0 (t1118 : Int).toNat) ++ (rdOf ByteArray.empty y1122 t1125))) (by rfl) rfl ?_ ?_
           ·go_simp
            (try simp only [i64_w])
            try rfl
           refine hK.out _ _ ⟨v1123, adz_v1123, m6_, (by rw [ha.out]; exact putSel_upk 5 hb_ rfl rfl rfl), fun h0_ => absurd ((hon 5 (by kernel_rfl)).symm.trans h0_) (by decide), Q_HK, Q_HB, Q_HO1124, Q_HA_HO1124, Q_HI0_e5, Q_X6_⟩
          refine steps_cons ?_ ?_
          ·rintro b a w' ⟨v1123, adz_v1123, m6_, ha, Q_HI0, Q_HK, Q_HB, Q_HO1124, Q_HA_HO1124, Q_HI0_e5, Q_X6_⟩ hb_ hon hoff
           refine ⟨_, rfl, fun K hK => ?_⟩
           have e29 : a.tmps[29]? = some (.string a1) := by rw [ha]; exact (putSel_off rfl).trans rfl
           have e30 : a.tmps[30]? = some (.int .i64 t1118) := by rw [ha]; exact (putSel_off rfl).trans rfl
           replace ha := Aside0.mk ha
           have HK := Aside0.mk Q_HK
           have HB := Aside0.mk Q_HB
           refine value_ (w1 := w') (v := .string (a1.extract (t1118 : Int).toNat a1.size)) (by rfl) rfl ?_ ?_
           ·go_simp
            (try simp only [i64_w])
            try rfl
           refine hK.out _ _ ⟨v1123, adz_v1123, m6_, (by rw [ha.out]; exact putSel_upk 6 hb_ rfl rfl rfl), Q_HI0, Q_HK, Q_HB, Q_HO1124, Q_HA_HO1124, Q_HI0_e5, Q_X6_⟩
          refine steps_cons ?_ ?_
          ·rintro b a w' ⟨v1123, adz_v1123, m6_, ha, Q_HI0, Q_HK, Q_HB, Q_HO1124, Q_HA_HO1124, Q_HI0_e5, Q_X6_⟩ hb_ hon hoff
           refine ⟨_, rfl, fun K hK => ?_⟩
           have e28 : a.tmps[28]? = some (.string ((a1.extract 0 (t1118 : Int).toNat) ++ (rdOf ByteArray.empty y1122 t1125))) := by rw [ha]; exact putSel_on (e := (8, 28, .string ((a1.extract 0 (t1118 : Int).toNat) ++ (rdOf ByteArray.empty y1122 t1125)))) 5 rfl rfl (hon 8 (by kernel_rfl)) rfl
           have e31 : a.tmps[31]? = some (.string (a1.extract (t1118 : Int).toNat a1.size)) := by rw [ha]; exact putSel_on (e := (11, 31, .string (a1.extract (t1118 : Int).toNat a1.size))) 6 rfl rfl (hon 11 (by kernel_rfl)) rfl
           replace ha := Aside0.mk ha
           have HK := Aside0.mk Q_HK
           have HB := Aside0.mk Q_HB
           have HO1124 := am__ (Q_HO1124 (hon 3 (by kernel_rfl)))
           have HA_HO1124 := am__ (Q_HA_HO1124 (hon 3 (by kernel_rfl)))
           have HI0 := am__ (Q_HI0_e5 (hon 5 (by kernel_rfl)))
           refine value_ (w1 := w') (v := .string (((a1.extract 0 (t1118 : Int).toNat) ++ (rdOf ByteArray.empty y1122 t1125)) ++ (a1.extract (t1118 : Int).toNat a1.size))) (by rfl) rfl ?_ ?_
           ·go_simp
            (try simp only [i64_w])
            try rfl
           refine hK.out _ _ ⟨v1123, adz_v1123, m6_, (by rw [ha.out]; exact putSel_upk 7 hb_ rfl rfl rfl), fun h0_ => absurd ((hon 5 (by kernel_rfl)).symm.trans h0_) (by decide), Q_HK, Q_HB, Q_HO1124, Q_HA_HO1124, Q_HI0_e5, Q_X6_⟩
          refine steps_cons ?_ ?_
          ·rintro b a w' ⟨v1123, adz_v1123, m6_, ha, Q_HI0, Q_HK, Q_HB, Q_HO1124, Q_HA_HO1124, Q_HI0_e5, Q_X6_⟩ hb_ hon hoff
           refine ⟨_, rfl, fun K hK => ?_⟩
           have e32 : a.tmps[32]? = some (.string (((a1.extract 0 (t1118 : Int).toNat) ++ (rdOf ByteArray.empty y1122 t1125)) ++ (a1.extract (t1118 : Int).toNat a1.size))) := by rw [ha]; exact putSel_on (e := (12, 32, .string (((a1.extract 0 (t1118 : Int).toNat) ++ (rdOf ByteArray.empty y1122 t1125)) ++ (a1.extract (t1118 : Int).toNat a1.size)))) 7 rfl rfl (hon 12 (by kernel_rfl)) rfl
           replace ha := Aside0.mk ha
           have HK := Aside0.mk Q_HK
           have HB := Aside0.mk Q_HB
           have HO1124 := am__ (Q_HO1124 (hon 3 (by kernel_rfl)))
           have HA_HO1124 := am__ (Q_HA_HO1124 (hon 3 (by kernel_rfl)))
           have HI0 := am__ (Q_HI0_e5 (hon 5 (by kernel_rfl)))
           refine value_ (w1 := w') (v := .string (((a1.extract 0 (t1118 : Int).toNat) ++ (rdOf ByteArray.empty y1122 t1125)) ++ (a1.extract (t1118 : Int).toNat a1.size))) (by rfl) rfl ?_ ?_
           ·go_simp
            (try simp only [i64_w])
            try rfl
           refine hK.out _ _ ⟨v1123, adz_v1123, m6_, (by rw [ha.out]; exact putSel_upk 8 hb_ rfl rfl rfl), fun h0_ => absurd ((hon 5 (by kernel_rfl)).symm.trans h0_) (by decide), Q_HK, Q_HB, Q_HO1124, Q_HA_HO1124, Q_HI0_e5, Q_X6_⟩
          exact steps_nil
         rintro b a w27 hall ⟨v1123, adz_v1123, m6_, ha, Q_HI0, Q_HK, Q_HB, Q_HO1124, Q_HA_HO1124, Q_HI0_e5, Q_X6_⟩
         clear HB HI0 HK
         have hb2_ := hall 2 (by kernel_rfl)
         have hb3_ := hall 3 (by kernel_rfl)
         have hb5_ := hall 5 (by kernel_rfl)
         have hb6_ := hall 6 (by kernel_rfl)
         have hb7_ := hall 7 (by kernel_rfl)
         have hb8_ := hall 8 (by kernel_rfl)
         have hb11_ := hall 11 (by kernel_rfl)
         have hb12_ := hall 12 (by kernel_rfl)
         have hb13_ := hall 13 (by kernel_rfl)
         subst ha
         obtain rfl := Q_X6_ hb6_
         simp only [putSel, hb2_, hb3_, hb5_, hb6_, hb7_, hb8_, hb11_, hb12_, hb13_, if_true, Act.put, List.setIfInBounds_toArray, List.set_cons_zero, List.set_cons_succ]
         clear Q_HI0
         have HK := Aside0.mk Q_HK
         clear Q_HK
         have HB := Aside0.mk Q_HB
         clear Q_HB
         have HO1124 := am__ (Q_HO1124 hb3_)
         clear Q_HO1124
         have HA_HO1124 := am__ (Q_HA_HO1124 hb3_)
         clear Q_HA_HO1124
         have HI0 := am__ (Q_HI0_e5 hb5_)
         clear Q_HI0_e5
         clear hall hb2_ hb3_ hb5_ hb6_ hb7_ hb8_ hb11_ hb12_ hb13_
         obtain ⟨co28, eo28⟩ := HA_HO1124.out
         clear HA_HO1124
         subst eo28
         try go_wp2
         go_ret
         exact ⟨by first | rfl | (simp [errW_none, errW_some] <;> rfl) | (simp [*, errW_none, errW_some] <;> rfl), hhi0__iss104, by repeat (first | (with_reducible first | exact HB.out | apply below_alloc | apply pw_below_drewN | apply below_drew1 | refine below_set ?_ (IsS104.ge HI0.out)) | exact HB.out), kee__⟩
        ·rw [if_neg c19] at H
         exact absurd H (by simp)
       ·rw [if_neg c16] at H
        exact absurd H (by simp)
      ·rw [if_neg c15] at H
       exact absurd H (by simp)
     ·rw [if_neg c14] at H
      exact absurd H (by simp)
    ·rw [if_neg c12] at H
     exact absurd H (by simp)
   ·rw [if_neg c11] at H
    exact absurd H (by simp)
  ·rw [if_neg c10] at H
   have c10b0 : (t1120 == 1) = false := beq_eq_false_iff_ne.mpr c10
   have c10b1 : (t1120 != 1) = true := bne_iff_ne.mpr c10
   by_cases c29 : t1120 = 2
   ·rw [if_pos c29] at H
    have c29b0 : (t1120 == 2) = true := beq_iff_eq.mpr c29
    have c29b1 : (t1120 != 2) = false := bne_eq_false_iff_eq.mpr c29
    clear c29
    by_cases c30 : t1118 < (a1.size : Int)
    ·rw [if_pos c30] at H
     have c30b0 : decide (t1118 < (a1.size : Int)) = true := decide_eq_true c30
     clear c30
     by_cases c31 : 0 ≤ t1118
     ·rw [if_pos c31] at H
      have c31b0 := eq_true c31
      have c31b1 : decide (0 ≤ t1118) = true := decide_eq_true c31
      clear c31
      by_cases c32 : t1118 ≤ (a1.size : Int)
      ·rw [if_pos c32] at H
       have c32b0 := eq_true c32
       have c32b1 : decide (t1118 ≤ (a1.size : Int)) = true := decide_eq_true c32
       clear c32
       obtain ⟨ji33, hji33⟩ : ∃ j_ : Int, (wrap64 (t1118 + 1)) = j_ := ⟨_, rfl⟩
       replace H : (if 0 ≤ (ji33) then (if (ji33) ≤ (a1.size : Int) then (if (a1.extract 0 (t1118 : Int).toNat).size + (a1.extract ((ji33) : Int).toNat a1.size).size ≤ 9223372036854775807 then (some ((a1.extract 0 (t1118 : Int).toNat) ++ (a1.extract ((ji33) : Int).toNat a1.size), t1121)) else (none)) else (none)) else (none)) = some (r1, r2) := by first | (rw [hji33] at H; exact H) | (simp only [hji33] at H ⊢; exact H)
       (try rw [hji33] at A3)
       (try rw [hji33] at A4)
       have hji33w : (IntKind.i64.wrap (t1118 + 1)) = ji33 := (i64_w _).trans hji33
       by_cases c34 : 0 ≤ (ji33)
       ·rw [if_pos c34] at H
        have c34b0 := eq_true c34
        have c34b1 : decide (0 ≤ (ji33)) = true := decide_eq_true c34
        clear c34
        by_cases c35 : (ji33) ≤ (a1.size : Int)
        ·rw [if_pos c35] at H
         have c35b0 := eq_true c35
         have c35b1 : decide ((ji33) ≤ (a1.size : Int)) = true := decide_eq_true c35
         clear c35
         by_cases c36 : (a1.extract 0 (t1118 : Int).toNat).size + (a1.extract ((ji33) : Int).toNat a1.size).size ≤ 9223372036854775807
         ·rw [if_pos c36] at H
          have c36b0 := eq_true c36
          have c36b1 : decide ((a1.extract 0 (t1118 : Int).toNat).size + (a1.extract ((ji33) : Int).toNat a1.size).size ≤ 9223372036854775807) = true := decide_eq_true c36
          try have c36b2 : (9223372036854775807 < (a1.extract 0 (t1118 : Int).toNat).size + (a1.extract ((ji33) : Int).toNat a1.size).size) = False := eq_false (Nat.not_lt.2 c36)
          try have c36b4 : (9223372036854775807 < t1118.toNat + (a1.size - ji33.toNat)) = False := eq_false (by have h_ := c36; simp only [ByteArray.size_append, ByteArray.size_extract, eq_iff_iff, iff_true] at *; omega)
          try have c36b5 : (t1118.toNat + (a1.size - ji33.toNat) ≤ 9223372036854775807) = True := eq_true (by have h_ := c36; simp only [ByteArray.size_append, ByteArray.size_extract, eq_iff_iff, iff_true] at *; omega)
          simp only [Option.some.injEq, Prod.mk.injEq] at H
          obtain ⟨rfl, rfl⟩ := H
          go_enter Try.func83, Try.ntmps83
          try go_wp2_with (first | ((with_reducible refine gate_callee (f := 71) rfl ?_); refine gl__ (some 10) Try.func71 #[.pointer (some ⟨g, 0, none⟩), .int .i64 (wrap64 ((a1.size : Int) + 1))] ?_; (with_reducible refine (spec_l1Rd_pick.calls k g s0_0 s0_1 (wrap64 ((a1.size : Int) + 1)) t1118 t1119 w0 _ hhi0__iss104 b0_l__ A3.out).mono ?_); rintro e w37 ⟨rfl, hi, hb, hk⟩; refine ⟨_, rfl, ?_⟩; replace HK := am__ (KeepBut.trans (kee__) hk (.inl rfl)); replace HB := am__ (hb); replace HI0 := am__ (hi); clear hi hb hk) | ((with_reducible refine gate_callee (f := 71) rfl ?_); refine gl__ (some 12) Try.func71 #[.pointer (some ⟨g, 0, none⟩), .int .i64 4] ?_; (with_reducible refine (spec_l1Rd_pick.calls k g s0_0 t1119 4 t1120 t1121 w0 _ hhi0__iss104 b0_l__ A4.out).mono ?_); rintro e w38 ⟨rfl, hi, hb, hk⟩; refine ⟨_, rfl, ?_⟩; replace HK := am__ (KeepBut.trans (kee__) hk (.inl rfl)); replace HB := am__ (hb); replace HI0 := am__ (hi); clear hi hb hk))
          have n0_ := am__ (IsS104.drew HI0.out)
          have n1_ := am__ (keep_drew HK.out)
          have n2_ := am__ (below_drew1 HB.out)
          clear HI0
          clear HK
          clear HB
          have HI0 := n0_
          have HK := n1_
          have HB := n2_
          clear n0_ n1_ n2_
          refine start_ (n := 9) (S := fun w' => True) (ds := []) #[false, false, false, false, false, false, false, false, false] (by kernel_rfl) rfl rfl trivial (fun hHeld => ?_); refine with_tabW spec_l1Bend.tab9 spec_l1Bend.bits9 (fun HT_ HW_ => ?_)
          generalize w38.drew = w39 at HI0 HK HB hHeld ⊢
          refine pu__ (i := 0) (N := some 39) #[true, false, false, false, false, false, false, false, false] HT_.out ?_
          refine pu__ (i := 1) (N := some 40) #[true, true, false, false, false, false, false, false, false] HT_.out ?_
          refine pu__ (i := 2) (N := some 41) #[true, true, true, false, false, false, false, false, false] HT_.out ?_
          refine pu__ (i := 3) (N := some 42) #[true, true, true, true, false, false, false, false, false] HT_.out ?_
          refine pu__ (i := 4) (N := some 43) #[true, true, true, true, true, false, false, false, false] HT_.out ?_
          refine pu__ (i := 5) (N := some 44) #[true, true, true, true, true, true, false, false, false] HT_.out ?_
          refine pu__ (i := 6) (N := some 45) #[true, true, true, true, true, true, true, false, false] HT_.out ?_
          refine pu__ (i := 7) (N := some 46) #[true, true, true, true, true, true, true, true, false] HT_.out ?_
          refine pu__ (i := 8) (N := some 4) #[true, true, true, true, true, true, true, true, true] HT_.out ?_
          refine done_ (done_of HT_.out (by kernel_rfl)) ?_
          try go_wp2
          go_ret
          exact ⟨by first | rfl | (simp [errW_none, errW_some] <;> rfl) | (simp only [← hji33]; first | rfl | (simp [errW_none, errW_some] <;> rfl)) | (simp [*, errW_none, errW_some] <;> rfl), hhi0__iss104, by repeat (first | (with_reducible first | exact HB.out | apply below_alloc | apply pw_below_drewN | apply below_drew1 | refine below_set ?_ (IsS104.ge HI0.out)) | exact HB.out), kee__⟩
         ·rw [if_neg c36] at H
          exact absurd H (by simp)
        ·rw [if_neg c35] at H
         exact absurd H (by simp)
       ·rw [if_neg c34] at H
        exact absurd H (by simp)
      ·rw [if_neg c32] at H
       exact absurd H (by simp)
     ·rw [if_neg c31] at H
      exact absurd H (by simp)
    ·rw [if_neg c30] at H
     have c30b0 : decide (t1118 < (a1.size : Int)) = false := decide_eq_false c30
     clear c30
     simp only [Option.some.injEq, Prod.mk.injEq] at H
     obtain ⟨rfl, rfl⟩ := H
     go_enter Try.func83, Try.ntmps83
     go_wp2_with (first | ((with_reducible refine gate_callee (f := 71) rfl ?_); refine gl__ (some 10) Try.func71 #[.pointer (some ⟨g, 0, none⟩), .int .i64 (wrap64 ((a1.size : Int) + 1))] ?_; (with_reducible refine (spec_l1Rd_pick.calls k g s0_0 s0_1 (wrap64 ((a1.size : Int) + 1)) t1118 t1119 w0 _ hhi0__iss104 b0_l__ A3.out).mono ?_); rintro e w40 ⟨rfl, hi, hb, hk⟩; refine ⟨_, rfl, ?_⟩; replace HK := am__ (KeepBut.trans (kee__) hk (.inl rfl)); replace HB := am__ (hb); replace HI0 := am__ (hi); clear hi hb hk) | ((with_reducible refine gate_callee (f := 71) rfl ?_); refine gl__ (some 12) Try.func71 #[.pointer (some ⟨g, 0, none⟩), .int .i64 4] ?_; (with_reducible refine (spec_l1Rd_pick.calls k g s0_0 t1119 4 t1120 t1121 w0 _ hhi0__iss104 b0_l__ A4.out).mono ?_); rintro e w41 ⟨rfl, hi, hb, hk⟩; refine ⟨_, rfl, ?_⟩; replace HK := am__ (KeepBut.trans (kee__) hk (.inl rfl)); replace HB := am__ (hb); replace HI0 := am__ (hi); clear hi hb hk))
     go_ret
     exact ⟨by first | rfl | (simp [errW_none, errW_some] <;> rfl) | (simp [*, errW_none, errW_some] <;> rfl), hhi0__iss104, by repeat (first | (with_reducible first | exact HB.out | apply below_alloc | apply pw_below_drewN | apply below_drew1 | refine below_set ?_ (IsS104.ge HI0.out)) | exact HB.out), kee__⟩
   ·rw [if_neg c29] at H
    have c29b0 : (t1120 == 2) = false := beq_eq_false_iff_ne.mpr c29
    have c29b1 : (t1120 != 2) = true := bne_iff_ne.mpr c29
    by_cases c42 : t1118 < (a1.size : Int)
    ·rw [if_pos c42] at H
     have c42b0 : decide (t1118 < (a1.size : Int)) = true := decide_eq_true c42
     clear c42
     by_cases c43 : 0 ≤ t1118
     ·rw [if_pos c43] at H
      have c43b0 := eq_true c43
      have c43b1 : decide (0 ≤ t1118) = true := decide_eq_true c43
      clear c43
      by_cases c44 : t1118 ≤ (a1.size : Int)
      ·rw [if_pos c44] at H
       have c44b0 := eq_true c44
       have c44b1 : decide (t1118 ≤ (a1.size : Int)) = true := decide_eq_true c44
       clear c44
       replace H := Option.bind_eq_some_iff.mp H
       obtain ⟨⟨t1128, t1129⟩, A450, H⟩ := H
       replace H : ((some (([(t1128) % 256] : List Int) : List Int)).bind fun y1130 => (if (a1.extract 0 (t1118 : Int).toNat).size + (strOfNums y1130).size ≤ 9223372036854775807 then (if 0 ≤ (wrap64 (t1118 + 1)) then (if (wrap64 (t1118 + 1)) ≤ (a1.size : Int) then (if ((a1.extract 0 (t1118 : Int).toNat) ++ (strOfNums y1130)).size + (a1.extract ((wrap64 (t1118 + 1)) : Int).toNat a1.size).size ≤ 9223372036854775807 then (some (((a1.extract 0 (t1118 : Int).toNat) ++ (strOfNums y1130)) ++ (a1.extract ((wrap64 (t1118 + 1)) : Int).toNat a1.size), t1129)) else (none)) else (none)) else (none)) else (none))) = some (r1, r2) := H
       have A45 := Aside0.mk A450
       clear A450
       obtain ⟨y1130, hy1130⟩ : ∃ y_ : List Int, y_ = (([(t1128) % 256] : List Int)) := ⟨_, rfl⟩
       replace H : (if (a1.extract 0 (t1118 : Int).toNat).size + (strOfNums y1130).size ≤ 9223372036854775807 then (if 0 ≤ (wrap64 (t1118 + 1)) then (if (wrap64 (t1118 + 1)) ≤ (a1.size : Int) then (if ((a1.extract 0 (t1118 : Int).toNat) ++ (strOfNums y1130)).size + (a1.extract ((wrap64 (t1118 + 1)) : Int).toNat a1.size).size ≤ 9223372036854775807 then (some (((a1.extract 0 (t1118 : Int).toNat) ++ (strOfNums y1130)) ++ (a1.extract ((wrap64 (t1118 + 1)) : Int).toNat a1.size), t1129)) else (none)) else (none)) else (none)) else (none)) = some (r1, r2) := by first | (rw [hy1130]; with_reducible exact H) | (have H2_ := (Option.bind_some _ _).symm.trans H; rw [hy1130]; with_reducible exact H2_) | (have H2_ := (Option.bind_some _ _).symm.trans H; with_reducible exact H2_) | with_reducible exact H | (rw [hy1130]; exact H) | exact H
       have Ny1130 := Aside0.mk hy1130
       clear hy1130
       by_cases c46 : (a1.extract 0 (t1118 : Int).toNat).size + (strOfNums y1130).size ≤ 9223372036854775807
       ·rw [if_pos c46] at H
        have c46b0 := eq_true c46
        have c46b1 : decide ((a1.extract 0 (t1118 : Int).toNat).size + (strOfNums y1130).size ≤ 9223372036854775807) = true := decide_eq_true c46
        try have c46b2 : (9223372036854775807 < (a1.extract 0 (t1118 : Int).toNat).size + (strOfNums y1130).size) = False := eq_false (Nat.not_lt.2 c46)
        try have c46b4 : (9223372036854775807 < t1118.toNat + (strOfNums y1130).size) = False := eq_false (by have h_ := c46; simp only [ByteArray.size_append, ByteArray.size_extract, eq_iff_iff, iff_true] at *; omega)
        try have c46b5 : (t1118.toNat + (strOfNums y1130).size ≤ 9223372036854775807) = True := eq_true (by have h_ := c46; simp only [ByteArray.size_append, ByteArray.size_extract, eq_iff_iff, iff_true] at *; omega)
        obtain ⟨ji47, hji47⟩ : ∃ j_ : Int, (wrap64 (t1118 + 1)) = j_ := ⟨_, rfl⟩
        replace H : (if 0 ≤ (ji47) then (if (ji47) ≤ (a1.size : Int) then (if ((a1.extract 0 (t1118 : Int).toNat) ++ (strOfNums y1130)).size + (a1.extract ((ji47) : Int).toNat a1.size).size ≤ 9223372036854775807 then (some (((a1.extract 0 (t1118 : Int).toNat) ++ (strOfNums y1130)) ++ (a1.extract ((ji47) : Int).toNat a1.size), t1129)) else (none)) else (none)) else (none)) = some (r1, r2) := by first | (rw [hji47] at H; exact H) | (simp only [hji47] at H ⊢; exact H)
        (try rw [hji47] at A3)
        (try rw [hji47] at A4)
        (try rw [hji47] at A45)
        have hji47w : (IntKind.i64.wrap (t1118 + 1)) = ji47 := (i64_w _).trans hji47
        by_cases c48 : 0 ≤ (ji47)
        ·rw [if_pos c48] at H
         have c48b0 := eq_true c48
         have c48b1 : decide (0 ≤ (ji47)) = true := decide_eq_true c48
         clear c48
         by_cases c49 : (ji47) ≤ (a1.size : Int)
         ·rw [if_pos c49] at H
          have c49b0 := eq_true c49
          have c49b1 : decide ((ji47) ≤ (a1.size : Int)) = true := decide_eq_true c49
          clear c49
          by_cases c50 : ((a1.extract 0 (t1118 : Int).toNat) ++ (strOfNums y1130)).size + (a1.extract ((ji47) : Int).toNat a1.size).size ≤ 9223372036854775807
          ·rw [if_pos c50] at H
           have c50b0 := eq_true c50
           have c50b1 : decide (((a1.extract 0 (t1118 : Int).toNat) ++ (strOfNums y1130)).size + (a1.extract ((ji47) : Int).toNat a1.size).size ≤ 9223372036854775807) = true := decide_eq_true c50
           try have c50b2 : (9223372036854775807 < ((a1.extract 0 (t1118 : Int).toNat) ++ (strOfNums y1130)).size + (a1.extract ((ji47) : Int).toNat a1.size).size) = False := eq_false (Nat.not_lt.2 c50)
           try have c50b4 : (9223372036854775807 < t1118.toNat + (strOfNums y1130).size + (a1.size - ji47.toNat)) = False := eq_false (by have h_ := c50; simp only [ByteArray.size_append, ByteArray.size_extract, eq_iff_iff, iff_true] at *; omega)
           try have c50b5 : (t1118.toNat + (strOfNums y1130).size + (a1.size - ji47.toNat) ≤ 9223372036854775807) = True := eq_true (by have h_ := c50; simp only [ByteArray.size_append, ByteArray.size_extract, eq_iff_iff, iff_true] at *; omega)
           try (have c50b3 := c50b2; simp only [ByteArray.size_append] at c50b3)
           simp only [Option.some.injEq, Prod.mk.injEq] at H
           obtain ⟨rfl, rfl⟩ := H
           go_enter Try.func83, Try.ntmps83
           try go_wp2_with (first | ((with_reducible refine gate_callee (f := 71) rfl ?_); refine gl__ (some 10) Try.func71 #[.pointer (some ⟨g, 0, none⟩), .int .i64 (wrap64 ((a1.size : Int) + 1))] ?_; (with_reducible refine (spec_l1Rd_pick.calls k g s0_0 s0_1 (wrap64 ((a1.size : Int) + 1)) t1118 t1119 w0 _ hhi0__iss104 b0_l__ A3.out).mono ?_); rintro e w51 ⟨rfl, hi, hb, hk⟩; refine ⟨_, rfl, ?_⟩; replace HK := am__ (KeepBut.trans (kee__) hk (.inl rfl)); replace HB := am__ (hb); replace HI0 := am__ (hi); clear hi hb hk) | ((with_reducible refine gate_callee (f := 71) rfl ?_); refine gl__ (some 12) Try.func71 #[.pointer (some ⟨g, 0, none⟩), .int .i64 4] ?_; (with_reducible refine (spec_l1Rd_pick.calls k g s0_0 t1119 4 t1120 t1121 w0 _ hhi0__iss104 b0_l__ A4.out).mono ?_); rintro e w52 ⟨rfl, hi, hb, hk⟩; refine ⟨_, rfl, ?_⟩; replace HK := am__ (KeepBut.trans (kee__) hk (.inl rfl)); replace HB := am__ (hb); replace HI0 := am__ (hi); clear hi hb hk))
           have n0_ := am__ (IsS104.drew HI0.out)
           have n1_ := am__ (keep_drew HK.out)
           have n2_ := am__ (below_drew1 HB.out)
           clear HI0
           clear HK
           clear HB
           have HI0 := n0_
           have HK := n1_
           have HB := n2_
           clear n0_ n1_ n2_
           refine start_ (n := 15) (S := fun w' => True) (ds := []) #[false, false, false, false, false, false, false, false, false, false, false, false, false, false, false] (by kernel_rfl) rfl rfl trivial (fun hHeld => ?_); refine with_tabW spec_l1Bend.tab11 spec_l1Bend.bits11 (fun HT_ HW_ => ?_)
           generalize w52.drew = w53 at HI0 HK HB hHeld ⊢
           refine pu__ (i := 0) (N := some 51) #[true, false, false, false, false, false, false, false, false, false, false, false, false, false, false] HT_.out ?_
           refine pu__ (i := 1) (N := some 52) #[true, true, false, false, false, false, false, false, false, false, false, false, false, false, false] HT_.out ?_
           refine pu__ (i := 2) (N := some 53) #[true, true, true, false, false, false, false, false, false, false, false, false, false, false, false] HT_.out ?_
           refine pu__ (i := 3) (N := some 54) #[true, true, true, true, false, false, false, false, false, false, false, false, false, false, false] HT_.out ?_
           refine pu__ (i := 9) (N := some 60) #[true, true, true, true, false, false, false, false, false, true, false, false, false, false, false] HT_.out ?_
           refine pu__ (i := 10) (N := some 61) #[true, true, true, true, false, false, false, false, false, true, true, false, false, false, false] HT_.out ?_
           refine pu__ (i := 11) (N := some 62) #[true, true, true, true, false, false, false, false, false, true, true, true, false, false, false] HT_.out ?_
           refine pu__ (i := 12) (N := some 63) #[true, true, true, true, false, false, false, false, false, true, true, true, true, false, false] HT_.out ?_
           refine one_ (i := 4) (N := some 55) #[true, true, true, true, true, false, false, false, false, true, true, true, true, false, false] rfl rfl (one_of HT_.out (by kernel_rfl)) (by decide) (fun K hK => ?_)
           refine goes_ Try.func71 (by kernel_rfl) rfl #[.pointer (some ⟨g, 0, none⟩), .int .i64 256] (by rfl) rfl rfl (ar__) ?_
           with_reducible refine (spec_l1Rd_pick.calls k g s0_0 t1121 256 t1128 t1129 w0 _ ?side1 ?side2 A45.out).mono ?_
           (case side1 => repeat (first | (with_reducible first | exact HI0.out | apply IsS104.alloc | apply IsS104.drewN | apply IsS104.drew | apply IsS104.set_1) | exact HI0.out))
           (case side2 => repeat (first | (with_reducible first | exact HB.out | apply below_alloc | apply pw_below_drewN | apply below_drew1 | refine below_set ?_ (IsS104.ge HI0.out)) | exact HB.out))
           rintro e w54 ⟨rfl, hi, hb, hk⟩
           refine ⟨_, rfl, ?_⟩
           have n0_ := am__ (KeepBut.trans (kee__) hk (.inl rfl))
           have n1_ := am__ (hb)
           have n2_ := am__ (hi)
           clear HK
           clear HB
           clear HI0
           have HK := n0_
           have HB := n1_
           have HI0 := n2_
           clear n0_ n1_ n2_
           (try clear hb)
           (try clear hb2)
           (try clear hk)
           (try clear hi)
           refine hK.out _ _ trivial (fun hHeld => ?_)
           clear hK K
           refine na__ 55 ?_
           refine pu__ (i := 5) (N := some 56) #[true, true, true, true, true, true, false, false, false, true, true, true, true, false, false] HT_.out ?_
           refine one_ (i := 6) (N := some 57) #[true, true, true, true, true, true, true, false, false, true, true, true, true, false, false] rfl rfl (one_of HT_.out (by kernel_rfl)) (by decide) (fun K hK => ?_)
           refine Kd.R_lit_step (Kd.int .u8) _ 5 ?hg (N := 57) ?hd (xs := ([(t1128) % 256] : List Int)) (inner := [.int .u8 ((t1128) % 256)]) (ok := fun _ => True) (okp := fun _ => True) ?hr ?hp (fun _ hk => hk) trivial (Below.refl _ _) (Nat.le_refl _) (by simp) ?_; (case hd => rfl); (case hg => rfl); (case hr => first | (go_simp; done) | (go_simp; rfl)); (case hp => exact (Reps.one (show Kd.M (Kd.int .u8) _ _ _ ((t1128) % 256) [.int .u8 ((t1128) % 256)] from rfl) (Reps.none _ _)))
           intro v1131 w55 ho56 hb hg_ hnew_
           clear hg_ hnew_
           (first | rw [← Ny1130.out] at ho56 | (simp only [Int.reduceToNat] at ho56; rw [← Ny1130.out] at ho56))
           have n0_ := am__ (Kd.R_lower ho56 (keep_size (w := w) (g := g) (row := none) (kee__)))
           have n1_ := am__ (IsS104.below (hhi0__iss104) hb)
           have n2_ := am__ (KeepBut.trans (kee__) (KeepBut.of_below hb g none) (.inl rfl))
           have n3_ := am__ (below_step (b0_l__) hb)
           clear HI0
           clear HK
           clear HB
           have HO1132 := n0_
           have HI0 := n1_
           have HK := n2_
           have HB := n3_
           clear n0_ n1_ n2_ n3_
           clear hb ho56
           refine hK.out _ _ trivial (fun hHeld => ?_)
           clear hK K
           refine na__ 57 ?_
           refine one_ (i := 7) (N := some 58) #[true, true, true, true, true, true, true, true, false, true, true, true, true, false, false] rfl rfl (one_of HT_.out (by kernel_rfl)) (by decide) (fun K hK => ?_)
           have hcv57 := own_string (P := Try.prog) Try.underlying52 Try.underlying5 Try.underlying9 (Kd.own_of_R HO1132.out)
           refine value_ (w1 := ?_) (v := ?_) (by rfl) rfl ?_ ?_
           rotate_left 2
           ·go_simp
            constructor
            ·rfl
            ·rfl
           clear hcv57
           refine hK.out _ _ trivial (fun hHeld => ?_)
           clear hK K
           refine na__ 58 ?_
           refine pu__ (i := 8) (N := some 59) #[true, true, true, true, true, true, true, true, true, true, true, true, true, false, false] HT_.out ?_
           refine pu__ (i := 13) (N := some 64) #[true, true, true, true, true, true, true, true, true, true, true, true, true, true, false] HT_.out ?_
           refine pu__ (i := 14) (N := some 4) #[true, true, true, true, true, true, true, true, true, true, true, true, true, true, true] HT_.out ?_
           refine done_ (done_of HT_.out (by kernel_rfl)) ?_
           try go_wp2
           go_ret
           exact ⟨by first | rfl | (simp [errW_none, errW_some] <;> rfl) | (simp only [← hji47]; first | rfl | (simp [errW_none, errW_some] <;> rfl)) | (simp [*, errW_none, errW_some] <;> rfl), hhi0__iss104, by repeat (first | (with_reducible first | exact HB.out | apply below_alloc | apply pw_below_drewN | apply below_drew1 | refine below_set ?_ (IsS104.ge HI0.out)) | exact HB.out), kee__⟩
          ·rw [if_neg c50] at H
           exact absurd H (by simp)
         ·rw [if_neg c49] at H
          exact absurd H (by simp)
        ·rw [if_neg c48] at H
         exact absurd H (by simp)
       ·rw [if_neg c46] at H
        exact absurd H (by simp)
      ·rw [if_neg c44] at H
       exact absurd H (by simp)
     ·rw [if_neg c43] at H
      exact absurd H (by simp)
    ·rw [if_neg c42] at H
     have c42b0 : decide (t1118 < (a1.size : Int)) = false := decide_eq_false c42
     clear c42
     simp only [Option.some.injEq, Prod.mk.injEq] at H
     obtain ⟨rfl, rfl⟩ := H
     go_enter Try.func83, Try.ntmps83
     go_wp2_with (first | ((with_reducible refine gate_callee (f := 71) rfl ?_); refine gl__ (some 10) Try.func71 #[.pointer (some ⟨g, 0, none⟩), .int .i64 (wrap64 ((a1.size : Int) + 1))] ?_; (with_reducible refine (spec_l1Rd_pick.calls k g s0_0 s0_1 (wrap64 ((a1.size : Int) + 1)) t1118 t1119 w0 _ hhi0__iss104 b0_l__ A3.out).mono ?_); rintro e w58 ⟨rfl, hi, hb, hk⟩; refine ⟨_, rfl, ?_⟩; replace HK := am__ (KeepBut.trans (kee__) hk (.inl rfl)); replace HB := am__ (hb); replace HI0 := am__ (hi); clear hi hb hk) | ((with_reducible refine gate_callee (f := 71) rfl ?_); refine gl__ (some 12) Try.func71 #[.pointer (some ⟨g, 0, none⟩), .int .i64 4] ?_; (with_reducible refine (spec_l1Rd_pick.calls k g s0_0 t1119 4 t1120 t1121 w0 _ hhi0__iss104 b0_l__ A4.out).mono ?_); rintro e w59 ⟨rfl, hi, hb, hk⟩; refine ⟨_, rfl, ?_⟩; replace HK := am__ (KeepBut.trans (kee__) hk (.inl rfl)); replace HB := am__ (hb); replace HI0 := am__ (hi); clear hi hb hk))
     go_ret
     exact ⟨by first | rfl | (simp [errW_none, errW_some] <;> rfl) | (simp [*, errW_none, errW_some] <;> rfl), hhi0__iss104, by repeat (first | (with_reducible first | exact HB.out | apply below_alloc | apply pw_below_drewN | apply below_drew1 | refine below_set ?_ (IsS104.ge HI0.out)) | exact HB.out), kee__⟩
end Go.Proofs.Ytpnblgbkjbpeoaa.P

namespace Go.Proofs.Ytpnblgbkjbpeoaa.P
open Go.RowKit Go.Proofs.YtpnblgbkjbpeoaaW.PrintWords Go.Proofs.YtpnblgbkjbpeoaaW.PrintLast Go.Proofs.YtpnblgbkjbpeoaaW.PrintMore
attribute [local go_sem] max2_int min2_int max_two min_two max_three min_three max_four min_four   -- for this text's walks alone
set_option linter.unusedVariables false
set_option linter.unusedSimpArgs false
/-! ### spec_DrawReadThing: function 54 -/
def spec_DrawReadThing.f (k : Nat) (l0 : List Int) : Option (ByteArray × Int) := (spec_l1Open.f l0).bind fun bt1133 => ((spec_DrawFormThing.f k l0).bind fun bt1136 => ((spec_FormThing.f k bt1136.1 bt1136.2.1 bt1136.2.2).bind fun t1142 => ((spec_l1Rd_pick.f k bt1133.1 bt1133.2 2).bind fun bt1143 => (if bt1143.1 = 0 then ((spec_l1Bend.f k bt1133.1 bt1143.2 t1142).bind fun bt1145 => (some (bt1145.1, bt1136.2.2))) else (some (t1142, bt1136.2.2))))))
set_option maxHeartbeats 8000000 in
set_option maxRecDepth 100000 in
theorem spec_DrawReadThing.calls (k : Nat) (A0 : Option Addr) (c0 : Nat) (l0 : List Int) (r1 : ByteArray) (r2 : Int) (w : World) (hr0 : Kd.C (Kd.int .u8) w A0 l0.length l0) (hc0 : l0.length ≤ c0) (h : spec_DrawReadThing.f k l0 = some (r1, r2)) :
  Calls Try.prog 54 #[.slice A0 l0.length c0] w fun e w' => e = .returned (.tuple #[.string r1, .int .i64 r2]) ∧ Below w.heap.size w w' := by
 have hu38 := Try.underlying38
 have HR0 := Aside0.mk hr0
 have HC0 := Aside0.mk hc0
 clear hr0 hc0
 have HB := am__ (Below.refl w.heap.size w)
 have H : ((spec_l1Open.f l0).bind fun bt1133 => ((spec_DrawFormThing.f k l0).bind fun bt1136 => ((spec_FormThing.f k bt1136.1 bt1136.2.1 bt1136.2.2).bind fun t1142 => ((spec_l1Rd_pick.f k bt1133.1 bt1133.2 2).bind fun bt1143 => (if bt1143.1 = 0 then ((spec_l1Bend.f k bt1133.1 bt1143.2 t1142).bind fun bt1145 => (some (bt1145.1, bt1136.2.2))) else (some (t1142, bt1136.2.2))))))) = some (r1, r2) := h
 clear h
 replace H := Option.bind_eq_some_iff.mp H
 obtain ⟨⟨t1133, t1134⟩, A20, H⟩ := H
 replace H : ((spec_DrawFormThing.f k l0).bind fun bt1136 => ((spec_FormThing.f k bt1136.1 bt1136.2.1 bt1136.2.2).bind fun t1142 => ((spec_l1Rd_pick.f k t1133 t1134 2).bind fun bt1143 => (if bt1143.1 = 0 then ((spec_l1Bend.f k t1133 bt1143.2 t1142).bind fun bt1145 => (some (bt1145.1, bt1136.2.2))) else (some (t1142, bt1136.2.2)))))) = some (r1, r2) := H
 have A2 := Aside0.mk A20
 clear A20
 replace H := Option.bind_eq_some_iff.mp H
 obtain ⟨⟨t1136, t1137, t1140⟩, A30, H⟩ := H
 replace H : ((spec_FormThing.f k t1136 t1137 t1140).bind fun t1142 => ((spec_l1Rd_pick.f k t1133 t1134 2).bind fun bt1143 => (if bt1143.1 = 0 then ((spec_l1Bend.f k t1133 bt1143.2 t1142).bind fun bt1145 => (some (bt1145.1, t1140))) else (some (t1142, t1140))))) = some (r1, r2) := H
 have A3 := Aside0.mk A30
 clear A30
 replace H := Option.bind_eq_some_iff.mp H
 obtain ⟨t1142, A40, H⟩ := H
 replace H : ((spec_l1Rd_pick.f k t1133 t1134 2).bind fun bt1143 => (if bt1143.1 = 0 then ((spec_l1Bend.f k t1133 bt1143.2 t1142).bind fun bt1145 => (some (bt1145.1, t1140))) else (some (t1142, t1140)))) = some (r1, r2) := H
 have A4 := Aside0.mk A40
 clear A40
 replace H := Option.bind_eq_some_iff.mp H
 obtain ⟨⟨t1143, t1144⟩, A50, H⟩ := H
 replace H : (if t1143 = 0 then ((spec_l1Bend.f k t1133 t1144 t1142).bind fun bt1145 => (some (bt1145.1, t1140))) else (some (t1142, t1140))) = some (r1, r2) := H
 have A5 := Aside0.mk A50
 clear A50
 by_cases c6 : t1143 = 0
 ·rw [if_pos c6] at H
  have c6b0 : (t1143 == 0) = true := beq_iff_eq.mpr c6
  have c6b1 : (t1143 != 0) = false := bne_eq_false_iff_eq.mpr c6
  clear c6
  replace H := Option.bind_eq_some_iff.mp H
  obtain ⟨⟨t1145, t1146⟩, A70, H⟩ := H
  replace H : (some (t1145, t1140)) = some (r1, r2) := H
  have A7 := Aside0.mk A70
  clear A70
  simp only [Option.some.injEq, Prod.mk.injEq] at H
  obtain ⟨rfl, rfl⟩ := H
  go_enter Try.func54, Try.ntmps54
  go_wp2_with (first | ((with_reducible refine gate_callee (f := 69) rfl ?_); refine gl__ (some 9) Try.func69 #[.slice A0 l0.length c0] ?_; (with_reducible refine (spec_l1Open.calls _ _ l0 t1133 t1134 w _ bel__ HR0.out HC0.out A2.out).mono ?_); rintro e w8 ⟨g1135, rfl, hi, hb, hb2⟩; refine ⟨_, rfl, ?_⟩; replace HB := am__ (hb); have HI1135 := am__ (hi); clear hi hb hb2) | ((with_reducible refine gate_callee (f := 51) rfl ?_); refine gl__ (some 12) Try.func51 #[.slice A0 l0.length c0] ?_; (with_reducible refine (spec_DrawFormThing.calls k _ _ l0 t1136 t1137 t1140 _ ?side1 HC0.out A3.out).mono ?_); (case side1 => repeat (first | exact (Kd.C_below HR0.out HB.out) | (with_reducible refine Kd.C_alloc ?_ _) | (with_reducible refine Kd.C_drewN ?_ _) | (with_reducible refine Kd.C_drew ?_))); rintro e w9 ⟨v1138, rfl, ho0, hb⟩; refine ⟨_, rfl, ?_⟩; have HO1139 := am__ (Kd.R_lower ho0 (below_size (b1135_l__))); replace HB := am__ (below_step (b1135_l__) hb); replace HI1135 := am__ (IsS104.below (hhi1135__iss104) hb); clear hb; (try clear ho0)) | ((with_reducible refine gate_dst (N := 5) rfl ?_); refine be__ 5 #[.string (⟨#[]⟩ : ByteArray), .slice none 0 0] 38 ?_; intro gb1141 hg w10 hbox hb; replace HO1139 := am__ (Kd.R_below (rr__ HO1139.out) hb); have BK1141 := am__ (hbox); have GW1141 := am__ ((bsz__ hg b1135_l__ : w.heap.size ≤ gb1141)); have GE1141 := am__ ((bsz__ hg b1135_l__ : w.heap.size ≤ gb1141)); replace HB := am__ (below_step (b1135_l__) hb); have NB1135_1141 := am__ ((nlt__ hg (IsS104.lt (show IsS104 w _ g1135 t1133 t1134 from hhi1135__iss104)) : g1135 ≠ gb1141)); have NB1141_1135 := am__ ((ngt__ hg (IsS104.lt (show IsS104 w _ g1135 t1133 t1134 from hhi1135__iss104)) : gb1141 ≠ g1135)); replace HI1135 := am__ (IsS104.below (hhi1135__iss104) hb); clear hb hbox hg; have hnb11 := NB1141_1135.out; have hnc11 := NB1135_1141.out; obtain ⟨hcz12_0, hcz12_1, hfz12_0, hfz12_1⟩ := bk2__ BK1141.out; obtain ⟨Ao13, co13, eo13⟩ := Kd.R_slice HO1139.out; subst eo13) | ((with_reducible refine gate_callee (f := 23) rfl ?_); refine gl__ (some 17) Try.func23 #[.agg #[.string t1136, .slice Ao13 t1137.length co13], .int .i64 t1140] ?_; (with_reducible refine (spec_FormThing.calls k t1136 _ _ t1137 t1140 t1142 _ ?side1 ?side2 A4.out).mono ?_); (case side1 => refine (Kd.R_reads' (e := 9) (base := w.heap.size) (ok := fun k_ => True) (n := t1137.length) (c := co13) ?_).2.2; exact (by refine rps__ ?_; exact (Kd.R_mono (Kd.R_far (p := ⟨gb1141, 1, none⟩) (Kd.R_far (p := ⟨gb1141, 0, none⟩) (Kd.R_types HO1139.out BK1141.out (by decide)) h2__ (.string t1136)) h2__ (.slice Ao13 t1137.length co13)) h1__))); (case side2 => exact (Kd.R_reads' HO1139.out).2.1); rintro e w14 ⟨rfl, hb⟩; refine ⟨_, rfl, ?_⟩; replace HO1139 := am__ (Kd.R_below (by refine rps__ ?_; exact (Kd.R_mono (Kd.R_far (p := ⟨gb1141, 1, none⟩) (Kd.R_far (p := ⟨gb1141, 0, none⟩) (Kd.R_types HO1139.out BK1141.out (by decide)) h2__ (.string t1136)) h2__ (.slice Ao13 t1137.length co13)) h1__)) hb); replace BK1141 := am__ (blk_below (g := gb1141) (o := .cells #[.string t1136, .slice Ao13 t1137.length co13] 38 (0, 0)) (bpu__ BK1141.out) hb); replace HB := am__ (below_step (b1135_l__) hb); replace HI1135 := am__ (IsS104.below (show IsS104 w ((w10.setCell ⟨gb1141, 0, none⟩ (.string t1136)).setCell ⟨gb1141, 1, none⟩ (.slice Ao13 t1137.length co13)) g1135 t1133 t1134 from hhi1135__iss104) hb); clear hb) | ((with_reducible refine gate_callee (f := 71) rfl ?_); refine gl__ (some 19) Try.func71 #[.pointer (some ⟨g1135, 0, none⟩), .int .i64 2] ?_; (with_reducible refine (spec_l1Rd_pick.calls k g1135 t1133 t1134 2 t1143 t1144 w _ hhi1135__iss104 b1135_l__ A5.out).mono ?_); rintro e w15 ⟨rfl, hi, hb, hk⟩; refine ⟨_, rfl, ?_⟩; replace HO1139 := am__ (Kd.R_mono (Kd.R_keep (IsS104.apart (show IsS104 w _ g1135 t1133 t1134 from hhi1135__iss104) (rr__ HO1139.out) (by decide)) hk h2__) h1__); replace BK1141 := am__ (kbl__ hk BK1141.out NB1141_1135.out); replace HB := am__ (hb); replace HI1135 := am__ (hi); clear hi hb hk) | ((with_reducible refine gate_callee (f := 83) rfl ?_); refine gl__ (some 23) Try.func83 #[.pointer (some ⟨g1135, 0, none⟩), .string t1142] ?_; (with_reducible refine (spec_l1Bend.calls k g1135 t1133 t1144 t1142 t1145 t1146 w _ hhi1135__iss104 b1135_l__ A7.out).mono ?_); rintro e w16 ⟨rfl, hi, hb, hk⟩; refine ⟨_, rfl, ?_⟩; replace HO1139 := am__ (Kd.R_mono (Kd.R_keep (IsS104.apart (show IsS104 w _ g1135 t1133 t1144 from hhi1135__iss104) (rr__ HO1139.out) (by decide)) hk h2__) h1__); replace BK1141 := am__ (kbl__ hk BK1141.out NB1141_1135.out); replace HB := am__ (hb); replace HI1135 := am__ (hi); clear hi hb hk))
  go_ret2
  exact ⟨by first | rfl | (simp [errW_none, errW_some] <;> rfl) | (simp [*, errW_none, errW_some] <;> rfl), by repeat (first | (with_reducible first | exact HB.out | apply below_alloc | apply pw_below_drewN | apply below_drew1 | refine below_set ?_ (IsS104.ge HI1135.out) | refine below_set ?_ GE1141.out) | exact HB.out)⟩
 ·rw [if_neg c6] at H
  have c6b0 : (t1143 == 0) = false := beq_eq_false_iff_ne.mpr c6
  have c6b1 : (t1143 != 0) = true := bne_iff_ne.mpr c6
  simp only [Option.some.injEq, Prod.mk.injEq] at H
  obtain ⟨rfl, rfl⟩ := H
  go_enter Try.func54, Try.ntmps54
  go_wp2_with (first | ((with_reducible refine gate_callee (f := 69) rfl ?_); refine gl__ (some 9) Try.func69 #[.slice A0 l0.length c0] ?_; (with_reducible refine (spec_l1Open.calls _ _ l0 t1133 t1134 w _ bel__ HR0.out HC0.out A2.out).mono ?_); rintro e w17 ⟨g1135, rfl, hi, hb, hb2⟩; refine ⟨_, rfl, ?_⟩; replace HB := am__ (hb); have HI1135 := am__ (hi); clear hi hb hb2) | ((with_reducible refine gate_callee (f := 51) rfl ?_); refine gl__ (some 12) Try.func51 #[.slice A0 l0.length c0] ?_; (with_reducible refine (spec_DrawFormThing.calls k _ _ l0 t1136 t1137 t1140 _ ?side1 HC0.out A3.out).mono ?_); (case side1 => repeat (first | exact (Kd.C_below HR0.out HB.out) | (with_reducible refine Kd.C_alloc ?_ _) | (with_reducible refine Kd.C_drewN ?_ _) | (with_reducible refine Kd.C_drew ?_))); rintro e w18 ⟨v1138, rfl, ho0, hb⟩; refine ⟨_, rfl, ?_⟩; have HO1139 := am__ (Kd.R_lower ho0 (below_size (b1135_l__))); replace HB := am__ (below_step (b1135_l__) hb); replace HI1135 := am__ (IsS104.below (hhi1135__iss104) hb); clear hb; (try clear ho0)) | ((with_reducible refine gate_dst (N := 5) rfl ?_); refine be__ 5 #[.string (⟨#[]⟩ : ByteArray), .slice none 0 0] 38 ?_; intro gb1141 hg w19 hbox hb; replace HO1139 := am__ (Kd.R_below (rr__ HO1139.out) hb); have BK1141 := am__ (hbox); have GW1141 := am__ ((bsz__ hg b1135_l__ : w.heap.size ≤ gb1141)); have GE1141 := am__ ((bsz__ hg b1135_l__ : w.heap.size ≤ gb1141)); replace HB := am__ (below_step (b1135_l__) hb); have NB1135_1141 := am__ ((nlt__ hg (IsS104.lt (show IsS104 w _ g1135 t1133 t1134 from hhi1135__iss104)) : g1135 ≠ gb1141)); have NB1141_1135 := am__ ((ngt__ hg (IsS104.lt (show IsS104 w _ g1135 t1133 t1134 from hhi1135__iss104)) : gb1141 ≠ g1135)); replace HI1135 := am__ (IsS104.below (hhi1135__iss104) hb); clear hb hbox hg; have hnb20 := NB1141_1135.out; have hnc20 := NB1135_1141.out; obtain ⟨hcz21_0, hcz21_1, hfz21_0, hfz21_1⟩ := bk2__ BK1141.out; obtain ⟨Ao22, co22, eo22⟩ := Kd.R_slice HO1139.out; subst eo22) | ((with_reducible refine gate_callee (f := 23) rfl ?_); refine gl__ (some 17) Try.func23 #[.agg #[.string t1136, .slice Ao22 t1137.length co22], .int .i64 t1140] ?_; (with_reducible refine (spec_FormThing.calls k t1136 _ _ t1137 t1140 t1142 _ ?side1 ?side2 A4.out).mono ?_); (case side1 => refine (Kd.R_reads' (e := 9) (base := w.heap.size) (ok := fun k_ => True) (n := t1137.length) (c := co22) ?_).2.2; exact (by refine rps__ ?_; exact (Kd.R_mono (Kd.R_far (p := ⟨gb1141, 1, none⟩) (Kd.R_far (p := ⟨gb1141, 0, none⟩) (Kd.R_types HO1139.out BK1141.out (by decide)) h2__ (.string t1136)) h2__ (.slice Ao22 t1137.length co22)) h1__))); (case side2 => exact (Kd.R_reads' HO1139.out).2.1); rintro e w23 ⟨rfl, hb⟩; refine ⟨_, rfl, ?_⟩; replace HO1139 := am__ (Kd.R_below (by refine rps__ ?_; exact (Kd.R_mono (Kd.R_far (p := ⟨gb1141, 1, none⟩) (Kd.R_far (p := ⟨gb1141, 0, none⟩) (Kd.R_types HO1139.out BK1141.out (by decide)) h2__ (.string t1136)) h2__ (.slice Ao22 t1137.length co22)) h1__)) hb); replace BK1141 := am__ (blk_below (g := gb1141) (o := .cells #[.string t1136, .slice Ao22 t1137.length co22] 38 (0, 0)) (bpu__ BK1141.out) hb); replace HB := am__ (below_step (b1135_l__) hb); replace HI1135 := am__ (IsS104.below (show IsS104 w ((w19.setCell ⟨gb1141, 0, none⟩ (.string t1136)).setCell ⟨gb1141, 1, none⟩ (.slice Ao22 t1137.length co22)) g1135 t1133 t1134 from hhi1135__iss104) hb); clear hb) | ((with_reducible refine gate_callee (f := 71) rfl ?_); refine gl__ (some 19) Try.func71 #[.pointer (some ⟨g1135, 0, none⟩), .int .i64 2] ?_; (with_reducible refine (spec_l1Rd_pick.calls k g1135 t1133 t1134 2 t1143 t1144 w _ hhi1135__iss104 b1135_l__ A5.out).mono ?_); rintro e w24 ⟨rfl, hi, hb, hk⟩; refine ⟨_, rfl, ?_⟩; replace HO1139 := am__ (Kd.R_mono (Kd.R_keep (IsS104.apart (show IsS104 w _ g1135 t1133 t1134 from hhi1135__iss104) (rr__ HO1139.out) (by decide)) hk h2__) h1__); replace BK1141 := am__ (kbl__ hk BK1141.out NB1141_1135.out); replace HB := am__ (hb); replace HI1135 := am__ (hi); clear hi hb hk))
  go_ret2
  exact ⟨by first | rfl | (simp [errW_none, errW_some] <;> rfl) | (simp [*, errW_none, errW_some] <;> rfl), by repeat (first | (with_reducible first | exact HB.out | apply below_alloc | apply pw_below_drewN | apply below_drew1 | refine below_set ?_ (IsS104.ge HI1135.out) | refine below_set ?_ GE1141.out) | exact HB.out)⟩
end Go.Proofs.Ytpnblgbkjbpeoaa.P

namespace Go.Proofs.Ytpnblgbkjbpeoaa.P
open Go.RowKit Go.Proofs.YtpnblgbkjbpeoaaW.PrintWords Go.Proofs.YtpnblgbkjbpeoaaW.PrintLast Go.Proofs.YtpnblgbkjbpeoaaW.PrintMore
attribute [local go_sem] max2_int min2_int max_two min_two max_three min_three max_four min_four   -- for this text's walks alone
set_option linter.unusedVariables false
set_option linter.unusedSimpArgs false
/-! ### spec_DrawReadEntry: function 55 -/
def spec_DrawReadEntry.f (k : Nat) (l0 : List Int) : Option (ByteArray × Int) := (spec_l1Open.f l0).bind fun bt1147 => ((spec_DrawFormEntry.f k l0).bind fun bt1150 => ((spec_FormEntry.f k bt1150.1 bt1150.2.1 bt1150.2.2.1 bt1150.2.2.2.1 bt1150.2.2.2.2.1 bt1150.2.2.2.2.2.1 bt1150.2.2.2.2.2.2).bind fun t1160 => ((spec_l1Rd_pick.f k bt1147.1 bt1147.2 2).bind fun bt1161 => (if bt1161.1 = 0 then ((spec_l1Bend.f k bt1147.1 bt1161.2 t1160).bind fun bt1163 => (some (bt1163.1, bt1150.2.2.2.2.2.2))) else (some (t1160, bt1150.2.2.2.2.2.2))))))
set_option maxHeartbeats 8000000 in
set_option maxRecDepth 100000 in
theorem spec_DrawReadEntry.calls (k : Nat) (A0 : Option Addr) (c0 : Nat) (l0 : List Int) (r1 : ByteArray) (r2 : Int) (w : World) (hr0 : Kd.C (Kd.int .u8) w A0 l0.length l0) (hc0 : l0.length ≤ c0) (h : spec_DrawReadEntry.f k l0 = some (r1, r2)) :
  Calls Try.prog 55 #[.slice A0 l0.length c0] w fun e w' => e = .returned (.tuple #[.string r1, .int .i64 r2]) ∧ Below w.heap.size w w' := by
 have hu63 := Try.underlying63
 have HR0 := Aside0.mk hr0
 have HC0 := Aside0.mk hc0
 clear hr0 hc0
 have HB := am__ (Below.refl w.heap.size w)
 have H : ((spec_l1Open.f l0).bind fun bt1147 => ((spec_DrawFormEntry.f k l0).bind fun bt1150 => ((spec_FormEntry.f k bt1150.1 bt1150.2.1 bt1150.2.2.1 bt1150.2.2.2.1 bt1150.2.2.2.2.1 bt1150.2.2.2.2.2.1 bt1150.2.2.2.2.2.2).bind fun t1160 => ((spec_l1Rd_pick.f k bt1147.1 bt1147.2 2).bind fun bt1161 => (if bt1161.1 = 0 then ((spec_l1Bend.f k bt1147.1 bt1161.2 t1160).bind fun bt1163 => (some (bt1163.1, bt1150.2.2.2.2.2.2))) else (some (t1160, bt1150.2.2.2.2.2.2))))))) = some (r1, r2) := h
 clear h
 replace H := Option.bind_eq_some_iff.mp H
 obtain ⟨⟨t1147, t1148⟩, A20, H⟩ := H
 replace H : ((spec_DrawFormEntry.f k l0).bind fun bt1150 => ((spec_FormEntry.f k bt1150.1 bt1150.2.1 bt1150.2.2.1 bt1150.2.2.2.1 bt1150.2.2.2.2.1 bt1150.2.2.2.2.2.1 bt1150.2.2.2.2.2.2).bind fun t1160 => ((spec_l1Rd_pick.f k t1147 t1148 2).bind fun bt1161 => (if bt1161.1 = 0 then ((spec_l1Bend.f k t1147 bt1161.2 t1160).bind fun bt1163 => (some (bt1163.1, bt1150.2.2.2.2.2.2))) else (some (t1160, bt1150.2.2.2.2.2.2)))))) = some (r1, r2) := H
 have A2 := Aside0.mk A20
 clear A20
 replace H := Option.bind_eq_some_iff.mp H
 obtain ⟨⟨t1150, t1151, t1152, t1153, t1154, t1155, t1158⟩, A30, H⟩ := H
 replace H : ((spec_FormEntry.f k t1150 t1151 t1152 t1153 t1154 t1155 t1158).bind fun t1160 => ((spec_l1Rd_pick.f k t1147 t1148 2).bind fun bt1161 => (if bt1161.1 = 0 then ((spec_l1Bend.f k t1147 bt1161.2 t1160).bind fun bt1163 => (some (bt1163.1, t1158))) else (some (t1160, t1158))))) = some (r1, r2) := H
 have A3 := Aside0.mk A30
 clear A30
 replace H := Option.bind_eq_some_iff.mp H
 obtain ⟨t1160, A40, H⟩ := H
 replace H : ((spec_l1Rd_pick.f k t1147 t1148 2).bind fun bt1161 => (if bt1161.1 = 0 then ((spec_l1Bend.f k t1147 bt1161.2 t1160).bind fun bt1163 => (some (bt1163.1, t1158))) else (some (t1160, t1158)))) = some (r1, r2) := H
 have A4 := Aside0.mk A40
 clear A40
 replace H := Option.bind_eq_some_iff.mp H
 obtain ⟨⟨t1161, t1162⟩, A50, H⟩ := H
 replace H : (if t1161 = 0 then ((spec_l1Bend.f k t1147 t1162 t1160).bind fun bt1163 => (some (bt1163.1, t1158))) else (some (t1160, t1158))) = some (r1, r2) := H
 have A5 := Aside0.mk A50
 clear A50
 by_cases c6 : t1161 = 0
 ·rw [if_pos c6] at H
  have c6b0 : (t1161 == 0) = true := beq_iff_eq.mpr c6
  have c6b1 : (t1161 != 0) = false := bne_eq_false_iff_eq.mpr c6
  clear c6
  replace H := Option.bind_eq_some_iff.mp H
  obtain ⟨⟨t1163, t1164⟩, A70, H⟩ := H
  replace H : (some (t1163, t1158)) = some (r1, r2) := H
  have A7 := Aside0.mk A70
  clear A70
  simp only [Option.some.injEq, Prod.mk.injEq] at H
  obtain ⟨rfl, rfl⟩ := H
  go_enter Try.func55, Try.ntmps55
  go_wp2_with (first | ((with_reducible refine gate_callee (f := 69) rfl ?_); refine gl__ (some 9) Try.func69 #[.slice A0 l0.length c0] ?_; (with_reducible refine (spec_l1Open.calls _ _ l0 t1147 t1148 w _ bel__ HR0.out HC0.out A2.out).mono ?_); rintro e w8 ⟨g1149, rfl, hi, hb, hb2⟩; refine ⟨_, rfl, ?_⟩; replace HB := am__ (hb); have HI1149 := am__ (hi); clear hi hb hb2) | ((with_reducible refine gate_callee (f := 52) rfl ?_); refine gl__ (some 12) Try.func52 #[.slice A0 l0.length c0] ?_; (with_reducible refine (spec_DrawFormEntry.calls k _ _ l0 t1150 t1151 t1152 t1153 t1154 t1155 t1158 _ ?side1 HC0.out A3.out).mono ?_); (case side1 => repeat (first | exact (Kd.C_below HR0.out HB.out) | (with_reducible refine Kd.C_alloc ?_ _) | (with_reducible refine Kd.C_drewN ?_ _) | (with_reducible refine Kd.C_drew ?_))); rintro e w9 ⟨v1156, rfl, ho0, hb⟩; refine ⟨_, rfl, ?_⟩; have HO1157 := am__ (Kd.R_lower ho0 (below_size (b1149_l__))); replace HB := am__ (below_step (b1149_l__) hb); replace HI1149 := am__ (IsS104.below (hhi1149__iss104) hb); clear hb; (try clear ho0)) | ((with_reducible refine gate_dst (N := 5) rfl ?_); refine be__ 5 #[.int .i64 0, .string (⟨#[]⟩ : ByteArray), .string (⟨#[]⟩ : ByteArray), .int .i64 0, .string (⟨#[]⟩ : ByteArray), .slice none 0 0] 63 ?_; intro gb1159 hg w10 hbox hb; replace HO1157 := am__ (Kd.R_below (rr__ HO1157.out) hb); have BK1159 := am__ (hbox); have GW1159 := am__ ((bsz__ hg b1149_l__ : w.heap.size ≤ gb1159)); have GE1159 := am__ ((bsz__ hg b1149_l__ : w.heap.size ≤ gb1159)); replace HB := am__ (below_step (b1149_l__) hb); have NB1149_1159 := am__ ((nlt__ hg (IsS104.lt (show IsS104 w _ g1149 t1147 t1148 from hhi1149__iss104)) : g1149 ≠ gb1159)); have NB1159_1149 := am__ ((ngt__ hg (IsS104.lt (show IsS104 w _ g1149 t1147 t1148 from hhi1149__iss104)) : gb1159 ≠ g1149)); replace HI1149 := am__ (IsS104.below (hhi1149__iss104) hb); clear hb hbox hg; have hnb11 := NB1159_1149.out; have hnc11 := NB1149_1159.out; obtain ⟨hcz12_0, hcz12_1, hcz12_2, hcz12_3, hcz12_4, hcz12_5, hfz12_0, hfz12_1, hfz12_2, hfz12_3, hfz12_4, hfz12_5⟩ := bk6__ BK1159.out; obtain ⟨Ao13, co13, eo13⟩ := Kd.R_slice HO1157.out; subst eo13) | ((with_reducible refine gate_callee (f := 43) rfl ?_); refine gl__ (some 17) Try.func43 #[.agg #[.int .i64 t1150, .string t1151, .string t1152, .int .i64 t1153, .string t1154, .slice Ao13 t1155.length co13], .int .i64 t1158] ?_; (with_reducible refine (spec_FormEntry.calls k t1150 t1151 t1152 t1153 t1154 _ _ t1155 t1158 t1160 _ ?side1 ?side2 A4.out).mono ?_); (case side1 => refine (Kd.R_reads' (e := 9) (base := w.heap.size) (ok := fun k_ => True) (n := t1155.length) (c := co13) ?_).2.2; exact (by refine rps__ ?_; exact (Kd.R_mono (Kd.R_far (p := ⟨gb1159, 5, none⟩) (Kd.R_far (p := ⟨gb1159, 4, none⟩) (Kd.R_far (p := ⟨gb1159, 3, none⟩) (Kd.R_far (p := ⟨gb1159, 2, none⟩) (Kd.R_far (p := ⟨gb1159, 1, none⟩) (Kd.R_far (p := ⟨gb1159, 0, none⟩) (Kd.R_types HO1157.out BK1159.out (by decide)) h2__ (.int .i64 t1150)) h2__ (.string t1151)) h2__ (.string t1152)) h2__ (.int .i64 t1153)) h2__ (.string t1154)) h2__ (.slice Ao13 t1155.length co13)) h1__))); (case side2 => exact (Kd.R_reads' HO1157.out).2.1); rintro e w14 ⟨rfl, hb⟩; refine ⟨_, rfl, ?_⟩; replace HO1157 := am__ (Kd.R_below (by refine rps__ ?_; exact (Kd.R_mono (Kd.R_far (p := ⟨gb1159, 5, none⟩) (Kd.R_far (p := ⟨gb1159, 4, none⟩) (Kd.R_far (p := ⟨gb1159, 3, none⟩) (Kd.R_far (p := ⟨gb1159, 2, none⟩) (Kd.R_far (p := ⟨gb1159, 1, none⟩) (Kd.R_far (p := ⟨gb1159, 0, none⟩) (Kd.R_types HO1157.out BK1159.out (by decide)) h2__ (.int .i64 t1150)) h2__ (.string t1151)) h2__ (.string t1152)) h2__ (.int .i64 t1153)) h2__ (.string t1154)) h2__ (.slice Ao13 t1155.length co13)) h1__)) hb); replace BK1159 := am__ (blk_below (g := gb1159) (o := .cells #[.int .i64 t1150, .string t1151, .string t1152, .int .i64 t1153, .string t1154, .slice Ao13 t1155.length co13] 63 (0, 0)) (bpu__ BK1159.out) hb); replace HB := am__ (below_step (b1149_l__) hb); replace HI1149 := am__ (IsS104.below (show IsS104 w ((((((w10.setCell ⟨gb1159, 0, none⟩ (.int .i64 t1150)).setCell ⟨gb1159, 1, none⟩ (.string t1151)).setCell ⟨gb1159, 2, none⟩ (.string t1152)).setCell ⟨gb1159, 3, none⟩ (.int .i64 t1153)).setCell ⟨gb1159, 4, none⟩ (.string t1154)).setCell ⟨gb1159, 5, none⟩ (.slice Ao13 t1155.length co13)) g1149 t1147 t1148 from hhi1149__iss104) hb); clear hb) | ((with_reducible refine gate_callee (f := 71) rfl ?_); refine gl__ (some 19) Try.func71 #[.pointer (some ⟨g1149, 0, none⟩), .int .i64 2] ?_; (with_reducible refine (spec_l1Rd_pick.calls k g1149 t1147 t1148 2 t1161 t1162 w _ hhi1149__iss104 b1149_l__ A5.out).mono ?_); rintro e w15 ⟨rfl, hi, hb, hk⟩; refine ⟨_, rfl, ?_⟩; replace HO1157 := am__ (Kd.R_mono (Kd.R_keep (IsS104.apart (show IsS104 w _ g1149 t1147 t1148 from hhi1149__iss104) (rr__ HO1157.out) (by decide)) hk h2__) h1__); replace BK1159 := am__ (kbl__ hk BK1159.out NB1159_1149.out); replace HB := am__ (hb); replace HI1149 := am__ (hi); clear hi hb hk) | ((with_reducible refine gate_callee (f := 83) rfl ?_); refine gl__ (some 23) Try.func83 #[.pointer (some ⟨g1149, 0, none⟩), .string t1160] ?_; (with_reducible refine (spec_l1Bend.calls k g1149 t1147 t1162 t1160 t1163 t1164 w _ hhi1149__iss104 b1149_l__ A7.out).mono ?_); rintro e w16 ⟨rfl, hi, hb, hk⟩; refine ⟨_, rfl, ?_⟩; replace HO1157 := am__ (Kd.R_mono (Kd.R_keep (IsS104.apart (show IsS104 w _ g1149 t1147 t1162 from hhi1149__iss104) (rr__ HO1157.out) (by decide)) hk h2__) h1__); replace BK1159 := am__ (kbl__ hk BK1159.out NB1159_1149.out); replace HB := am__ (hb); replace HI1149 := am__ (hi); clear hi hb hk))
  go_ret2
  exact ⟨by first | rfl | (simp [errW_none, errW_some] <;> rfl) | (simp [*, errW_none, errW_some] <;> rfl), by repeat (first | (with_reducible first | exact HB.out | apply below_alloc | apply pw_below_drewN | apply below_drew1 | refine below_set ?_ (IsS104.ge HI1149.out) | refine below_set ?_ GE1159.out) | exact HB.out)⟩
 ·rw [if_neg c6] at H
  have c6b0 : (t1161 == 0) = false := beq_eq_false_iff_ne.mpr c6
  have c6b1 : (t1161 != 0) = true := bne_iff_ne.mpr c6
  simp only [Option.some.injEq, Prod.mk.injEq] at H
  obtain ⟨rfl, rfl⟩ := H
  go_enter Try.func55, Try.ntmps55
  go_wp2_with (first | ((with_reducible refine gate_callee (f := 69) rfl ?_); refine gl__ (some 9) Try.func69 #[.slice A0 l0.length c0] ?_; (with_reducible refine (spec_l1Open.calls _ _ l0 t1147 t1148 w _ bel__ HR0.out HC0.out A2.out).mono ?_); rintro e w17 ⟨g1149, rfl, hi, hb, hb2⟩; refine ⟨_, rfl, ?_⟩; replace HB := am__ (hb); have HI1149 := am__ (hi); clear hi hb hb2) | ((with_reducible refine gate_callee (f := 52) rfl ?_); refine gl__ (some 12) Try.func52 #[.slice A0 l0.length c0] ?_; (with_reducible refine (spec_DrawFormEntry.calls k _ _ l0 t1150 t1151 t1152 t1153 t1154 t1155 t1158 _ ?side1 HC0.out A3.out).mono ?_); (case side1 => repeat (first | exact (Kd.C_below HR0.out HB.out) | (with_reducible refine Kd.C_alloc ?_ _) | (with_reducible refine Kd.C_drewN ?_ _) | (with_reducible refine Kd.C_drew ?_))); rintro e w18 ⟨v1156, rfl, ho0, hb⟩; refine ⟨_, rfl, ?_⟩; have HO1157 := am__ (Kd.R_lower ho0 (below_size (b1149_l__))); replace HB := am__ (below_step (b1149_l__) hb); replace HI1149 := am__ (IsS104.below (hhi1149__iss104) hb); clear hb; (try clear ho0)) | ((with_reducible refine gate_dst (N := 5) rfl ?_); refine be__ 5 #[.int .i64 0, .string (⟨#[]⟩ : ByteArray), .string (⟨#[]⟩ : ByteArray), .int .i64 0, .string (⟨#[]⟩ : ByteArray), .slice none 0 0] 63 ?_; intro gb1159 hg w19 hbox hb; replace HO1157 := am__ (Kd.R_below (rr__ HO1157.out) hb); have BK1159 := am__ (hbox); have GW1159 := am__ ((bsz__ hg b1149_l__ : w.heap.size ≤ gb1159)); have GE1159 := am__ ((bsz__ hg b1149_l__ : w.heap.size ≤ gb1159)); replace HB := am__ (below_step (b1149_l__) hb); have NB1149_1159 := am__ ((nlt__ hg (IsS104.lt (show IsS104 w _ g1149 t1147 t1148 from hhi1149__iss104)) : g1149 ≠ gb1159)); have NB1159_1149 := am__ ((ngt__ hg (IsS104.lt (show IsS104 w _ g1149 t1147 t1148 from hhi1149__iss104)) : gb1159 ≠ g1149)); replace HI1149 := am__ (IsS104.below (hhi1149__iss104) hb); clear hb hbox hg; have hnb20 := NB1159_1149.out; have hnc20 := NB1149_1159.out; obtain ⟨hcz21_0, hcz21_1, hcz21_2, hcz21_3, hcz21_4, hcz21_5, hfz21_0, hfz21_1, hfz21_2, hfz21_3, hfz21_4, hfz21_5⟩ := bk6__ BK1159.out; obtain ⟨Ao22, co22, eo22⟩ := Kd.R_slice HO1157.out; subst eo22) | ((with_reducible refine gate_callee (f := 43) rfl ?_); refine gl__ (some 17) Try.func43 #[.agg #[.int .i64 t1150, .string t1151, .string t1152, .int .i64 t1153, .string t1154, .slice Ao22 t1155.length co22], .int .i64 t1158] ?_; (with_reducible refine (spec_FormEntry.calls k t1150 t1151 t1152 t1153 t1154 _ _ t1155 t1158 t1160 _ ?side1 ?side2 A4.out).mono ?_); (case side1 => refine (Kd.R_reads' (e := 9) (base := w.heap.size) (ok := fun k_ => True) (n := t1155.length) (c := co22) ?_).2.2; exact (by refine rps__ ?_; exact (Kd.R_mono (Kd.R_far (p := ⟨gb1159, 5, none⟩) (Kd.R_far (p := ⟨gb1159, 4, none⟩) (Kd.R_far (p := ⟨gb1159, 3, none⟩) (Kd.R_far (p := ⟨gb1159, 2, none⟩) (Kd.R_far (p := ⟨gb1159, 1, none⟩) (Kd.R_far (p := ⟨gb1159, 0, none⟩) (Kd.R_types HO1157.out BK1159.out (by decide)) h2__ (.int .i64 t1150)) h2__ (.string t1151)) h2__ (.string t1152)) h2__ (.int .i64 t1153)) h2__ (.string t1154)) h2__ (.slice Ao22 t1155.length co22)) h1__))); (case side2 => exact (Kd.R_reads' HO1157.out).2.1); rintro e w23 ⟨rfl, hb⟩; refine ⟨_, rfl, ?_⟩; replace HO1157 := am__ (Kd.R_below (by refine rps__ ?_; exact (Kd.R_mono (Kd.R_far (p := ⟨gb1159, 5, none⟩) (Kd.R_far (p := ⟨gb1159, 4, none⟩) (Kd.R_far (p := ⟨gb1159, 3, none⟩) (Kd.R_far (p := ⟨gb1159, 2, none⟩) (Kd.R_far (p := ⟨gb1159, 1, none⟩) (Kd.R_far (p := ⟨gb1159, 0, none⟩) (Kd.R_types HO1157.out BK1159.out (by decide)) h2__ (.int .i64 t1150)) h2__ (.string t1151)) h2__ (.string t1152)) h2__ (.int .i64 t1153)) h2__ (.string t1154)) h2__ (.slice Ao22 t1155.length co22)) h1__)) hb); replace BK1159 := am__ (blk_below (g := gb1159) (o := .cells #[.int .i64 t1150, .string t1151, .string t1152, .int .i64 t1153, .string t1154, .slice Ao22 t1155.length co22] 63 (0, 0)) (bpu__ BK1159.out) hb); replace HB := am__ (below_step (b1149_l__) hb); replace HI1149 := am__ (IsS104.below (show IsS104 w ((((((w19.setCell ⟨gb1159, 0, none⟩ (.int .i64 t1150)).setCell ⟨gb1159, 1, none⟩ (.string t1151)).setCell ⟨gb1159, 2, none⟩ (.string t1152)).setCell ⟨gb1159, 3, none⟩ (.int .i64 t1153)).setCell ⟨gb1159, 4, none⟩ (.string t1154)).setCell ⟨gb1159, 5, none⟩ (.slice Ao22 t1155.length co22)) g1149 t1147 t1148 from hhi1149__iss104) hb); clear hb) | ((with_reducible refine gate_callee (f := 71) rfl ?_); refine gl__ (some 19) Try.func71 #[.pointer (some ⟨g1149, 0, none⟩), .int .i64 2] ?_; (with_reducible refine (spec_l1Rd_pick.calls k g1149 t1147 t1148 2 t1161 t1162 w _ hhi1149__iss104 b1149_l__ A5.out).mono ?_); rintro e w24 ⟨rfl, hi, hb, hk⟩; refine ⟨_, rfl, ?_⟩; replace HO1157 := am__ (Kd.R_mono (Kd.R_keep (IsS104.apart (show IsS104 w _ g1149 t1147 t1148 from hhi1149__iss104) (rr__ HO1157.out) (by decide)) hk h2__) h1__); replace BK1159 := am__ (kbl__ hk BK1159.out NB1159_1149.out); replace HB := am__ (hb); replace HI1149 := am__ (hi); clear hi hb hk))
  go_ret2
  exact ⟨by first | rfl | (simp [errW_none, errW_some] <;> rfl) | (simp [*, errW_none, errW_some] <;> rfl), by repeat (first | (with_reducible first | exact HB.out | apply below_alloc | apply pw_below_drewN | apply below_drew1 | refine below_set ?_ (IsS104.ge HI1149.out) | refine below_set ?_ GE1159.out) | exact HB.out)⟩
end Go.Proofs.Ytpnblgbkjbpeoaa.P

namespace Go.Proofs.Ytpnblgbkjbpeoaa.P
open Go.RowKit Go.Proofs.YtpnblgbkjbpeoaaW.PrintWords Go.Proofs.YtpnblgbkjbpeoaaW.PrintLast Go.Proofs.YtpnblgbkjbpeoaaW.PrintMore
attribute [local go_sem] max2_int min2_int max_two min_two max_three min_three max_four min_four   -- for this text's walks alone
set_option linter.unusedVariables false
set_option linter.unusedSimpArgs false
/-! ### laws_FnForms: function 14 -/
mutual
def laws_FnForms.j0 : Nat → List Int → Int → Int → ByteArray → ByteArray → Bool → ByteArray → List ByteArray → Int → ByteArray → ByteArray → Int → ByteArray → List ByteArray → Option (Bool)
 | 0, _, _, _, _, _, _, _, _, _, _, _, _, _, _ => none
 | k + 1, x0, x4, x6, x7, x8, x53, x1171000, x1171001, x1181000, x1181001, x1181002, x1181003, x1181004, x1181005 => if x53 = true then (none) else (if x7.toList = ([] : List UInt8) then (laws_FnForms.j1 k x0 x6 x8 x1181000 x1181001 x1181002 x1181003 x1181004 x1181005) else ((impl_ReadThing.f k x7 x4).bind fun bt1185 => (if bt1185.2.2 = true then ((laws_wThing.f k bt1185.1 bt1185.2.1 x1171000 x1171001).bind fun t1191 => (if t1191 = true then (laws_FnForms.j1 k x0 x6 x8 x1181000 x1181001 x1181002 x1181003 x1181004 x1181005) else (none))) else (none))))
def laws_FnForms.j1 : Nat → List Int → Int → ByteArray → Int → ByteArray → ByteArray → Int → ByteArray → List ByteArray → Option (Bool)
 | 0, _, _, _, _, _, _, _, _, _ => none
 | k + 1, x0, x6, x8, x1181000, x1181001, x1181002, x1181003, x1181004, x1181005 => if x8.toList = ([] : List UInt8) then (laws_FnForms.j2 k x0) else ((impl_ReadEntry.f k x8 x6).bind fun bt1192 => (if bt1192.2.2.2.2.2.2 = true then (if bt1192.1 = x1181000 then (if bt1192.2.1.toList = x1181001.toList then (if bt1192.2.2.1.toList = x1181002.toList then (if bt1192.2.2.2.1 = x1181003 then ((laws_wThing.f k bt1192.2.2.2.2.1 bt1192.2.2.2.2.2.1 x1181004 x1181005).bind fun t1202 => (if t1202 = true then (laws_FnForms.j2 k x0) else (none))) else (none)) else (none)) else (none)) else (none)) else (none)))
def laws_FnForms.j2 : Nat → List Int → Option (Bool)
 | 0, _ => none
 | k + 1, x0 => (spec_DrawReadThing.f k x0).bind fun bt1203 => ((impl_ReadThing.f k bt1203.1 bt1203.2).bind fun bt1205 => (if bt1205.2.2 = true then ((impl_FormThing.f k bt1205.1 bt1205.2.1 bt1203.2).bind fun t1211 => (laws_FnForms.j3 k x0 (t1211.toList != bt1203.1.toList))) else (laws_FnForms.j3 k x0 false)))
def laws_FnForms.j3 : Nat → List Int → Bool → Option (Bool)
 | 0, _, _ => none
 | k + 1, x0, x134 => if x134 = true then (none) else ((spec_DrawReadEntry.f k x0).bind fun bt1212 => ((impl_ReadEntry.f k bt1212.1 bt1212.2).bind fun bt1214 => ((spec_ReadEntry.f k bt1212.1 bt1212.2).bind fun bt1224 => (if (bt1214.2.2.2.2.2.2 == bt1224.2.2.2.2.2.2) = true then (if bt1214.2.2.2.2.2.2 = true then ((impl_FormEntry.f k bt1214.1 bt1214.2.1 bt1214.2.2.1 bt1214.2.2.2.1 bt1214.2.2.2.2.1 bt1214.2.2.2.2.2.1 bt1212.2).bind fun t1234 => (some (t1234.toList == bt1212.1.toList))) else (some true)) else (none)))))
end
def laws_FnForms.f (k : Nat) (l0 : List Int) : Option (Bool) := if (l0.length : Int) > 1048576 then (some true) else ((spec_DrawFormThing.f k l0).bind fun bt1165 => ((spec_DrawFormEntry.f k l0).bind fun bt1171 => ((impl_FormThing.f k bt1165.1 bt1165.2.1 bt1165.2.2).bind fun t1181 => ((impl_FormEntry.f k bt1171.1 bt1171.2.1 bt1171.2.2.1 bt1171.2.2.2.1 bt1171.2.2.2.2.1 bt1171.2.2.2.2.2.1 bt1171.2.2.2.2.2.2).bind fun t1182 => ((spec_FormThing.f k bt1165.1 bt1165.2.1 bt1165.2.2).bind fun t1183 => (if t1181.toList = t1183.toList then ((spec_FormEntry.f k bt1171.1 bt1171.2.1 bt1171.2.2.1 bt1171.2.2.2.1 bt1171.2.2.2.2.1 bt1171.2.2.2.2.2.1 bt1171.2.2.2.2.2.2).bind fun t1184 => (laws_FnForms.j0 k l0 bt1165.2.2 bt1171.2.2.2.2.2.2 t1181 t1182 (t1182.toList != t1184.toList) bt1165.1 bt1165.2.1 bt1171.1 bt1171.2.1 bt1171.2.2.1 bt1171.2.2.2.1 bt1171.2.2.2.2.1 bt1171.2.2.2.2.2.1)) else (laws_FnForms.j0 k l0 bt1165.2.2 bt1171.2.2.2.2.2.2 t1181 t1182 true bt1165.1 bt1165.2.1 bt1171.1 bt1171.2.1 bt1171.2.2.1 bt1171.2.2.2.1 bt1171.2.2.2.2.1 bt1171.2.2.2.2.2.1)))))))
set_option maxHeartbeats 8000000 in
set_option maxRecDepth 100000 in
theorem laws_FnForms.calls (k : Nat) (A0 : Option Addr) (c0 : Nat) (l0 : List Int) (r : Bool) (w : World) (hr0 : Kd.C (Kd.int .u8) w A0 l0.length l0) (hc0 : l0.length ≤ c0) (h : laws_FnForms.f k l0 = some r) :
  Calls Try.prog 14 #[.slice A0 l0.length c0] w fun e w' => e = .returned (.bool r) ∧ Below w.heap.size w w' := by
 have hu38 := Try.underlying38
 have hu63 := Try.underlying63
 have HR0 := Aside0.mk hr0
 have HC0 := Aside0.mk hc0
 clear hr0 hc0
 have HB := am__ (Below.refl w.heap.size w)
 have H : (if (l0.length : Int) > 1048576 then (some true) else ((spec_DrawFormThing.f k l0).bind fun bt1165 => ((spec_DrawFormEntry.f k l0).bind fun bt1171 => ((impl_FormThing.f k bt1165.1 bt1165.2.1 bt1165.2.2).bind fun t1181 => ((impl_FormEntry.f k bt1171.1 bt1171.2.1 bt1171.2.2.1 bt1171.2.2.2.1 bt1171.2.2.2.2.1 bt1171.2.2.2.2.2.1 bt1171.2.2.2.2.2.2).bind fun t1182 => ((spec_FormThing.f k bt1165.1 bt1165.2.1 bt1165.2.2).bind fun t1183 => (if t1181.toList = t1183.toList then ((spec_FormEntry.f k bt1171.1 bt1171.2.1 bt1171.2.2.1 bt1171.2.2.2.1 bt1171.2.2.2.2.1 bt1171.2.2.2.2.2.1 bt1171.2.2.2.2.2.2).bind fun t1184 => (laws_FnForms.j0 k l0 bt1165.2.2 bt1171.2.2.2.2.2.2 t1181 t1182 (t1182.toList != t1184.toList) bt1165.1 bt1165.2.1 bt1171.1 bt1171.2.1 bt1171.2.2.1 bt1171.2.2.2.1 bt1171.2.2.2.2.1 bt1171.2.2.2.2.2.1)) else (laws_FnForms.j0 k l0 bt1165.2.2 bt1171.2.2.2.2.2.2 t1181 t1182 true bt1165.1 bt1165.2.1 bt1171.1 bt1171.2.1 bt1171.2.2.1 bt1171.2.2.2.1 bt1171.2.2.2.2.1 bt1171.2.2.2.2.2.1)))))))) = some r := h
 clear h
 by_cases c2 : (l0.length : Int) > 1048576
 ·rw [if_pos c2] at H
  have c2b0 : decide (1048576 < (l0.length : Int)) = true := decide_eq_true c2
  have c2b1 : decide (1048576 < l0.length) = true := decide_eq_true (by omega)
  clear c2
  obtain rfl := Option.some.inj H
  go_enter Try.func14, Try.ntmps14
  go_wp2
  go_ret
  exact ⟨by first | rfl | (simp [errW_none, errW_some] <;> rfl) | (simp [*, errW_none, errW_some] <;> rfl), bel__⟩
 ·rw [if_neg c2] at H
  have c2b0 : decide (1048576 < (l0.length : Int)) = false := decide_eq_false c2
  have c2b1 : decide (1048576 < l0.length) = false := decide_eq_false (by omega)
  clear c2
  replace H := Option.bind_eq_some_iff.mp H
  obtain ⟨⟨t1165, t1166, t1169⟩, A30, H⟩ := H
  replace H : ((spec_DrawFormEntry.f k l0).bind fun bt1171 => ((impl_FormThing.f k t1165 t1166 t1169).bind fun t1181 => ((impl_FormEntry.f k bt1171.1 bt1171.2.1 bt1171.2.2.1 bt1171.2.2.2.1 bt1171.2.2.2.2.1 bt1171.2.2.2.2.2.1 bt1171.2.2.2.2.2.2).bind fun t1182 => ((spec_FormThing.f k t1165 t1166 t1169).bind fun t1183 => (if t1181.toList = t1183.toList then ((spec_FormEntry.f k bt1171.1 bt1171.2.1 bt1171.2.2.1 bt1171.2.2.2.1 bt1171.2.2.2.2.1 bt1171.2.2.2.2.2.1 bt1171.2.2.2.2.2.2).bind fun t1184 => (laws_FnForms.j0 k l0 t1169 bt1171.2.2.2.2.2.2 t1181 t1182 (t1182.toList != t1184.toList) t1165 t1166 bt1171.1 bt1171.2.1 bt1171.2.2.1 bt1171.2.2.2.1 bt1171.2.2.2.2.1 bt1171.2.2.2.2.2.1)) else (laws_FnForms.j0 k l0 t1169 bt1171.2.2.2.2.2.2 t1181 t1182 true t1165 t1166 bt1171.1 bt1171.2.1 bt1171.2.2.1 bt1171.2.2.2.1 bt1171.2.2.2.2.1 bt1171.2.2.2.2.2.1)))))) = some r := H
  have A3 := Aside0.mk A30
  clear A30
  replace H := Option.bind_eq_some_iff.mp H
  obtain ⟨⟨t1171, t1172, t1173, t1174, t1175, t1176, t1179⟩, A40, H⟩ := H
  replace H : ((impl_FormThing.f k t1165 t1166 t1169).bind fun t1181 => ((impl_FormEntry.f k t1171 t1172 t1173 t1174 t1175 t1176 t1179).bind fun t1182 => ((spec_FormThing.f k t1165 t1166 t1169).bind fun t1183 => (if t1181.toList = t1183.toList then ((spec_FormEntry.f k t1171 t1172 t1173 t1174 t1175 t1176 t1179).bind fun t1184 => (laws_FnForms.j0 k l0 t1169 t1179 t1181 t1182 (t1182.toList != t1184.toList) t1165 t1166 t1171 t1172 t1173 t1174 t1175 t1176)) else (laws_FnForms.j0 k l0 t1169 t1179 t1181 t1182 true t1165 t1166 t1171 t1172 t1173 t1174 t1175 t1176))))) = some r := H
  have A4 := Aside0.mk A40
  clear A40
  replace H := Option.bind_eq_some_iff.mp H
  obtain ⟨t1181, A50, H⟩ := H
  replace H : ((impl_FormEntry.f k t1171 t1172 t1173 t1174 t1175 t1176 t1179).bind fun t1182 => ((spec_FormThing.f k t1165 t1166 t1169).bind fun t1183 => (if t1181.toList = t1183.toList then ((spec_FormEntry.f k t1171 t1172 t1173 t1174 t1175 t1176 t1179).bind fun t1184 => (laws_FnForms.j0 k l0 t1169 t1179 t1181 t1182 (t1182.toList != t1184.toList) t1165 t1166 t1171 t1172 t1173 t1174 t1175 t1176)) else (laws_FnForms.j0 k l0 t1169 t1179 t1181 t1182 true t1165 t1166 t1171 t1172 t1173 t1174 t1175 t1176)))) = some r := H
  have A5 := Aside0.mk A50
  clear A50
  replace H := Option.bind_eq_some_iff.mp H
  obtain ⟨t1182, A60, H⟩ := H
  replace H : ((spec_FormThing.f k t1165 t1166 t1169).bind fun t1183 => (if t1181.toList = t1183.toList then ((spec_FormEntry.f k t1171 t1172 t1173 t1174 t1175 t1176 t1179).bind fun t1184 => (laws_FnForms.j0 k l0 t1169 t1179 t1181 t1182 (t1182.toList != t1184.toList) t1165 t1166 t1171 t1172 t1173 t1174 t1175 t1176)) else (laws_FnForms.j0 k l0 t1169 t1179 t1181 t1182 true t1165 t1166 t1171 t1172 t1173 t1174 t1175 t1176))) = some r := H
  have A6 := Aside0.mk A60
  clear A60
  have HC7 := Aside0.mk H
  clear H
  go_enter Try.func14, Try.ntmps14
  go_upto_region 7 with (first | ((with_reducible refine gate_callee (f := 51) rfl ?_); refine gl__ (some 28) Try.func51 #[.slice A0 l0.length c0] ?_; (with_reducible refine (spec_DrawFormThing.calls k _ _ l0 t1165 t1166 t1169 _ ?side1 HC0.out A3.out).mono ?_); (case side1 => repeat (first | exact HR0.out | (with_reducible refine Kd.C_alloc ?_ _) | (with_reducible refine Kd.C_drewN ?_ _) | (with_reducible refine Kd.C_drew ?_))); rintro e w8 ⟨v1167, rfl, ho0, hb⟩; refine ⟨_, rfl, ?_⟩; have HO1168 := am__ (Kd.R_lower ho0 (below_size (bel__))); replace HB := am__ (below_step (bel__) hb); clear hb; (try clear ho0)) | ((with_reducible refine gate_dst (N := 3) rfl ?_); refine be__ 3 #[.string (⟨#[]⟩ : ByteArray), .slice none 0 0] 38 ?_; intro gb1170 hg w9 hbox hb; replace HO1168 := am__ (Kd.R_below (rr__ HO1168.out) hb); have BK1170 := am__ (hbox); have GW1170 := am__ ((bsz__ hg bel__ : w.heap.size ≤ gb1170)); have GE1170 := am__ ((bsz__ hg bel__ : w.heap.size ≤ gb1170)); replace HB := am__ (below_step (bel__) hb); clear hb hbox hg; obtain ⟨hcz10_0, hcz10_1, hfz10_0, hfz10_1⟩ := bk2__ BK1170.out; obtain ⟨Ao11, co11, eo11⟩ := Kd.R_slice HO1168.out; subst eo11) | ((with_reducible refine gate_callee (f := 52) rfl ?_); refine gl__ (some 33) Try.func52 #[.slice A0 l0.length c0] ?_; (with_reducible refine (spec_DrawFormEntry.calls k _ _ l0 t1171 t1172 t1173 t1174 t1175 t1176 t1179 _ ?side1 HC0.out A4.out).mono ?_); (case side1 => exact Kd.C_below HR0.out (bel__)); rintro e w12 ⟨v1177, rfl, ho0, hb⟩; refine ⟨_, rfl, ?_⟩; have HO1178 := am__ (Kd.R_lower (Kd.R_new' ho0 (Kd.R_lt (by refine rps__ ?_; exact (Kd.R_mono (Kd.R_far (p := ⟨gb1170, 1, none⟩) (Kd.R_far (p := ⟨gb1170, 0, none⟩) (Kd.R_types HO1168.out BK1170.out (by decide)) h2__ (.string t1165)) h2__ (.slice Ao11 t1166.length co11)) h1__)))) (below_size (bel__))); replace HO1168 := am__ (Kd.R_elder' (by refine rps__ ?_; exact (Kd.R_mono (Kd.R_far (p := ⟨gb1170, 1, none⟩) (Kd.R_far (p := ⟨gb1170, 0, none⟩) (Kd.R_types HO1168.out BK1170.out (by decide)) h2__ (.string t1165)) h2__ (.slice Ao11 t1166.length co11)) h1__)) (Kd.R_base ho0) hb); replace BK1170 := am__ (blk_below (g := gb1170) (o := .cells #[.string t1165, .slice Ao11 t1166.length co11] 38 (0, 0)) (bpu__ BK1170.out) hb); replace HB := am__ (below_step (bel__) hb); clear hb; (try clear ho0)) | ((with_reducible refine gate_dst (N := 5) rfl ?_); refine be__ 5 #[.int .i64 0, .string (⟨#[]⟩ : ByteArray), .string (⟨#[]⟩ : ByteArray), .int .i64 0, .string (⟨#[]⟩ : ByteArray), .slice none 0 0] 63 ?_; intro gb1180 hg w13 hbox hb; replace HO1168 := am__ (Kd.R_below (rr__ HO1168.out) hb); replace HO1178 := am__ (Kd.R_below (rr__ HO1178.out) hb); have BK1180 := am__ (hbox); have GW1180 := am__ ((bsz__ hg bel__ : w.heap.size ≤ gb1180)); have GE1180 := am__ ((bsz__ hg bel__ : w.heap.size ≤ gb1180)); replace HB := am__ (below_step (bel__) hb); have NB1170_1180 := am__ ((nl__ hg BK1170.out : gb1170 ≠ gb1180)); have NB1180_1170 := am__ ((ng__ hg BK1170.out : gb1180 ≠ gb1170)); replace BK1170 := am__ (blb__ BK1170.out hb); clear hb hbox hg; have hnb14 := NB1180_1170.out; have hnc14 := NB1170_1180.out; obtain ⟨hcz15_0, hcz15_1, hcz15_2, hcz15_3, hcz15_4, hcz15_5, hfz15_0, hfz15_1, hfz15_2, hfz15_3, hfz15_4, hfz15_5⟩ := bk6__ BK1180.out; obtain ⟨Ao16, co16, eo16⟩ := Kd.R_slice HO1178.out; subst eo16; obtain ⟨hcz17_0, hcz17_1, hfz17_0, hfz17_1⟩ := bk2__ BK1170.out) | ((with_reducible refine gate_callee (f := 25) rfl ?_); refine gl__ (some 38) Try.func25 #[.agg #[.string t1165, .slice Ao11 t1166.length co11], .int .i64 t1169] ?_; (with_reducible refine (impl_FormThing.calls k t1165 _ _ t1166 t1169 t1181 _ ?side1 ?side2 A5.out).mono ?_); (case side1 => refine (Kd.R_reads' (e := 9) (base := w.heap.size) (ok := fun k_ => (True ∧ some k_ ≠ (ob__ Ao16 t1176.length co16))) (n := t1166.length) (c := co11) ?_).2.2; exact (by refine rps__ ?_; exact (Kd.R_mono (Kd.R_far (p := ⟨gb1180, 5, none⟩) (Kd.R_far (p := ⟨gb1180, 4, none⟩) (Kd.R_far (p := ⟨gb1180, 3, none⟩) (Kd.R_far (p := ⟨gb1180, 2, none⟩) (Kd.R_far (p := ⟨gb1180, 1, none⟩) (Kd.R_far (p := ⟨gb1180, 0, none⟩) (Kd.R_types HO1168.out BK1180.out (by decide)) h2__ (.int .i64 t1171)) h2__ (.string t1172)) h2__ (.string t1173)) h2__ (.int .i64 t1174)) h2__ (.string t1175)) h2__ (.slice Ao16 t1176.length co16)) h1__))); (case side2 => exact (Kd.R_reads' HO1168.out).2.1); rintro e w18 ⟨rfl, hb⟩; refine ⟨_, rfl, ?_⟩; replace HO1168 := am__ (Kd.R_below (by refine rps__ ?_; exact (Kd.R_mono (Kd.R_far (p := ⟨gb1180, 5, none⟩) (Kd.R_far (p := ⟨gb1180, 4, none⟩) (Kd.R_far (p := ⟨gb1180, 3, none⟩) (Kd.R_far (p := ⟨gb1180, 2, none⟩) (Kd.R_far (p := ⟨gb1180, 1, none⟩) (Kd.R_far (p := ⟨gb1180, 0, none⟩) (Kd.R_types HO1168.out BK1180.out (by decide)) h2__ (.int .i64 t1171)) h2__ (.string t1172)) h2__ (.string t1173)) h2__ (.int .i64 t1174)) h2__ (.string t1175)) h2__ (.slice Ao16 t1176.length co16)) h1__)) hb); replace HO1178 := am__ (Kd.R_below (by refine rps__ ?_; exact (Kd.R_mono (Kd.R_far (p := ⟨gb1180, 5, none⟩) (Kd.R_far (p := ⟨gb1180, 4, none⟩) (Kd.R_far (p := ⟨gb1180, 3, none⟩) (Kd.R_far (p := ⟨gb1180, 2, none⟩) (Kd.R_far (p := ⟨gb1180, 1, none⟩) (Kd.R_far (p := ⟨gb1180, 0, none⟩) (Kd.R_types HO1178.out BK1180.out (by decide)) h2__ (.int .i64 t1171)) h2__ (.string t1172)) h2__ (.string t1173)) h2__ (.int .i64 t1174)) h2__ (.string t1175)) h2__ (.slice Ao16 t1176.length co16)) h1__)) hb); replace BK1170 := am__ (blk_below (g := gb1170) (o := .cells #[.string t1165, .slice Ao11 t1166.length co11] 38 (0, 0)) (blf6__ BK1170.out) hb); replace BK1180 := am__ (blk_below (g := gb1180) (o := .cells #[.int .i64 t1171, .string t1172, .string t1173, .int .i64 t1174, .string t1175, .slice Ao16 t1176.length co16] 63 (0, 0)) (bpu__ BK1180.out) hb); replace HB := am__ (below_step (bel__) hb); clear hb; obtain ⟨hcz19_0, hcz19_1, hcz19_2, hcz19_3, hcz19_4, hcz19_5, hfz19_0, hfz19_1, hfz19_2, hfz19_3, hfz19_4, hfz19_5⟩ := bk6__ BK1180.out) | ((with_reducible refine gate_callee (f := 45) rfl ?_); refine gl__ (some 41) Try.func45 #[.agg #[.int .i64 t1171, .string t1172, .string t1173, .int .i64 t1174, .string t1175, .slice Ao16 t1176.length co16], .int .i64 t1179] ?_; (with_reducible refine (impl_FormEntry.calls k t1171 t1172 t1173 t1174 t1175 _ _ t1176 t1179 t1182 _ ?side1 ?side2 A6.out).mono ?_); (case side1 => repeat (first | exact (Kd.R_reads' HO1178.out).2.2 | (with_reducible refine Kd.C_alloc ?_ _) | (with_reducible refine Kd.C_drewN ?_ _) | (with_reducible refine Kd.C_drew ?_))); (case side2 => exact (Kd.R_reads' HO1178.out).2.1); rintro e w20 ⟨rfl, hb⟩; refine ⟨_, rfl, ?_⟩; replace HO1168 := am__ (Kd.R_below (rr__ HO1168.out) hb); replace HO1178 := am__ (Kd.R_below (rr__ HO1178.out) hb); replace BK1170 := am__ (blb__ BK1170.out hb); replace BK1180 := am__ (blb__ BK1180.out hb); replace HB := am__ (below_step (bel__) hb); clear hb))
  (try simp only [Act.put, List.setIfInBounds_toArray, List.set_cons_zero, List.set_cons_succ])
  go_cut [53] (fun v53 wc => ∃ (kq : Nat) (x53_6 : Bool), v53 = .bool x53_6 ∧ Aside0 (laws_FnForms.j0 kq l0 t1169 t1179 t1181 t1182 x53_6 t1165 t1166 t1171 t1172 t1173 t1174 t1175 t1176 = some r) ∧ Aside0 (kq ≤ k) ∧ Aside0 (Kd.R Kd.string 9 wc w.heap.size (fun k_ => some k_ ≠ (ob__ Ao16 t1176.length co16)) (.slice Ao11 t1166.length co11) t1166) ∧ Aside0 (Kd.R Kd.string 9 wc w.heap.size (fun k_ => some k_ ≠ (ob__ Ao11 t1166.length co11)) (.slice Ao16 t1176.length co16) t1176) ∧ Aside0 (wc.heap[gb1170]? = some (.cells #[.string t1165, (.slice Ao11 t1166.length co11)] 38 (0, 0))) ∧ Aside0 (wc.heap[gb1180]? = some (.cells #[.int .i64 t1171, .string t1172, .string t1173, .int .i64 t1174, .string t1175, (.slice Ao16 t1176.length co16)] 63 (0, 0))) ∧ Aside0 (Below w.heap.size w wc))
  case first =>
   have H := HC7.out
   clear HC7
   replace H := Option.bind_eq_some_iff.mp H
   obtain ⟨t1183, A210, H⟩ := H
   replace H : (if t1181.toList = t1183.toList then ((spec_FormEntry.f k t1171 t1172 t1173 t1174 t1175 t1176 t1179).bind fun t1184 => (laws_FnForms.j0 k l0 t1169 t1179 t1181 t1182 (t1182.toList != t1184.toList) t1165 t1166 t1171 t1172 t1173 t1174 t1175 t1176)) else (laws_FnForms.j0 k l0 t1169 t1179 t1181 t1182 true t1165 t1166 t1171 t1172 t1173 t1174 t1175 t1176)) = some r := H
   have A21 := Aside0.mk A210
   clear A210
   by_cases c22 : t1181.toList = t1183.toList
   ·rw [if_pos c22] at H
    have c22b0 : (t1181.toList == t1183.toList) = true := beq_iff_eq.mpr c22
    have c22b1 : (t1181.toList != t1183.toList) = false := bne_eq_false_iff_eq.mpr c22
    clear c22
    (first | rw [c22b0] | (simp only [i64_w, i32_w]; rw [c22b0]) | skip)
    replace H := Option.bind_eq_some_iff.mp H
    obtain ⟨t1184, A230, H⟩ := H
    replace H : (laws_FnForms.j0 k l0 t1169 t1179 t1181 t1182 (t1182.toList != t1184.toList) t1165 t1166 t1171 t1172 t1173 t1174 t1175 t1176) = some r := H
    have A23 := Aside0.mk A230
    clear A230
    have H' := Aside0.mk H
    clear H
    have hnb24 := NB1170_1180.out
    have hnc24 := NB1180_1170.out
    have hcz25_0 : w20.cell? ⟨gb1170, 0, none⟩ = some (.string t1165) := (blk_cell BK1170.out 0).trans rfl
    have hcz25_1 : w20.cell? ⟨gb1170, 1, none⟩ = some (.slice Ao11 t1166.length co11) := (blk_cell BK1170.out 1).trans rfl
    have hfz25_0 := blk_frozen BK1170.out 0
    have hfz25_1 := blk_frozen BK1170.out 1
    go_wp2_with (first | ((with_reducible refine gate_callee (f := 23) rfl ?_); refine gl__ (some 45) Try.func23 #[.agg #[.string t1165, .slice Ao11 t1166.length co11], .int .i64 t1169] ?_; (with_reducible refine (spec_FormThing.calls k t1165 _ _ t1166 t1169 t1183 _ ?side1 ?side2 A21.out).mono ?_); (case side1 => repeat (first | exact (Kd.R_reads' HO1168.out).2.2 | (with_reducible refine Kd.C_alloc ?_ _) | (with_reducible refine Kd.C_drewN ?_ _) | (with_reducible refine Kd.C_drew ?_))); (case side2 => exact (Kd.R_reads' HO1168.out).2.1); rintro e w26 ⟨rfl, hb⟩; refine ⟨_, rfl, ?_⟩; replace HO1168 := am__ (Kd.R_below (rr__ HO1168.out) hb); replace HO1178 := am__ (Kd.R_below (rr__ HO1178.out) hb); replace BK1170 := am__ (blb__ BK1170.out hb); replace BK1180 := am__ (blb__ BK1180.out hb); replace HB := am__ (below_step (bel__) hb); clear hb; obtain ⟨hcz27_0, hcz27_1, hcz27_2, hcz27_3, hcz27_4, hcz27_5, hfz27_0, hfz27_1, hfz27_2, hfz27_3, hfz27_4, hfz27_5⟩ := bk6__ BK1180.out) | (go_at_call 43; (with_reducible refine (spec_FormEntry.calls k t1171 t1172 t1173 t1174 t1175 _ _ t1176 t1179 t1184 _ ?side1 ?side2 A23.out).mono ?_); (case side1 => repeat (first | exact (Kd.R_reads' HO1178.out).2.2 | (with_reducible refine Kd.C_alloc ?_ _) | (with_reducible refine Kd.C_drewN ?_ _) | (with_reducible refine Kd.C_drew ?_))); (case side2 => exact (Kd.R_reads' HO1178.out).2.1); rintro e w28 ⟨rfl, hb⟩; replace HO1168 := am__ (Kd.R_below (rr__ HO1168.out) hb); replace HO1178 := am__ (Kd.R_below (rr__ HO1178.out) hb); replace BK1170 := am__ (blb__ BK1170.out hb); replace BK1180 := am__ (blb__ BK1180.out hb); replace HB := am__ (below_step (bel__) hb); clear hb))
    go_meet
    case rel => exact ⟨_, ((t1182.toList != t1184.toList)), (rf__), H', ⟨by first | omega | exact Nat.le_refl _⟩, ⟨by refine rps__ ?_; exact Kd.R_mono HO1168.out h2__⟩, ⟨by refine rps__ ?_; exact Kd.R_mono HO1178.out h2__⟩, ⟨blk__ BK1170.out⟩, ⟨blk__ BK1180.out⟩, ⟨bel__⟩⟩
   ·rw [if_neg c22] at H
    have c22b0 : (t1181.toList == t1183.toList) = false := beq_eq_false_iff_ne.mpr c22
    have c22b1 : (t1181.toList != t1183.toList) = true := bne_iff_ne.mpr c22
    (first | rw [c22b0] | (simp only [i64_w, i32_w]; rw [c22b0]) | skip)
    have H' := Aside0.mk H
    clear H
    have hnb29 := NB1170_1180.out
    have hnc29 := NB1180_1170.out
    have hcz30_0 : w20.cell? ⟨gb1170, 0, none⟩ = some (.string t1165) := (blk_cell BK1170.out 0).trans rfl
    have hcz30_1 : w20.cell? ⟨gb1170, 1, none⟩ = some (.slice Ao11 t1166.length co11) := (blk_cell BK1170.out 1).trans rfl
    have hfz30_0 := blk_frozen BK1170.out 0
    have hfz30_1 := blk_frozen BK1170.out 1
    go_wp2_with (first | ((with_reducible refine gate_callee (f := 23) rfl ?_); refine gl__ (some 45) Try.func23 #[.agg #[.string t1165, .slice Ao11 t1166.length co11], .int .i64 t1169] ?_; (with_reducible refine (spec_FormThing.calls k t1165 _ _ t1166 t1169 t1183 _ ?side1 ?side2 A21.out).mono ?_); (case side1 => repeat (first | exact (Kd.R_reads' HO1168.out).2.2 | (with_reducible refine Kd.C_alloc ?_ _) | (with_reducible refine Kd.C_drewN ?_ _) | (with_reducible refine Kd.C_drew ?_))); (case side2 => exact (Kd.R_reads' HO1168.out).2.1); rintro e w31 ⟨rfl, hb⟩; refine ⟨_, rfl, ?_⟩; replace HO1168 := am__ (Kd.R_below (rr__ HO1168.out) hb); replace HO1178 := am__ (Kd.R_below (rr__ HO1178.out) hb); replace BK1170 := am__ (blb__ BK1170.out hb); replace BK1180 := am__ (blb__ BK1180.out hb); replace HB := am__ (below_step (bel__) hb); clear hb))
    go_meet
    case rel => exact ⟨_, (true), (rf__), H', ⟨by first | omega | exact Nat.le_refl _⟩, ⟨by refine rps__ ?_; exact Kd.R_mono HO1168.out h2__⟩, ⟨by refine rps__ ?_; exact Kd.R_mono HO1178.out h2__⟩, ⟨blk__ BK1170.out⟩, ⟨blk__ BK1180.out⟩, ⟨bel__⟩⟩
  case rest =>
   clear HC7
   try clear c1
   try clear c2
   try clear c2b0
   try clear c2b1
   try clear p2
   try clear c4
   try clear c5
   try clear c14
   try clear c22
   try clear c22b0
   try clear c22b1
   try clear c23
   try clear c24
   try clear c25
   try clear c29
   try clear hcz10_0 hcz10_1 hfz10_0 hfz10_1
   try clear hcz15_0 hcz15_1 hcz15_2 hcz15_3 hcz15_4 hcz15_5 hfz15_0 hfz15_1 hfz15_2 hfz15_3 hfz15_4 hfz15_5
   try clear hcz17_0 hcz17_1 hfz17_0 hfz17_1
   try clear hcz19_0 hcz19_1 hcz19_2 hcz19_3 hcz19_4 hcz19_5 hfz19_0 hfz19_1 hfz19_2 hfz19_3 hfz19_4 hfz19_5
   try clear hcz25_0 hcz25_1 hfz25_0 hfz25_1
   try clear hcz27_0 hcz27_1 hcz27_2 hcz27_3 hcz27_4 hcz27_5 hfz27_0 hfz27_1 hfz27_2 hfz27_3 hfz27_4 hfz27_5
   try clear hcz30_0 hcz30_1 hfz30_0 hfz30_1
   obtain ⟨kq, x53_6, rfl, HA, HJ6, HO_1171001, HO_1181005, BK1170, BK1180, HB⟩ := hcut
   cases kq with
   | zero => exact absurd HA.out (by simp [laws_FnForms.j0])
   | succ kj6 =>
    have H := HA.out
    clear HA
    simp only [laws_FnForms.j0] at H
    by_cases c32 : x53_6 = true
    ·subst c32
     have H1 : (none) = some r := by rw [if_pos rfl] at H; exact H
     clear H
     have H := H1
     clear H1
     exact absurd H (by simp)
    ·replace c32 := Bool.eq_false_iff.mpr c32
     subst c32
     have H1 : (if t1181.toList = ([] : List UInt8) then (laws_FnForms.j1 kj6 l0 t1179 t1182 t1171 t1172 t1173 t1174 t1175 t1176) else ((impl_ReadThing.f kj6 t1181 t1169).bind fun bt1185 => (if bt1185.2.2 = true then ((laws_wThing.f kj6 bt1185.1 bt1185.2.1 t1165 t1166).bind fun t1191 => (if t1191 = true then (laws_FnForms.j1 kj6 l0 t1179 t1182 t1171 t1172 t1173 t1174 t1175 t1176) else (none))) else (none)))) = some r := by rw [if_neg (show ¬ (false = true) by decide)] at H; exact H
     clear H
     have H := H1
     clear H1
     have HC33 := Aside0.mk H
     clear H
     go_upto_if 55 with (fail)
     go_cut [] (fun wc => ∃ (kq : Nat), Aside0 (laws_FnForms.j1 kq l0 t1179 t1182 t1171 t1172 t1173 t1174 t1175 t1176 = some r) ∧ Aside0 (kq ≤ kj6) ∧ Aside0 (Kd.R Kd.string 9 wc w.heap.size (fun k_ => some k_ ≠ (ob__ Ao16 t1176.length co16)) (.slice Ao11 t1166.length co11) t1166) ∧ Aside0 (Kd.R Kd.string 9 wc w.heap.size (fun k_ => some k_ ≠ (ob__ Ao11 t1166.length co11)) (.slice Ao16 t1176.length co16) t1176) ∧ Aside0 (wc.heap[gb1170]? = some (.cells #[.string t1165, (.slice Ao11 t1166.length co11)] 38 (0, 0))) ∧ Aside0 (wc.heap[gb1180]? = some (.cells #[.int .i64 t1171, .string t1172, .string t1173, .int .i64 t1174, .string t1175, (.slice Ao16 t1176.length co16)] 63 (0, 0))) ∧ Aside0 (Below w.heap.size w wc))
     case first =>
      have H := HC33.out
      clear HC33
      by_cases c34 : t1181.toList = ([] : List UInt8)
      ·rw [if_pos c34] at H
       have c34b0 : (t1181.toList == ([] : List UInt8)) = true := beq_iff_eq.mpr c34
       have c34b6 : t1181.toList.isEmpty = true := List.isEmpty_iff.2 c34
       have c34b1 : (t1181.toList != ([] : List UInt8)) = false := bne_eq_false_iff_eq.mpr c34
       clear c34
       (first | rw [c34b0] | (simp only [i64_w, i32_w]; rw [c34b0]) | rw [c34b6] | skip)
       have H' := Aside0.mk H
       clear H
       go_wp2
       go_meet
       case rel => exact ⟨_, H', ⟨by have := HJ6.out; first | omega | exact Nat.le_refl _⟩, ⟨rr__ HO_1171001.out⟩, ⟨rr__ HO_1181005.out⟩, ⟨blk__ BK1170.out⟩, ⟨blk__ BK1180.out⟩, ⟨bel__⟩⟩
      ·rw [if_neg c34] at H
       have c34b0 : (t1181.toList == ([] : List UInt8)) = false := beq_eq_false_iff_ne.mpr c34
       have c34b6 : t1181.toList.isEmpty = false := by rw [Bool.eq_false_iff]; exact fun h_ => c34 (List.isEmpty_iff.1 h_)
       have c34b1 : (t1181.toList != ([] : List UInt8)) = true := bne_iff_ne.mpr c34
       (first | rw [c34b0] | (simp only [i64_w, i32_w]; rw [c34b0]) | rw [c34b6] | skip)
       replace H := Option.bind_eq_some_iff.mp H
       obtain ⟨⟨t1185, t1186, t1189⟩, A350, H⟩ := H
       replace H : (if t1189 = true then ((laws_wThing.f kj6 t1185 t1186 t1165 t1166).bind fun t1191 => (if t1191 = true then (laws_FnForms.j1 kj6 l0 t1179 t1182 t1171 t1172 t1173 t1174 t1175 t1176) else (none))) else (none)) = some r := H
       have A35 := Aside0.mk A350
       clear A350
       by_cases c36 : t1189 = true
       ·subst c36
        have H1 : ((laws_wThing.f kj6 t1185 t1186 t1165 t1166).bind fun t1191 => (if t1191 = true then (laws_FnForms.j1 kj6 l0 t1179 t1182 t1171 t1172 t1173 t1174 t1175 t1176) else (none))) = some r := by rw [if_pos rfl] at H; exact H
        clear H
        have H := H1
        clear H1
        replace H := Option.bind_eq_some_iff.mp H
        obtain ⟨t1191, A370, H⟩ := H
        replace H : (if t1191 = true then (laws_FnForms.j1 kj6 l0 t1179 t1182 t1171 t1172 t1173 t1174 t1175 t1176) else (none)) = some r := H
        have A37 := Aside0.mk A370
        clear A370
        by_cases c38 : t1191 = true
        ·subst c38
         have H1 : (laws_FnForms.j1 kj6 l0 t1179 t1182 t1171 t1172 t1173 t1174 t1175 t1176) = some r := by rw [if_pos rfl] at H; exact H
         clear H
         have H := H1
         clear H1
         have H' := Aside0.mk H
         clear H
         go_wp2_with (first | ((with_reducible refine gate_callee (f := 28) rfl ?_); refine gl__ (some 59) Try.func28 #[.string t1181, .int .i64 t1169] ?_; (with_reducible refine (impl_ReadThing.calls kj6 t1181 t1169 t1185 t1186 true _ A35.out).mono ?_); rintro e w39 ⟨v1187, rfl, ho0, hb⟩; refine ⟨_, rfl, ?_⟩; have HO1188 := am__ (Kd.R_lower (Kd.R_new' (Kd.R_new' ho0 (Kd.R_lt (rr__ HO_1171001.out))) (Kd.R_lt (rr__ HO_1181005.out))) (below_size (bel__))); replace HO_1171001 := am__ (Kd.R_elder' (rr__ HO_1171001.out) (Kd.R_base ho0) hb); replace HO_1181005 := am__ (Kd.R_elder' (rr__ HO_1181005.out) (Kd.R_base ho0) hb); replace BK1170 := am__ (blb__ BK1170.out hb); replace BK1180 := am__ (blb__ BK1180.out hb); replace HB := am__ (below_step (bel__) hb); clear hb; (try clear ho0)) | ((with_reducible refine gate_dst (N := 9) rfl ?_); refine be__ 9 #[.string (⟨#[]⟩ : ByteArray), .slice none 0 0] 38 ?_; intro gb1190 hg w40 hbox hb; replace HO_1171001 := am__ (Kd.R_below (rr__ HO_1171001.out) hb); replace HO_1181005 := am__ (Kd.R_below (rr__ HO_1181005.out) hb); replace HO1188 := am__ (Kd.R_below (rr__ HO1188.out) hb); have BK1190 := am__ (hbox); have GW1190 := am__ ((bsz__ hg bel__ : w.heap.size ≤ gb1190)); have GE1190 := am__ ((bsz__ hg bel__ : w.heap.size ≤ gb1190)); replace HB := am__ (below_step (bel__) hb); have NB1170_1190 := am__ ((nl__ hg BK1170.out : gb1170 ≠ gb1190)); have NB1190_1170 := am__ ((ng__ hg BK1170.out : gb1190 ≠ gb1170)); replace BK1170 := am__ (blb__ BK1170.out hb); have NB1180_1190 := am__ ((nl__ hg BK1180.out : gb1180 ≠ gb1190)); have NB1190_1180 := am__ ((ng__ hg BK1180.out : gb1190 ≠ gb1180)); replace BK1180 := am__ (blb__ BK1180.out hb); clear hb hbox hg; have hnb41 := NB1190_1170.out; have hnc41 := NB1170_1190.out; have hnb42 := NB1190_1180.out; have hnc42 := NB1180_1190.out; obtain ⟨hcz43_0, hcz43_1, hfz43_0, hfz43_1⟩ := bk2__ BK1190.out; obtain ⟨Ao44, co44, eo44⟩ := Kd.R_slice HO1188.out; subst eo44; have hnb45 := NB1170_1180.out; have hnc45 := NB1180_1170.out; obtain ⟨hcz46_0, hcz46_1, hfz46_0, hfz46_1⟩ := bk2__ BK1170.out) | (go_at_call 53; (with_reducible refine (laws_wThing.calls kj6 t1185 _ _ t1186 t1165 _ _ t1166 true _ ?side1 ?side2 ?side3 ?side4 A37.out).mono ?_); (case side1 => refine (Kd.R_reads' (e := 9) (base := w.heap.size) (ok := fun k_ => ((True ∧ some k_ ≠ (ob__ Ao11 t1166.length co11)) ∧ some k_ ≠ (ob__ Ao16 t1176.length co16))) (n := t1186.length) (c := co44) ?_).2.2; exact (by refine rps__ ?_; exact (Kd.R_mono (Kd.R_far (p := ⟨gb1190, 1, none⟩) (Kd.R_far (p := ⟨gb1190, 0, none⟩) (Kd.R_types HO1188.out BK1190.out (by decide)) h2__ (.string t1185)) h2__ (.slice Ao44 t1186.length co44)) h1__))); (case side2 => exact (Kd.R_reads' HO1188.out).2.1); (case side3 => refine (Kd.R_reads' (e := 9) (base := w.heap.size) (ok := fun k_ => (some k_ ≠ (ob__ Ao16 t1176.length co16) ∧ some k_ ≠ (ob__ Ao44 t1186.length co44))) (n := t1166.length) (c := co11) ?_).2.2; exact (by refine rps__ ?_; exact (Kd.R_mono (Kd.R_far (p := ⟨gb1190, 1, none⟩) (Kd.R_far (p := ⟨gb1190, 0, none⟩) (Kd.R_types HO_1171001.out BK1190.out (by decide)) h2__ (.string t1185)) h2__ (.slice Ao44 t1186.length co44)) h1__))); (case side4 => exact (Kd.R_reads' HO_1171001.out).2.1); rintro e w47 ⟨rfl, hb⟩; replace HO_1171001 := am__ (Kd.R_below (by refine rps__ ?_; exact (Kd.R_mono (Kd.R_far (p := ⟨gb1190, 1, none⟩) (Kd.R_far (p := ⟨gb1190, 0, none⟩) (Kd.R_types HO_1171001.out BK1190.out (by decide)) h2__ (.string t1185)) h2__ (.slice Ao44 t1186.length co44)) h1__)) hb); replace HO_1181005 := am__ (Kd.R_below (by refine rps__ ?_; exact (Kd.R_mono (Kd.R_far (p := ⟨gb1190, 1, none⟩) (Kd.R_far (p := ⟨gb1190, 0, none⟩) (Kd.R_types HO_1181005.out BK1190.out (by decide)) h2__ (.string t1185)) h2__ (.slice Ao44 t1186.length co44)) h1__)) hb); replace HO1188 := am__ (Kd.R_below (by refine rps__ ?_; exact (Kd.R_mono (Kd.R_far (p := ⟨gb1190, 1, none⟩) (Kd.R_far (p := ⟨gb1190, 0, none⟩) (Kd.R_types HO1188.out BK1190.out (by decide)) h2__ (.string t1185)) h2__ (.slice Ao44 t1186.length co44)) h1__)) hb); replace BK1170 := am__ (blk_below (g := gb1170) (o := .cells #[.string t1165, .slice Ao11 t1166.length co11] 38 (0, 0)) (blf2__ BK1170.out) hb); replace BK1180 := am__ (blk_below (g := gb1180) (o := .cells #[.int .i64 t1171, .string t1172, .string t1173, .int .i64 t1174, .string t1175, .slice Ao16 t1176.length co16] 63 (0, 0)) (blf2__ BK1180.out) hb); replace BK1190 := am__ (blk_below (g := gb1190) (o := .cells #[.string t1185, .slice Ao44 t1186.length co44] 38 (0, 0)) (bpu__ BK1190.out) hb); replace HB := am__ (below_step (bel__) hb); clear hb))
         go_meet
         case rel => exact ⟨_, H', ⟨by have := HJ6.out; first | omega | exact Nat.le_refl _⟩, ⟨by refine rps__ ?_; exact Kd.R_mono HO_1171001.out (fun _ hk => hk.1)⟩, ⟨by refine rps__ ?_; exact Kd.R_mono HO_1181005.out (fun _ hk => hk.1)⟩, ⟨blk__ BK1170.out⟩, ⟨blk__ BK1180.out⟩, ⟨bel__⟩⟩
        ·replace c38 := Bool.eq_false_iff.mpr c38
         subst c38
         have H1 : (none) = some r := by rw [if_neg (show ¬ (false = true) by decide)] at H; exact H
         clear H
         have H := H1
         clear H1
         exact absurd H (by simp)
       ·replace c36 := Bool.eq_false_iff.mpr c36
        subst c36
        have H1 : (none) = some r := by rw [if_neg (show ¬ (false = true) by decide)] at H; exact H
        clear H
        have H := H1
        clear H1
        exact absurd H (by simp)
     case rest =>
      clear HC33
      try clear c1
      try clear c2
      try clear c2b0
      try clear c2b1
      try clear p2
      try clear c3
      try clear c4
      try clear c5
      try clear c14
      try clear c22
      try clear c22b0
      try clear c22b1
      try clear c23
      try clear c24
      try clear c25
      try clear c28
      try clear c29
      try clear c32
      try clear c34
      try clear c34b0
      try clear c34b1
      try clear c36
      try clear c38
      try clear c41
      try clear c42
      try clear c45
      try clear hcz10_0 hcz10_1 hfz10_0 hfz10_1
      try clear hcz15_0 hcz15_1 hcz15_2 hcz15_3 hcz15_4 hcz15_5 hfz15_0 hfz15_1 hfz15_2 hfz15_3 hfz15_4 hfz15_5
      try clear hcz17_0 hcz17_1 hfz17_0 hfz17_1
      try clear hcz19_0 hcz19_1 hcz19_2 hcz19_3 hcz19_4 hcz19_5 hfz19_0 hfz19_1 hfz19_2 hfz19_3 hfz19_4 hfz19_5
      try clear hcz25_0 hcz25_1 hfz25_0 hfz25_1
      try clear hcz27_0 hcz27_1 hcz27_2 hcz27_3 hcz27_4 hcz27_5 hfz27_0 hfz27_1 hfz27_2 hfz27_3 hfz27_4 hfz27_5
      try clear hcz30_0 hcz30_1 hfz30_0 hfz30_1
      try clear hcz43_0 hcz43_1 hfz43_0 hfz43_1
      try clear hcz46_0 hcz46_1 hfz46_0 hfz46_1
      try clear p2
      obtain ⟨kq, HA, HJ32, HO_1171001, HO_1181005, BK1170, BK1180, HB⟩ := hcut
      cases kq with
      | zero => exact absurd HA.out (by simp [laws_FnForms.j1])
      | succ kj32 =>
       have H := HA.out
       clear HA
       simp only [laws_FnForms.j1] at H
       have HC48 := Aside0.mk H
       clear H
       go_upto_if 71 with (fail)
       go_cut [] (fun wc => ∃ (kq : Nat), Aside0 (laws_FnForms.j2 kq l0 = some r) ∧ Aside0 (kq ≤ kj32) ∧ Aside0 (Kd.R Kd.string 9 wc w.heap.size (fun k_ => some k_ ≠ (ob__ Ao16 t1176.length co16)) (.slice Ao11 t1166.length co11) t1166) ∧ Aside0 (Kd.R Kd.string 9 wc w.heap.size (fun k_ => some k_ ≠ (ob__ Ao11 t1166.length co11)) (.slice Ao16 t1176.length co16) t1176) ∧ Aside0 (wc.heap[gb1170]? = some (.cells #[.string t1165, (.slice Ao11 t1166.length co11)] 38 (0, 0))) ∧ Aside0 (wc.heap[gb1180]? = some (.cells #[.int .i64 t1171, .string t1172, .string t1173, .int .i64 t1174, .string t1175, (.slice Ao16 t1176.length co16)] 63 (0, 0))) ∧ Aside0 (Below w.heap.size w wc))
       case first =>
        have H := HC48.out
        clear HC48
        by_cases c49 : t1182.toList = ([] : List UInt8)
        ·rw [if_pos c49] at H
         have c49b0 : (t1182.toList == ([] : List UInt8)) = true := beq_iff_eq.mpr c49
         have c49b6 : t1182.toList.isEmpty = true := List.isEmpty_iff.2 c49
         have c49b1 : (t1182.toList != ([] : List UInt8)) = false := bne_eq_false_iff_eq.mpr c49
         clear c49
         (first | rw [c49b0] | (simp only [i64_w, i32_w]; rw [c49b0]) | rw [c49b6] | skip)
         have H' := Aside0.mk H
         clear H
         go_wp2
         go_meet
         case rel => exact ⟨_, H', ⟨by have := HJ6.out; have := HJ32.out; first | omega | exact Nat.le_refl _⟩, ⟨rr__ HO_1171001.out⟩, ⟨rr__ HO_1181005.out⟩, ⟨blk__ BK1170.out⟩, ⟨blk__ BK1180.out⟩, ⟨bel__⟩⟩
        ·rw [if_neg c49] at H
         have c49b0 : (t1182.toList == ([] : List UInt8)) = false := beq_eq_false_iff_ne.mpr c49
         have c49b6 : t1182.toList.isEmpty = false := by rw [Bool.eq_false_iff]; exact fun h_ => c49 (List.isEmpty_iff.1 h_)
         have c49b1 : (t1182.toList != ([] : List UInt8)) = true := bne_iff_ne.mpr c49
         (first | rw [c49b0] | (simp only [i64_w, i32_w]; rw [c49b0]) | rw [c49b6] | skip)
         replace H := Option.bind_eq_some_iff.mp H
         obtain ⟨⟨t1192, t1193, t1194, t1195, t1196, t1197, t1200⟩, A500, H⟩ := H
         replace H : (if t1200 = true then (if t1192 = t1171 then (if t1193.toList = t1172.toList then (if t1194.toList = t1173.toList then (if t1195 = t1174 then ((laws_wThing.f kj32 t1196 t1197 t1175 t1176).bind fun t1202 => (if t1202 = true then (laws_FnForms.j2 kj32 l0) else (none))) else (none)) else (none)) else (none)) else (none)) else (none)) = some r := H
         have A50 := Aside0.mk A500
         clear A500
         by_cases c51 : t1200 = true
         ·subst c51
          have H1 : (if t1192 = t1171 then (if t1193.toList = t1172.toList then (if t1194.toList = t1173.toList then (if t1195 = t1174 then ((laws_wThing.f kj32 t1196 t1197 t1175 t1176).bind fun t1202 => (if t1202 = true then (laws_FnForms.j2 kj32 l0) else (none))) else (none)) else (none)) else (none)) else (none)) = some r := by rw [if_pos rfl] at H; exact H
          clear H
          have H := H1
          clear H1
          by_cases c52 : t1192 = t1171
          ·rw [if_pos c52] at H
           have c52b0 : (t1192 == t1171) = true := beq_iff_eq.mpr c52
           have c52b1 : (t1192 != t1171) = false := bne_eq_false_iff_eq.mpr c52
           clear c52
           by_cases c53 : t1193.toList = t1172.toList
           ·rw [if_pos c53] at H
            have c53b0 : (t1193.toList == t1172.toList) = true := beq_iff_eq.mpr c53
            have c53b1 : (t1193.toList != t1172.toList) = false := bne_eq_false_iff_eq.mpr c53
            clear c53
            by_cases c54 : t1194.toList = t1173.toList
            ·rw [if_pos c54] at H
             have c54b0 : (t1194.toList == t1173.toList) = true := beq_iff_eq.mpr c54
             have c54b1 : (t1194.toList != t1173.toList) = false := bne_eq_false_iff_eq.mpr c54
             clear c54
             by_cases c55 : t1195 = t1174
             ·rw [if_pos c55] at H
              have c55b0 : (t1195 == t1174) = true := beq_iff_eq.mpr c55
              have c55b1 : (t1195 != t1174) = false := bne_eq_false_iff_eq.mpr c55
              clear c55
              replace H := Option.bind_eq_some_iff.mp H
              obtain ⟨t1202, A560, H⟩ := H
              replace H : (if t1202 = true then (laws_FnForms.j2 kj32 l0) else (none)) = some r := H
              have A56 := Aside0.mk A560
              clear A560
              by_cases c57 : t1202 = true
              ·subst c57
               have H1 : (laws_FnForms.j2 kj32 l0) = some r := by rw [if_pos rfl] at H; exact H
               clear H
               have H := H1
               clear H1
               have H' := Aside0.mk H
               clear H
               go_wp2_with (first | ((with_reducible refine gate_callee (f := 48) rfl ?_); refine gl__ (some 75) Try.func48 #[.string t1182, .int .i64 t1179] ?_; (with_reducible refine (impl_ReadEntry.calls kj32 t1182 t1179 t1192 t1193 t1194 t1195 t1196 t1197 true _ A50.out).mono ?_); rintro e w58 ⟨v1198, rfl, ho0, hb⟩; refine ⟨_, rfl, ?_⟩; have HO1199 := am__ (Kd.R_lower (Kd.R_new' (Kd.R_new' ho0 (Kd.R_lt (rr__ HO_1171001.out))) (Kd.R_lt (rr__ HO_1181005.out))) (below_size (bel__))); replace HO_1171001 := am__ (Kd.R_elder' (rr__ HO_1171001.out) (Kd.R_base ho0) hb); replace HO_1181005 := am__ (Kd.R_elder' (rr__ HO_1181005.out) (Kd.R_base ho0) hb); replace BK1170 := am__ (blb__ BK1170.out hb); replace BK1180 := am__ (blb__ BK1180.out hb); replace HB := am__ (below_step (bel__) hb); clear hb; (try clear ho0)) | ((with_reducible refine gate_dst (N := 11) rfl ?_); refine be__ 11 #[.int .i64 0, .string (⟨#[]⟩ : ByteArray), .string (⟨#[]⟩ : ByteArray), .int .i64 0, .string (⟨#[]⟩ : ByteArray), .slice none 0 0] 63 ?_; intro gb1201 hg w59 hbox hb; replace HO_1171001 := am__ (Kd.R_below (rr__ HO_1171001.out) hb); replace HO_1181005 := am__ (Kd.R_below (rr__ HO_1181005.out) hb); replace HO1199 := am__ (Kd.R_below (rr__ HO1199.out) hb); have BK1201 := am__ (hbox); have GW1201 := am__ ((bsz__ hg bel__ : w.heap.size ≤ gb1201)); have GE1201 := am__ ((bsz__ hg bel__ : w.heap.size ≤ gb1201)); replace HB := am__ (below_step (bel__) hb); have NB1170_1201 := am__ ((nl__ hg BK1170.out : gb1170 ≠ gb1201)); have NB1201_1170 := am__ ((ng__ hg BK1170.out : gb1201 ≠ gb1170)); replace BK1170 := am__ (blb__ BK1170.out hb); have NB1180_1201 := am__ ((nl__ hg BK1180.out : gb1180 ≠ gb1201)); have NB1201_1180 := am__ ((ng__ hg BK1180.out : gb1201 ≠ gb1180)); replace BK1180 := am__ (blb__ BK1180.out hb); clear hb hbox hg; have hnb60 := NB1201_1170.out; have hnc60 := NB1170_1201.out; have hnb61 := NB1201_1180.out; have hnc61 := NB1180_1201.out; obtain ⟨hcz62_0, hcz62_1, hcz62_2, hcz62_3, hcz62_4, hcz62_5, hfz62_0, hfz62_1, hfz62_2, hfz62_3, hfz62_4, hfz62_5⟩ := bk6__ BK1201.out; obtain ⟨Ao63, co63, eo63⟩ := Kd.R_slice HO1199.out; subst eo63; have hnb64 := NB1180_1170.out; have hnc64 := NB1170_1180.out; obtain ⟨hcz65_0, hcz65_1, hcz65_2, hcz65_3, hcz65_4, hcz65_5, hfz65_0, hfz65_1, hfz65_2, hfz65_3, hfz65_4, hfz65_5⟩ := bk6__ BK1180.out) | (go_at_call 53; (with_reducible refine (laws_wThing.calls kj32 t1196 _ _ t1197 t1175 _ _ t1176 true _ ?side1 ?side2 ?side3 ?side4 A56.out).mono ?_); (case side1 => refine (Kd.R_reads' (e := 9) (base := w.heap.size) (ok := fun k_ => ((True ∧ some k_ ≠ (ob__ Ao11 t1166.length co11)) ∧ some k_ ≠ (ob__ Ao16 t1176.length co16))) (n := t1197.length) (c := co63) ?_).2.2; exact (by refine rps__ ?_; exact (Kd.R_mono (Kd.R_far (p := ⟨gb1201, 5, none⟩) (Kd.R_far (p := ⟨gb1201, 4, none⟩) (Kd.R_far (p := ⟨gb1201, 3, none⟩) (Kd.R_far (p := ⟨gb1201, 2, none⟩) (Kd.R_far (p := ⟨gb1201, 1, none⟩) (Kd.R_far (p := ⟨gb1201, 0, none⟩) (Kd.R_types HO1199.out BK1201.out (by decide)) h2__ (.int .i64 t1192)) h2__ (.string t1193)) h2__ (.string t1194)) h2__ (.int .i64 t1195)) h2__ (.string t1196)) h2__ (.slice Ao63 t1197.length co63)) h1__))); (case side2 => exact (Kd.R_reads' HO1199.out).2.1); (case side3 => refine (Kd.R_reads' (e := 9) (base := w.heap.size) (ok := fun k_ => (some k_ ≠ (ob__ Ao11 t1166.length co11) ∧ some k_ ≠ (ob__ Ao63 t1197.length co63))) (n := t1176.length) (c := co16) ?_).2.2; exact (by refine rps__ ?_; exact (Kd.R_mono (Kd.R_far (p := ⟨gb1201, 5, none⟩) (Kd.R_far (p := ⟨gb1201, 4, none⟩) (Kd.R_far (p := ⟨gb1201, 3, none⟩) (Kd.R_far (p := ⟨gb1201, 2, none⟩) (Kd.R_far (p := ⟨gb1201, 1, none⟩) (Kd.R_far (p := ⟨gb1201, 0, none⟩) (Kd.R_types HO_1181005.out BK1201.out (by decide)) h2__ (.int .i64 t1192)) h2__ (.string t1193)) h2__ (.string t1194)) h2__ (.int .i64 t1195)) h2__ (.string t1196)) h2__ (.slice Ao63 t1197.length co63)) h1__))); (case side4 => exact (Kd.R_reads' HO_1181005.out).2.1); rintro e w66 ⟨rfl, hb⟩; replace HO_1171001 := am__ (Kd.R_below (by refine rps__ ?_; exact (Kd.R_mono (Kd.R_far (p := ⟨gb1201, 5, none⟩) (Kd.R_far (p := ⟨gb1201, 4, none⟩) (Kd.R_far (p := ⟨gb1201, 3, none⟩) (Kd.R_far (p := ⟨gb1201, 2, none⟩) (Kd.R_far (p := ⟨gb1201, 1, none⟩) (Kd.R_far (p := ⟨gb1201, 0, none⟩) (Kd.R_types HO_1171001.out BK1201.out (by decide)) h2__ (.int .i64 t1192)) h2__ (.string t1193)) h2__ (.string t1194)) h2__ (.int .i64 t1195)) h2__ (.string t1196)) h2__ (.slice Ao63 t1197.length co63)) h1__)) hb); replace HO_1181005 := am__ (Kd.R_below (by refine rps__ ?_; exact (Kd.R_mono (Kd.R_far (p := ⟨gb1201, 5, none⟩) (Kd.R_far (p := ⟨gb1201, 4, none⟩) (Kd.R_far (p := ⟨gb1201, 3, none⟩) (Kd.R_far (p := ⟨gb1201, 2, none⟩) (Kd.R_far (p := ⟨gb1201, 1, none⟩) (Kd.R_far (p := ⟨gb1201, 0, none⟩) (Kd.R_types HO_1181005.out BK1201.out (by decide)) h2__ (.int .i64 t1192)) h2__ (.string t1193)) h2__ (.string t1194)) h2__ (.int .i64 t1195)) h2__ (.string t1196)) h2__ (.slice Ao63 t1197.length co63)) h1__)) hb); replace HO1199 := am__ (Kd.R_below (by refine rps__ ?_; exact (Kd.R_mono (Kd.R_far (p := ⟨gb1201, 5, none⟩) (Kd.R_far (p := ⟨gb1201, 4, none⟩) (Kd.R_far (p := ⟨gb1201, 3, none⟩) (Kd.R_far (p := ⟨gb1201, 2, none⟩) (Kd.R_far (p := ⟨gb1201, 1, none⟩) (Kd.R_far (p := ⟨gb1201, 0, none⟩) (Kd.R_types HO1199.out BK1201.out (by decide)) h2__ (.int .i64 t1192)) h2__ (.string t1193)) h2__ (.string t1194)) h2__ (.int .i64 t1195)) h2__ (.string t1196)) h2__ (.slice Ao63 t1197.length co63)) h1__)) hb); replace BK1170 := am__ (blk_below (g := gb1170) (o := .cells #[.string t1165, .slice Ao11 t1166.length co11] 38 (0, 0)) (blf6__ BK1170.out) hb); replace BK1180 := am__ (blk_below (g := gb1180) (o := .cells #[.int .i64 t1171, .string t1172, .string t1173, .int .i64 t1174, .string t1175, .slice Ao16 t1176.length co16] 63 (0, 0)) (blf6__ BK1180.out) hb); replace BK1201 := am__ (blk_below (g := gb1201) (o := .cells #[.int .i64 t1192, .string t1193, .string t1194, .int .i64 t1195, .string t1196, .slice Ao63 t1197.length co63] 63 (0, 0)) (bpu__ BK1201.out) hb); replace HB := am__ (below_step (bel__) hb); clear hb))
               go_meet
               case rel => exact ⟨_, H', ⟨by have := HJ6.out; have := HJ32.out; first | omega | exact Nat.le_refl _⟩, ⟨by refine rps__ ?_; exact Kd.R_mono HO_1171001.out (fun _ hk => hk.1)⟩, ⟨by refine rps__ ?_; exact Kd.R_mono HO_1181005.out (fun _ hk => hk.1)⟩, ⟨blk__ BK1170.out⟩, ⟨blk__ BK1180.out⟩, ⟨bel__⟩⟩
              ·replace c57 := Bool.eq_false_iff.mpr c57
               subst c57
               have H1 : (none) = some r := by rw [if_neg (show ¬ (false = true) by decide)] at H; exact H
               clear H
               have H := H1
               clear H1
               exact absurd H (by simp)
             ·rw [if_neg c55] at H
              exact absurd H (by simp)
            ·rw [if_neg c54] at H
             exact absurd H (by simp)
           ·rw [if_neg c53] at H
            exact absurd H (by simp)
          ·rw [if_neg c52] at H
           exact absurd H (by simp)
         ·replace c51 := Bool.eq_false_iff.mpr c51
          subst c51
          have H1 : (none) = some r := by rw [if_neg (show ¬ (false = true) by decide)] at H; exact H
          clear H
          have H := H1
          clear H1
          exact absurd H (by simp)
       case rest =>
        clear HC48
        try clear c1
        try clear c2
        try clear c2b0
        try clear c2b1
        try clear p2
        try clear c3
        try clear c4
        try clear c5
        try clear c6
        try clear c14
        try clear c22
        try clear c22b0
        try clear c22b1
        try clear c23
        try clear c24
        try clear c25
        try clear c28
        try clear c29
        try clear c32
        try clear c34
        try clear c34b0
        try clear c34b1
        try clear c36
        try clear c38
        try clear c41
        try clear c42
        try clear c45
        try clear c48
        try clear c49
        try clear c49b0
        try clear c49b1
        try clear c51
        try clear c52
        try clear c52b0
        try clear c52b1
        try clear c53
        try clear c53b0
        try clear c53b1
        try clear c54
        try clear c54b0
        try clear c54b1
        try clear c55
        try clear c55b0
        try clear c55b1
        try clear c57
        try clear c60
        try clear c61
        try clear c64
        try clear hcz10_0 hcz10_1 hfz10_0 hfz10_1
        try clear hcz15_0 hcz15_1 hcz15_2 hcz15_3 hcz15_4 hcz15_5 hfz15_0 hfz15_1 hfz15_2 hfz15_3 hfz15_4 hfz15_5
        try clear hcz17_0 hcz17_1 hfz17_0 hfz17_1
        try clear hcz19_0 hcz19_1 hcz19_2 hcz19_3 hcz19_4 hcz19_5 hfz19_0 hfz19_1 hfz19_2 hfz19_3 hfz19_4 hfz19_5
        try clear hcz25_0 hcz25_1 hfz25_0 hfz25_1
        try clear hcz27_0 hcz27_1 hcz27_2 hcz27_3 hcz27_4 hcz27_5 hfz27_0 hfz27_1 hfz27_2 hfz27_3 hfz27_4 hfz27_5
        try clear hcz30_0 hcz30_1 hfz30_0 hfz30_1
        try clear hcz43_0 hcz43_1 hfz43_0 hfz43_1
        try clear hcz46_0 hcz46_1 hfz46_0 hfz46_1
        try clear hcz62_0 hcz62_1 hcz62_2 hcz62_3 hcz62_4 hcz62_5 hfz62_0 hfz62_1 hfz62_2 hfz62_3 hfz62_4 hfz62_5
        try clear hcz65_0 hcz65_1 hcz65_2 hcz65_3 hcz65_4 hcz65_5 hfz65_0 hfz65_1 hfz65_2 hfz65_3 hfz65_4 hfz65_5
        try clear p2
        obtain ⟨kq, HA, HJ47, HO_1171001, HO_1181005, BK1170, BK1180, HB⟩ := hcut
        cases kq with
        | zero => exact absurd HA.out (by simp [laws_FnForms.j2])
        | succ kj47 =>
         have H := HA.out
         clear HA
         simp only [laws_FnForms.j2] at H
         replace H := Option.bind_eq_some_iff.mp H
         obtain ⟨⟨t1203, t1204⟩, A670, H⟩ := H
         replace H : ((impl_ReadThing.f kj47 t1203 t1204).bind fun bt1205 => (if bt1205.2.2 = true then ((impl_FormThing.f kj47 bt1205.1 bt1205.2.1 t1204).bind fun t1211 => (laws_FnForms.j3 kj47 l0 (t1211.toList != t1203.toList))) else (laws_FnForms.j3 kj47 l0 false))) = some r := H
         have A67 := Aside0.mk A670
         clear A670
         replace H := Option.bind_eq_some_iff.mp H
         obtain ⟨⟨t1205, t1206, t1209⟩, A680, H⟩ := H
         replace H : (if t1209 = true then ((impl_FormThing.f kj47 t1205 t1206 t1204).bind fun t1211 => (laws_FnForms.j3 kj47 l0 (t1211.toList != t1203.toList))) else (laws_FnForms.j3 kj47 l0 false)) = some r := H
         have A68 := Aside0.mk A680
         clear A680
         have HC69 := Aside0.mk H
         clear H
         go_upto_region 19 with (first | ((with_reducible refine gate_callee (f := 54) rfl ?_); refine gl__ (some 118) Try.func54 #[.slice A0 l0.length c0] ?_; (with_reducible refine (spec_DrawReadThing.calls kj47 _ _ l0 t1203 t1204 _ ?side1 HC0.out A67.out).mono ?_); (case side1 => repeat (first | exact (Kd.C_below HR0.out HB.out) | (with_reducible refine Kd.C_alloc ?_ _) | (with_reducible refine Kd.C_drewN ?_ _) | (with_reducible refine Kd.C_drew ?_))); rintro e w70 ⟨rfl, hb⟩; refine ⟨_, rfl, ?_⟩; replace HO_1171001 := am__ (Kd.R_below (rr__ HO_1171001.out) hb); replace HO_1181005 := am__ (Kd.R_below (rr__ HO_1181005.out) hb); replace BK1170 := am__ (blb__ BK1170.out hb); replace BK1180 := am__ (blb__ BK1180.out hb); replace HB := am__ (below_step (bel__) hb); clear hb) | ((with_reducible refine gate_callee (f := 28) rfl ?_); refine gl__ (some 124) Try.func28 #[.string t1203, .int .i64 t1204] ?_; (with_reducible refine (impl_ReadThing.calls kj47 t1203 t1204 t1205 t1206 t1209 _ A68.out).mono ?_); rintro e w71 ⟨v1207, rfl, ho0, hb⟩; refine ⟨_, rfl, ?_⟩; have HO1208 := am__ (Kd.R_lower (Kd.R_new' (Kd.R_new' ho0 (Kd.R_lt (rr__ HO_1171001.out))) (Kd.R_lt (rr__ HO_1181005.out))) (below_size (bel__))); replace HO_1171001 := am__ (Kd.R_elder' (rr__ HO_1171001.out) (Kd.R_base ho0) hb); replace HO_1181005 := am__ (Kd.R_elder' (rr__ HO_1181005.out) (Kd.R_base ho0) hb); replace BK1170 := am__ (blb__ BK1170.out hb); replace BK1180 := am__ (blb__ BK1180.out hb); replace HB := am__ (below_step (bel__) hb); clear hb; (try clear ho0)) | ((with_reducible refine gate_dst (N := 15) rfl ?_); refine be__ 15 #[.string (⟨#[]⟩ : ByteArray), .slice none 0 0] 38 ?_; intro gb1210 hg w72 hbox hb; replace HO_1171001 := am__ (Kd.R_below (rr__ HO_1171001.out) hb); replace HO_1181005 := am__ (Kd.R_below (rr__ HO_1181005.out) hb); replace HO1208 := am__ (Kd.R_below (rr__ HO1208.out) hb); have BK1210 := am__ (hbox); have GW1210 := am__ ((bsz__ hg bel__ : w.heap.size ≤ gb1210)); have GE1210 := am__ ((bsz__ hg bel__ : w.heap.size ≤ gb1210)); replace HB := am__ (below_step (bel__) hb); have NB1170_1210 := am__ ((nl__ hg BK1170.out : gb1170 ≠ gb1210)); have NB1210_1170 := am__ ((ng__ hg BK1170.out : gb1210 ≠ gb1170)); replace BK1170 := am__ (blb__ BK1170.out hb); have NB1180_1210 := am__ ((nl__ hg BK1180.out : gb1180 ≠ gb1210)); have NB1210_1180 := am__ ((ng__ hg BK1180.out : gb1210 ≠ gb1180)); replace BK1180 := am__ (blb__ BK1180.out hb); clear hb hbox hg; have hnb73 := NB1210_1170.out; have hnc73 := NB1170_1210.out; have hnb74 := NB1210_1180.out; have hnc74 := NB1180_1210.out; obtain ⟨hcz75_0, hcz75_1, hfz75_0, hfz75_1⟩ := bk2__ BK1210.out; obtain ⟨Ao76, co76, eo76⟩ := Kd.R_slice HO1208.out; subst eo76))
         (try simp only [Act.put, List.setIfInBounds_toArray, List.set_cons_zero, List.set_cons_succ])
         go_cut [134] (fun v134 wc => ∃ (kq : Nat) (x134_68 : Bool), v134 = .bool x134_68 ∧ Aside0 (laws_FnForms.j3 kq l0 x134_68 = some r) ∧ Aside0 (kq ≤ kj47) ∧ Aside0 (Kd.R Kd.string 9 wc w.heap.size (fun k_ => some k_ ≠ (ob__ Ao16 t1176.length co16) ∧ some k_ ≠ (ob__ Ao76 t1206.length co76)) (.slice Ao11 t1166.length co11) t1166) ∧ Aside0 (Kd.R Kd.string 9 wc w.heap.size (fun k_ => some k_ ≠ (ob__ Ao11 t1166.length co11) ∧ some k_ ≠ (ob__ Ao76 t1206.length co76)) (.slice Ao16 t1176.length co16) t1176) ∧ Aside0 (Kd.R Kd.string 9 wc w.heap.size (fun k_ => some k_ ≠ (ob__ Ao11 t1166.length co11) ∧ some k_ ≠ (ob__ Ao16 t1176.length co16)) (.slice Ao76 t1206.length co76) t1206) ∧ Aside0 (wc.heap[gb1170]? = some (.cells #[.string t1165, (.slice Ao11 t1166.length co11)] 38 (0, 0))) ∧ Aside0 (wc.heap[gb1180]? = some (.cells #[.int .i64 t1171, .string t1172, .string t1173, .int .i64 t1174, .string t1175, (.slice Ao16 t1176.length co16)] 63 (0, 0))) ∧ Aside0 (wc.heap[gb1210]? = some (.cells #[.string t1205, (.slice Ao76 t1206.length co76)] 38 (0, 0))) ∧ Aside0 (Below w.heap.size w wc))
         case first =>
          have H := HC69.out
          clear HC69
          by_cases c77 : t1209 = true
          ·subst c77
           have H1 : ((impl_FormThing.f kj47 t1205 t1206 t1204).bind fun t1211 => (laws_FnForms.j3 kj47 l0 (t1211.toList != t1203.toList))) = some r := by rw [if_pos rfl] at H; exact H
           clear H
           have H := H1
           clear H1
           replace H := Option.bind_eq_some_iff.mp H
           obtain ⟨t1211, A780, H⟩ := H
           replace H : (laws_FnForms.j3 kj47 l0 (t1211.toList != t1203.toList)) = some r := H
           have A78 := Aside0.mk A780
           clear A780
           have H' := Aside0.mk H
           clear H
           have hnb79 := NB1210_1170.out
           have hnc79 := NB1170_1210.out
           have hnb80 := NB1210_1180.out
           have hnc80 := NB1180_1210.out
           have hcz81_0 : w72.cell? ⟨gb1210, 0, none⟩ = some (.string (⟨#[]⟩ : ByteArray)) := (blk_cell BK1210.out 0).trans rfl
           have hcz81_1 : w72.cell? ⟨gb1210, 1, none⟩ = some (.slice none 0 0) := (blk_cell BK1210.out 1).trans rfl
           have hfz81_0 := blk_frozen BK1210.out 0
           have hfz81_1 := blk_frozen BK1210.out 1
           go_wp2_with (first | (go_at_call 25; (with_reducible refine (impl_FormThing.calls kj47 t1205 _ _ t1206 t1204 t1211 _ ?side1 ?side2 A78.out).mono ?_); (case side1 => refine (Kd.R_reads' (e := 9) (base := w.heap.size) (ok := fun k_ => ((True ∧ some k_ ≠ (ob__ Ao11 t1166.length co11)) ∧ some k_ ≠ (ob__ Ao16 t1176.length co16))) (n := t1206.length) (c := co76) ?_).2.2; exact (by refine rps__ ?_; exact (Kd.R_mono (Kd.R_far (p := ⟨gb1210, 1, none⟩) (Kd.R_far (p := ⟨gb1210, 0, none⟩) (Kd.R_types HO1208.out BK1210.out (by decide)) h2__ (.string t1205)) h2__ (.slice Ao76 t1206.length co76)) h1__))); (case side2 => exact (Kd.R_reads' HO1208.out).2.1); rintro e w82 ⟨rfl, hb⟩; replace HO_1171001 := am__ (Kd.R_below (by refine rps__ ?_; exact (Kd.R_mono (Kd.R_far (p := ⟨gb1210, 1, none⟩) (Kd.R_far (p := ⟨gb1210, 0, none⟩) (Kd.R_types HO_1171001.out BK1210.out (by decide)) h2__ (.string t1205)) h2__ (.slice Ao76 t1206.length co76)) h1__)) hb); replace HO_1181005 := am__ (Kd.R_below (by refine rps__ ?_; exact (Kd.R_mono (Kd.R_far (p := ⟨gb1210, 1, none⟩) (Kd.R_far (p := ⟨gb1210, 0, none⟩) (Kd.R_types HO_1181005.out BK1210.out (by decide)) h2__ (.string t1205)) h2__ (.slice Ao76 t1206.length co76)) h1__)) hb); replace HO1208 := am__ (Kd.R_below (by refine rps__ ?_; exact (Kd.R_mono (Kd.R_far (p := ⟨gb1210, 1, none⟩) (Kd.R_far (p := ⟨gb1210, 0, none⟩) (Kd.R_types HO1208.out BK1210.out (by decide)) h2__ (.string t1205)) h2__ (.slice Ao76 t1206.length co76)) h1__)) hb); replace BK1170 := am__ (blk_below (g := gb1170) (o := .cells #[.string t1165, .slice Ao11 t1166.length co11] 38 (0, 0)) (blf2__ BK1170.out) hb); replace BK1180 := am__ (blk_below (g := gb1180) (o := .cells #[.int .i64 t1171, .string t1172, .string t1173, .int .i64 t1174, .string t1175, .slice Ao16 t1176.length co16] 63 (0, 0)) (blf2__ BK1180.out) hb); replace BK1210 := am__ (blk_below (g := gb1210) (o := .cells #[.string t1205, .slice Ao76 t1206.length co76] 38 (0, 0)) (bpu__ BK1210.out) hb); replace HB := am__ (below_step (bel__) hb); clear hb))
           go_meet
           case rel => exact ⟨_, ((t1211.toList != t1203.toList)), (rf__), H', ⟨by have := HJ6.out; have := HJ32.out; have := HJ47.out; first | omega | exact Nat.le_refl _⟩, ⟨rr__ HO_1171001.out⟩, ⟨rr__ HO_1181005.out⟩, ⟨by refine rps__ ?_; exact Kd.R_mono HO1208.out (fun _ hk => ⟨hk.1.2, hk.2⟩)⟩, ⟨blk__ BK1170.out⟩, ⟨blk__ BK1180.out⟩, ⟨blk__ BK1210.out⟩, ⟨bel__⟩⟩
          ·replace c77 := Bool.eq_false_iff.mpr c77
           subst c77
           have H1 : (laws_FnForms.j3 kj47 l0 false) = some r := by rw [if_neg (show ¬ (false = true) by decide)] at H; exact H
           clear H
           have H := H1
           clear H1
           have H' := Aside0.mk H
           clear H
           go_wp2
           go_meet
           case rel => exact ⟨_, (false), (rf__), H', ⟨by have := HJ6.out; have := HJ32.out; have := HJ47.out; first | omega | exact Nat.le_refl _⟩, ⟨by refine rps__ ?_; exact Kd.R_mono (Kd.R_far (p := ⟨gb1210, 1, none⟩) (Kd.R_far (p := ⟨gb1210, 0, none⟩) (Kd.R_types HO_1171001.out BK1210.out (by decide)) h2__ (.string t1205)) h2__ (.slice Ao76 t1206.length co76)) (fun _ hk => ⟨hk.1.1, hk.1.2⟩)⟩, ⟨by refine rps__ ?_; exact Kd.R_mono (Kd.R_far (p := ⟨gb1210, 1, none⟩) (Kd.R_far (p := ⟨gb1210, 0, none⟩) (Kd.R_types HO_1181005.out BK1210.out (by decide)) h2__ (.string t1205)) h2__ (.slice Ao76 t1206.length co76)) (fun _ hk => ⟨hk.1.1, hk.1.2⟩)⟩, ⟨by refine rps__ ?_; exact Kd.R_mono (Kd.R_far (p := ⟨gb1210, 1, none⟩) (Kd.R_far (p := ⟨gb1210, 0, none⟩) (Kd.R_types HO1208.out BK1210.out (by decide)) h2__ (.string t1205)) h2__ (.slice Ao76 t1206.length co76)) (fun _ hk => ⟨hk.1.1.2, hk.1.2⟩)⟩, ⟨blf2__ BK1170.out⟩, ⟨blf2__ BK1180.out⟩, ⟨bpu__ BK1210.out⟩, ⟨bel__⟩⟩
         case rest =>
          clear HC69
          try clear c1
          try clear c2
          try clear c2b0
          try clear c2b1
          try clear p2
          try clear c3
          try clear c4
          try clear c5
          try clear c6
          try clear c7
          try clear c8
          try clear c14
          try clear c22
          try clear c22b0
          try clear c22b1
          try clear c23
          try clear c24
          try clear c25
          try clear c28
          try clear c29
          try clear c32
          try clear c34
          try clear c34b0
          try clear c34b1
          try clear c36
          try clear c38
          try clear c41
          try clear c42
          try clear c45
          try clear c48
          try clear c49
          try clear c49b0
          try clear c49b1
          try clear c51
          try clear c52
          try clear c52b0
          try clear c52b1
          try clear c53
          try clear c53b0
          try clear c53b1
          try clear c54
          try clear c54b0
          try clear c54b1
          try clear c55
          try clear c55b0
          try clear c55b1
          try clear c57
          try clear c60
          try clear c61
          try clear c64
          try clear c73
          try clear c74
          try clear c77
          try clear c79
          try clear c80
          try clear hcz10_0 hcz10_1 hfz10_0 hfz10_1
          try clear hcz15_0 hcz15_1 hcz15_2 hcz15_3 hcz15_4 hcz15_5 hfz15_0 hfz15_1 hfz15_2 hfz15_3 hfz15_4 hfz15_5
          try clear hcz17_0 hcz17_1 hfz17_0 hfz17_1
          try clear hcz19_0 hcz19_1 hcz19_2 hcz19_3 hcz19_4 hcz19_5 hfz19_0 hfz19_1 hfz19_2 hfz19_3 hfz19_4 hfz19_5
          try clear hcz25_0 hcz25_1 hfz25_0 hfz25_1
          try clear hcz27_0 hcz27_1 hcz27_2 hcz27_3 hcz27_4 hcz27_5 hfz27_0 hfz27_1 hfz27_2 hfz27_3 hfz27_4 hfz27_5
          try clear hcz30_0 hcz30_1 hfz30_0 hfz30_1
          try clear hcz43_0 hcz43_1 hfz43_0 hfz43_1
          try clear hcz46_0 hcz46_1 hfz46_0 hfz46_1
          try clear hcz62_0 hcz62_1 hcz62_2 hcz62_3 hcz62_4 hcz62_5 hfz62_0 hfz62_1 hfz62_2 hfz62_3 hfz62_4 hfz62_5
          try clear hcz65_0 hcz65_1 hcz65_2 hcz65_3 hcz65_4 hcz65_5 hfz65_0 hfz65_1 hfz65_2 hfz65_3 hfz65_4 hfz65_5
          try clear hcz75_0 hcz75_1 hfz75_0 hfz75_1
          try clear hcz81_0 hcz81_1 hfz81_0 hfz81_1
          try clear p2
          obtain ⟨kq, x134_68, rfl, HA, HJ68, HO_1171001, HO_1181005, HO_1211001, BK1170, BK1180, BK1210, HB⟩ := hcut
          cases kq with
          | zero => exact absurd HA.out (by simp [laws_FnForms.j3])
          | succ kj68 =>
           have H := HA.out
           clear HA
           simp only [laws_FnForms.j3] at H
           by_cases c83 : x134_68 = true
           ·subst c83
            have H1 : (none) = some r := by rw [if_pos rfl] at H; exact H
            clear H
            have H := H1
            clear H1
            exact absurd H (by simp)
           ·replace c83 := Bool.eq_false_iff.mpr c83
            subst c83
            have H1 : ((spec_DrawReadEntry.f kj68 l0).bind fun bt1212 => ((impl_ReadEntry.f kj68 bt1212.1 bt1212.2).bind fun bt1214 => ((spec_ReadEntry.f kj68 bt1212.1 bt1212.2).bind fun bt1224 => (if (bt1214.2.2.2.2.2.2 == bt1224.2.2.2.2.2.2) = true then (if bt1214.2.2.2.2.2.2 = true then ((impl_FormEntry.f kj68 bt1214.1 bt1214.2.1 bt1214.2.2.1 bt1214.2.2.2.1 bt1214.2.2.2.2.1 bt1214.2.2.2.2.2.1 bt1212.2).bind fun t1234 => (some (t1234.toList == bt1212.1.toList))) else (some true)) else (none))))) = some r := by rw [if_neg (show ¬ (false = true) by decide)] at H; exact H
            clear H
            have H := H1
            clear H1
            replace H := Option.bind_eq_some_iff.mp H
            obtain ⟨⟨t1212, t1213⟩, A840, H⟩ := H
            replace H : ((impl_ReadEntry.f kj68 t1212 t1213).bind fun bt1214 => ((spec_ReadEntry.f kj68 t1212 t1213).bind fun bt1224 => (if (bt1214.2.2.2.2.2.2 == bt1224.2.2.2.2.2.2) = true then (if bt1214.2.2.2.2.2.2 = true then ((impl_FormEntry.f kj68 bt1214.1 bt1214.2.1 bt1214.2.2.1 bt1214.2.2.2.1 bt1214.2.2.2.2.1 bt1214.2.2.2.2.2.1 t1213).bind fun t1234 => (some (t1234.toList == t1212.toList))) else (some true)) else (none)))) = some r := H
            have A84 := Aside0.mk A840
            clear A840
            replace H := Option.bind_eq_some_iff.mp H
            obtain ⟨⟨t1214, t1215, t1216, t1217, t1218, t1219, t1222⟩, A850, H⟩ := H
            replace H : ((spec_ReadEntry.f kj68 t1212 t1213).bind fun bt1224 => (if (t1222 == bt1224.2.2.2.2.2.2) = true then (if t1222 = true then ((impl_FormEntry.f kj68 t1214 t1215 t1216 t1217 t1218 t1219 t1213).bind fun t1234 => (some (t1234.toList == t1212.toList))) else (some true)) else (none))) = some r := H
            have A85 := Aside0.mk A850
            clear A850
            replace H := Option.bind_eq_some_iff.mp H
            obtain ⟨⟨t1224, t1225, t1226, t1227, t1228, t1229, t1232⟩, A860, H⟩ := H
            replace H : (if (t1222 == t1232) = true then (if t1222 = true then ((impl_FormEntry.f kj68 t1214 t1215 t1216 t1217 t1218 t1219 t1213).bind fun t1234 => (some (t1234.toList == t1212.toList))) else (some true)) else (none)) = some r := H
            have A86 := Aside0.mk A860
            clear A860
            by_cases c87 : (t1222 == t1232) = true
            ·rw [if_pos c87] at H
             have c87b0 : (t1222 == t1232) = true := c87
             (try (have c87b1 : decide (t1222 = t1232) = true := by simpa using c87))
             (try (have c87b2 : (t1222 == t1232) = true := by simpa using c87))
             clear c87
             by_cases c88 : t1222 = true
             ·subst c88
              have H1 : ((impl_FormEntry.f kj68 t1214 t1215 t1216 t1217 t1218 t1219 t1213).bind fun t1234 => (some (t1234.toList == t1212.toList))) = some r := by rw [if_pos rfl] at H; exact H
              clear H
              have H := H1
              clear H1
              replace H := Option.bind_eq_some_iff.mp H
              obtain ⟨t1234, A890, H⟩ := H
              replace H : (some (t1234.toList == t1212.toList)) = some r := H
              have A89 := Aside0.mk A890
              clear A890
              obtain rfl := Option.some.inj H
              go_wp2_with (first | ((with_reducible refine gate_callee (f := 55) rfl ?_); refine gl__ (some 137) Try.func55 #[.slice A0 l0.length c0] ?_; (with_reducible refine (spec_DrawReadEntry.calls kj68 _ _ l0 t1212 t1213 _ ?side1 HC0.out A84.out).mono ?_); (case side1 => repeat (first | exact (Kd.C_below HR0.out HB.out) | (with_reducible refine Kd.C_alloc ?_ _) | (with_reducible refine Kd.C_drewN ?_ _) | (with_reducible refine Kd.C_drew ?_))); rintro e w90 ⟨rfl, hb⟩; refine ⟨_, rfl, ?_⟩; replace HO_1171001 := am__ (Kd.R_below (rr__ HO_1171001.out) hb); replace HO_1181005 := am__ (Kd.R_below (rr__ HO_1181005.out) hb); replace HO_1211001 := am__ (Kd.R_below (rr__ HO_1211001.out) hb); replace BK1170 := am__ (blb__ BK1170.out hb); replace BK1180 := am__ (blb__ BK1180.out hb); replace BK1210 := am__ (blb__ BK1210.out hb); replace HB := am__ (below_step (bel__) hb); clear hb) | ((with_reducible refine gate_callee (f := 48) rfl ?_); refine gl__ (some 143) Try.func48 #[.string t1212, .int .i64 t1213] ?_; (with_reducible refine (impl_ReadEntry.calls kj68 t1212 t1213 t1214 t1215 t1216 t1217 t1218 t1219 true _ A85.out).mono ?_); rintro e w91 ⟨v1220, rfl, ho0, hb⟩; refine ⟨_, rfl, ?_⟩; have HO1221 := am__ (Kd.R_lower (Kd.R_new' (Kd.R_new' (Kd.R_new' ho0 (Kd.R_lt (rr__ HO_1171001.out))) (Kd.R_lt (rr__ HO_1181005.out))) (Kd.R_lt (rr__ HO_1211001.out))) (below_size (bel__))); replace HO_1171001 := am__ (Kd.R_elder' (rr__ HO_1171001.out) (Kd.R_base ho0) hb); replace HO_1181005 := am__ (Kd.R_elder' (rr__ HO_1181005.out) (Kd.R_base ho0) hb); replace HO_1211001 := am__ (Kd.R_elder' (rr__ HO_1211001.out) (Kd.R_base ho0) hb); replace BK1170 := am__ (blb__ BK1170.out hb); replace BK1180 := am__ (blb__ BK1180.out hb); replace BK1210 := am__ (blb__ BK1210.out hb); replace HB := am__ (below_step (bel__) hb); clear hb; (try clear ho0)) | ((with_reducible refine gate_dst (N := 19) rfl ?_); refine be__ 19 #[.int .i64 0, .string (⟨#[]⟩ : ByteArray), .string (⟨#[]⟩ : ByteArray), .int .i64 0, .string (⟨#[]⟩ : ByteArray), .slice none 0 0] 63 ?_; intro gb1223 hg w92 hbox hb; replace HO_1171001 := am__ (Kd.R_below (rr__ HO_1171001.out) hb); replace HO_1181005 := am__ (Kd.R_below (rr__ HO_1181005.out) hb); replace HO_1211001 := am__ (Kd.R_below (rr__ HO_1211001.out) hb); replace HO1221 := am__ (Kd.R_below (rr__ HO1221.out) hb); have BK1223 := am__ (hbox); have GW1223 := am__ ((bsz__ hg bel__ : w.heap.size ≤ gb1223)); have GE1223 := am__ ((bsz__ hg bel__ : w.heap.size ≤ gb1223)); replace HB := am__ (below_step (bel__) hb); have NB1170_1223 := am__ ((nl__ hg BK1170.out : gb1170 ≠ gb1223)); have NB1223_1170 := am__ ((ng__ hg BK1170.out : gb1223 ≠ gb1170)); replace BK1170 := am__ (blb__ BK1170.out hb); have NB1180_1223 := am__ ((nl__ hg BK1180.out : gb1180 ≠ gb1223)); have NB1223_1180 := am__ ((ng__ hg BK1180.out : gb1223 ≠ gb1180)); replace BK1180 := am__ (blb__ BK1180.out hb); have NB1210_1223 := am__ ((nl__ hg BK1210.out : gb1210 ≠ gb1223)); have NB1223_1210 := am__ ((ng__ hg BK1210.out : gb1223 ≠ gb1210)); replace BK1210 := am__ (blb__ BK1210.out hb); clear hb hbox hg; have hnb93 := NB1223_1170.out; have hnc93 := NB1170_1223.out; have hnb94 := NB1223_1180.out; have hnc94 := NB1180_1223.out; have hnb95 := NB1223_1210.out; have hnc95 := NB1210_1223.out; obtain ⟨hcz96_0, hcz96_1, hcz96_2, hcz96_3, hcz96_4, hcz96_5, hfz96_0, hfz96_1, hfz96_2, hfz96_3, hfz96_4, hfz96_5⟩ := bk6__ BK1223.out; obtain ⟨Ao97, co97, eo97⟩ := Kd.R_slice HO1221.out; subst eo97) | ((with_reducible refine gate_callee (f := 47) rfl ?_); refine gl__ (some 149) Try.func47 #[.string t1212, .int .i64 t1213] ?_; (with_reducible refine (spec_ReadEntry.calls kj68 t1212 t1213 t1224 t1225 t1226 t1227 t1228 t1229 t1232 _ A86.out).mono ?_); rintro e w98 ⟨v1230, rfl, ho0, hb⟩; refine ⟨_, rfl, ?_⟩; have HO1231 := am__ (Kd.R_lower (Kd.R_new' (Kd.R_new' (Kd.R_new' (Kd.R_new' ho0 (Kd.R_lt (by refine rps__ ?_; exact (Kd.R_mono (Kd.R_far (p := ⟨gb1223, 5, none⟩) (Kd.R_far (p := ⟨gb1223, 4, none⟩) (Kd.R_far (p := ⟨gb1223, 3, none⟩) (Kd.R_far (p := ⟨gb1223, 2, none⟩) (Kd.R_far (p := ⟨gb1223, 1, none⟩) (Kd.R_far (p := ⟨gb1223, 0, none⟩) (Kd.R_types HO_1171001.out BK1223.out (by decide)) h2__ (.int .i64 t1214)) h2__ (.string t1215)) h2__ (.string t1216)) h2__ (.int .i64 t1217)) h2__ (.string t1218)) h2__ (.slice Ao97 t1219.length co97)) h1__)))) (Kd.R_lt (by refine rps__ ?_; exact (Kd.R_mono (Kd.R_far (p := ⟨gb1223, 5, none⟩) (Kd.R_far (p := ⟨gb1223, 4, none⟩) (Kd.R_far (p := ⟨gb1223, 3, none⟩) (Kd.R_far (p := ⟨gb1223, 2, none⟩) (Kd.R_far (p := ⟨gb1223, 1, none⟩) (Kd.R_far (p := ⟨gb1223, 0, none⟩) (Kd.R_types HO_1181005.out BK1223.out (by decide)) h2__ (.int .i64 t1214)) h2__ (.string t1215)) h2__ (.string t1216)) h2__ (.int .i64 t1217)) h2__ (.string t1218)) h2__ (.slice Ao97 t1219.length co97)) h1__)))) (Kd.R_lt (by refine rps__ ?_; exact (Kd.R_mono (Kd.R_far (p := ⟨gb1223, 5, none⟩) (Kd.R_far (p := ⟨gb1223, 4, none⟩) (Kd.R_far (p := ⟨gb1223, 3, none⟩) (Kd.R_far (p := ⟨gb1223, 2, none⟩) (Kd.R_far (p := ⟨gb1223, 1, none⟩) (Kd.R_far (p := ⟨gb1223, 0, none⟩) (Kd.R_types HO_1211001.out BK1223.out (by decide)) h2__ (.int .i64 t1214)) h2__ (.string t1215)) h2__ (.string t1216)) h2__ (.int .i64 t1217)) h2__ (.string t1218)) h2__ (.slice Ao97 t1219.length co97)) h1__)))) (Kd.R_lt (by refine rps__ ?_; exact (Kd.R_mono (Kd.R_far (p := ⟨gb1223, 5, none⟩) (Kd.R_far (p := ⟨gb1223, 4, none⟩) (Kd.R_far (p := ⟨gb1223, 3, none⟩) (Kd.R_far (p := ⟨gb1223, 2, none⟩) (Kd.R_far (p := ⟨gb1223, 1, none⟩) (Kd.R_far (p := ⟨gb1223, 0, none⟩) (Kd.R_types HO1221.out BK1223.out (by decide)) h2__ (.int .i64 t1214)) h2__ (.string t1215)) h2__ (.string t1216)) h2__ (.int .i64 t1217)) h2__ (.string t1218)) h2__ (.slice Ao97 t1219.length co97)) h1__)))) (below_size (bel__))); replace HO_1171001 := am__ (Kd.R_elder' (by refine rps__ ?_; exact (Kd.R_mono (Kd.R_far (p := ⟨gb1223, 5, none⟩) (Kd.R_far (p := ⟨gb1223, 4, none⟩) (Kd.R_far (p := ⟨gb1223, 3, none⟩) (Kd.R_far (p := ⟨gb1223, 2, none⟩) (Kd.R_far (p := ⟨gb1223, 1, none⟩) (Kd.R_far (p := ⟨gb1223, 0, none⟩) (Kd.R_types HO_1171001.out BK1223.out (by decide)) h2__ (.int .i64 t1214)) h2__ (.string t1215)) h2__ (.string t1216)) h2__ (.int .i64 t1217)) h2__ (.string t1218)) h2__ (.slice Ao97 t1219.length co97)) h1__)) (Kd.R_base ho0) hb); replace HO_1181005 := am__ (Kd.R_elder' (by refine rps__ ?_; exact (Kd.R_mono (Kd.R_far (p := ⟨gb1223, 5, none⟩) (Kd.R_far (p := ⟨gb1223, 4, none⟩) (Kd.R_far (p := ⟨gb1223, 3, none⟩) (Kd.R_far (p := ⟨gb1223, 2, none⟩) (Kd.R_far (p := ⟨gb1223, 1, none⟩) (Kd.R_far (p := ⟨gb1223, 0, none⟩) (Kd.R_types HO_1181005.out BK1223.out (by decide)) h2__ (.int .i64 t1214)) h2__ (.string t1215)) h2__ (.string t1216)) h2__ (.int .i64 t1217)) h2__ (.string t1218)) h2__ (.slice Ao97 t1219.length co97)) h1__)) (Kd.R_base ho0) hb); replace HO_1211001 := am__ (Kd.R_elder' (by refine rps__ ?_; exact (Kd.R_mono (Kd.R_far (p := ⟨gb1223, 5, none⟩) (Kd.R_far (p := ⟨gb1223, 4, none⟩) (Kd.R_far (p := ⟨gb1223, 3, none⟩) (Kd.R_far (p := ⟨gb1223, 2, none⟩) (Kd.R_far (p := ⟨gb1223, 1, none⟩) (Kd.R_far (p := ⟨gb1223, 0, none⟩) (Kd.R_types HO_1211001.out BK1223.out (by decide)) h2__ (.int .i64 t1214)) h2__ (.string t1215)) h2__ (.string t1216)) h2__ (.int .i64 t1217)) h2__ (.string t1218)) h2__ (.slice Ao97 t1219.length co97)) h1__)) (Kd.R_base ho0) hb); replace HO1221 := am__ (Kd.R_elder' (by refine rps__ ?_; exact (Kd.R_mono (Kd.R_far (p := ⟨gb1223, 5, none⟩) (Kd.R_far (p := ⟨gb1223, 4, none⟩) (Kd.R_far (p := ⟨gb1223, 3, none⟩) (Kd.R_far (p := ⟨gb1223, 2, none⟩) (Kd.R_far (p := ⟨gb1223, 1, none⟩) (Kd.R_far (p := ⟨gb1223, 0, none⟩) (Kd.R_types HO1221.out BK1223.out (by decide)) h2__ (.int .i64 t1214)) h2__ (.string t1215)) h2__ (.string t1216)) h2__ (.int .i64 t1217)) h2__ (.string t1218)) h2__ (.slice Ao97 t1219.length co97)) h1__)) (Kd.R_base ho0) hb); replace BK1170 := am__ (blk_below (g := gb1170) (o := .cells #[.string t1165, .slice Ao11 t1166.length co11] 38 (0, 0)) (blf6__ BK1170.out) hb); replace BK1180 := am__ (blk_below (g := gb1180) (o := .cells #[.int .i64 t1171, .string t1172, .string t1173, .int .i64 t1174, .string t1175, .slice Ao16 t1176.length co16] 63 (0, 0)) (blf6__ BK1180.out) hb); replace BK1210 := am__ (blk_below (g := gb1210) (o := .cells #[.string t1205, .slice Ao76 t1206.length co76] 38 (0, 0)) (blf6__ BK1210.out) hb); replace BK1223 := am__ (blk_below (g := gb1223) (o := .cells #[.int .i64 t1214, .string t1215, .string t1216, .int .i64 t1217, .string t1218, .slice Ao97 t1219.length co97] 63 (0, 0)) (bpu__ BK1223.out) hb); replace HB := am__ (below_step (bel__) hb); clear hb; (try clear ho0)) | ((with_reducible refine gate_dst (N := 21) rfl ?_); refine be__ 21 #[.int .i64 0, .string (⟨#[]⟩ : ByteArray), .string (⟨#[]⟩ : ByteArray), .int .i64 0, .string (⟨#[]⟩ : ByteArray), .slice none 0 0] 63 ?_; intro gb1233 hg w99 hbox hb; replace HO_1171001 := am__ (Kd.R_below (rr__ HO_1171001.out) hb); replace HO_1181005 := am__ (Kd.R_below (rr__ HO_1181005.out) hb); replace HO_1211001 := am__ (Kd.R_below (rr__ HO_1211001.out) hb); replace HO1221 := am__ (Kd.R_below (rr__ HO1221.out) hb); replace HO1231 := am__ (Kd.R_below (rr__ HO1231.out) hb); have BK1233 := am__ (hbox); have GW1233 := am__ ((bsz__ hg bel__ : w.heap.size ≤ gb1233)); have GE1233 := am__ ((bsz__ hg bel__ : w.heap.size ≤ gb1233)); replace HB := am__ (below_step (bel__) hb); have NB1170_1233 := am__ ((nl__ hg BK1170.out : gb1170 ≠ gb1233)); have NB1233_1170 := am__ ((ng__ hg BK1170.out : gb1233 ≠ gb1170)); replace BK1170 := am__ (blb__ BK1170.out hb); have NB1180_1233 := am__ ((nl__ hg BK1180.out : gb1180 ≠ gb1233)); have NB1233_1180 := am__ ((ng__ hg BK1180.out : gb1233 ≠ gb1180)); replace BK1180 := am__ (blb__ BK1180.out hb); have NB1210_1233 := am__ ((nl__ hg BK1210.out : gb1210 ≠ gb1233)); have NB1233_1210 := am__ ((ng__ hg BK1210.out : gb1233 ≠ gb1210)); replace BK1210 := am__ (blb__ BK1210.out hb); have NB1223_1233 := am__ ((nl__ hg BK1223.out : gb1223 ≠ gb1233)); have NB1233_1223 := am__ ((ng__ hg BK1223.out : gb1233 ≠ gb1223)); replace BK1223 := am__ (blb__ BK1223.out hb); clear hb hbox hg; have hnb100 := NB1233_1170.out; have hnc100 := NB1170_1233.out; have hnb101 := NB1233_1180.out; have hnc101 := NB1180_1233.out; have hnb102 := NB1233_1210.out; have hnc102 := NB1210_1233.out; have hnb103 := NB1233_1223.out; have hnc103 := NB1223_1233.out; obtain ⟨hcz104_0, hcz104_1, hcz104_2, hcz104_3, hcz104_4, hcz104_5, hfz104_0, hfz104_1, hfz104_2, hfz104_3, hfz104_4, hfz104_5⟩ := bk6__ BK1233.out; obtain ⟨Ao105, co105, eo105⟩ := Kd.R_slice HO1231.out; subst eo105; obtain ⟨hcz106_0, hcz106_1, hcz106_2, hcz106_3, hcz106_4, hcz106_5, hfz106_0, hfz106_1, hfz106_2, hfz106_3, hfz106_4, hfz106_5⟩ := bk6__ BK1223.out) | (go_at_call 45; (with_reducible refine (impl_FormEntry.calls kj68 t1214 t1215 t1216 t1217 t1218 _ _ t1219 t1213 t1234 _ ?side1 ?side2 A89.out).mono ?_); (case side1 => refine (Kd.R_reads' (e := 9) (base := w.heap.size) (ok := fun k_ => ((((True ∧ some k_ ≠ (ob__ Ao11 t1166.length co11)) ∧ some k_ ≠ (ob__ Ao16 t1176.length co16)) ∧ some k_ ≠ (ob__ Ao76 t1206.length co76)) ∧ some k_ ≠ (ob__ Ao105 t1229.length co105))) (n := t1219.length) (c := co97) ?_).2.2; exact (by refine rps__ ?_; exact (Kd.R_mono (Kd.R_far (p := ⟨gb1233, 5, none⟩) (Kd.R_far (p := ⟨gb1233, 4, none⟩) (Kd.R_far (p := ⟨gb1233, 3, none⟩) (Kd.R_far (p := ⟨gb1233, 2, none⟩) (Kd.R_far (p := ⟨gb1233, 1, none⟩) (Kd.R_far (p := ⟨gb1233, 0, none⟩) (Kd.R_types HO1221.out BK1233.out (by decide)) h2__ (.int .i64 t1224)) h2__ (.string t1225)) h2__ (.string t1226)) h2__ (.int .i64 t1227)) h2__ (.string t1228)) h2__ (.slice Ao105 t1229.length co105)) h1__))); (case side2 => exact (Kd.R_reads' HO1221.out).2.1); rintro e w107 ⟨rfl, hb⟩; replace HO_1171001 := am__ (Kd.R_below (by refine rps__ ?_; exact (Kd.R_mono (Kd.R_far (p := ⟨gb1233, 5, none⟩) (Kd.R_far (p := ⟨gb1233, 4, none⟩) (Kd.R_far (p := ⟨gb1233, 3, none⟩) (Kd.R_far (p := ⟨gb1233, 2, none⟩) (Kd.R_far (p := ⟨gb1233, 1, none⟩) (Kd.R_far (p := ⟨gb1233, 0, none⟩) (Kd.R_types HO_1171001.out BK1233.out (by decide)) h2__ (.int .i64 t1224)) h2__ (.string t1225)) h2__ (.string t1226)) h2__ (.int .i64 t1227)) h2__ (.string t1228)) h2__ (.slice Ao105 t1229.length co105)) h1__)) hb); replace HO_1181005 := am__ (Kd.R_below (by refine rps__ ?_; exact (Kd.R_mono (Kd.R_far (p := ⟨gb1233, 5, none⟩) (Kd.R_far (p := ⟨gb1233, 4, none⟩) (Kd.R_far (p := ⟨gb1233, 3, none⟩) (Kd.R_far (p := ⟨gb1233, 2, none⟩) (Kd.R_far (p := ⟨gb1233, 1, none⟩) (Kd.R_far (p := ⟨gb1233, 0, none⟩) (Kd.R_types HO_1181005.out BK1233.out (by decide)) h2__ (.int .i64 t1224)) h2__ (.string t1225)) h2__ (.string t1226)) h2__ (.int .i64 t1227)) h2__ (.string t1228)) h2__ (.slice Ao105 t1229.length co105)) h1__)) hb); replace HO_1211001 := am__ (Kd.R_below (by refine rps__ ?_; exact (Kd.R_mono (Kd.R_far (p := ⟨gb1233, 5, none⟩) (Kd.R_far (p := ⟨gb1233, 4, none⟩) (Kd.R_far (p := ⟨gb1233, 3, none⟩) (Kd.R_far (p := ⟨gb1233, 2, none⟩) (Kd.R_far (p := ⟨gb1233, 1, none⟩) (Kd.R_far (p := ⟨gb1233, 0, none⟩) (Kd.R_types HO_1211001.out BK1233.out (by decide)) h2__ (.int .i64 t1224)) h2__ (.string t1225)) h2__ (.string t1226)) h2__ (.int .i64 t1227)) h2__ (.string t1228)) h2__ (.slice Ao105 t1229.length co105)) h1__)) hb); replace HO1221 := am__ (Kd.R_below (by refine rps__ ?_; exact (Kd.R_mono (Kd.R_far (p := ⟨gb1233, 5, none⟩) (Kd.R_far (p := ⟨gb1233, 4, none⟩) (Kd.R_far (p := ⟨gb1233, 3, none⟩) (Kd.R_far (p := ⟨gb1233, 2, none⟩) (Kd.R_far (p := ⟨gb1233, 1, none⟩) (Kd.R_far (p := ⟨gb1233, 0, none⟩) (Kd.R_types HO1221.out BK1233.out (by decide)) h2__ (.int .i64 t1224)) h2__ (.string t1225)) h2__ (.string t1226)) h2__ (.int .i64 t1227)) h2__ (.string t1228)) h2__ (.slice Ao105 t1229.length co105)) h1__)) hb); replace HO1231 := am__ (Kd.R_below (by refine rps__ ?_; exact (Kd.R_mono (Kd.R_far (p := ⟨gb1233, 5, none⟩) (Kd.R_far (p := ⟨gb1233, 4, none⟩) (Kd.R_far (p := ⟨gb1233, 3, none⟩) (Kd.R_far (p := ⟨gb1233, 2, none⟩) (Kd.R_far (p := ⟨gb1233, 1, none⟩) (Kd.R_far (p := ⟨gb1233, 0, none⟩) (Kd.R_types HO1231.out BK1233.out (by decide)) h2__ (.int .i64 t1224)) h2__ (.string t1225)) h2__ (.string t1226)) h2__ (.int .i64 t1227)) h2__ (.string t1228)) h2__ (.slice Ao105 t1229.length co105)) h1__)) hb); replace BK1170 := am__ (blk_below (g := gb1170) (o := .cells #[.string t1165, .slice Ao11 t1166.length co11] 38 (0, 0)) (blf6__ BK1170.out) hb); replace BK1180 := am__ (blk_below (g := gb1180) (o := .cells #[.int .i64 t1171, .string t1172, .string t1173, .int .i64 t1174, .string t1175, .slice Ao16 t1176.length co16] 63 (0, 0)) (blf6__ BK1180.out) hb); replace BK1210 := am__ (blk_below (g := gb1210) (o := .cells #[.string t1205, .slice Ao76 t1206.length co76] 38 (0, 0)) (blf6__ BK1210.out) hb); replace BK1223 := am__ (blk_below (g := gb1223) (o := .cells #[.int .i64 t1214, .string t1215, .string t1216, .int .i64 t1217, .string t1218, .slice Ao97 t1219.length co97] 63 (0, 0)) (blf6__ BK1223.out) hb); replace BK1233 := am__ (blk_below (g := gb1233) (o := .cells #[.int .i64 t1224, .string t1225, .string t1226, .int .i64 t1227, .string t1228, .slice Ao105 t1229.length co105] 63 (0, 0)) (bpu__ BK1233.out) hb); replace HB := am__ (below_step (bel__) hb); clear hb))
              go_ret
              exact ⟨by first | rfl | (simp [errW_none, errW_some] <;> rfl) | (simp [*, errW_none, errW_some] <;> rfl), bel__⟩
             ·replace c88 := Bool.eq_false_iff.mpr c88
              subst c88
              have H1 : (some true) = some r := by rw [if_neg (show ¬ (false = true) by decide)] at H; exact H
              clear H
              have H := H1
              clear H1
              obtain rfl := Option.some.inj H
              go_wp2_with (first | ((with_reducible refine gate_callee (f := 55) rfl ?_); refine gl__ (some 137) Try.func55 #[.slice A0 l0.length c0] ?_; (with_reducible refine (spec_DrawReadEntry.calls kj68 _ _ l0 t1212 t1213 _ ?side1 HC0.out A84.out).mono ?_); (case side1 => repeat (first | exact (Kd.C_below HR0.out HB.out) | (with_reducible refine Kd.C_alloc ?_ _) | (with_reducible refine Kd.C_drewN ?_ _) | (with_reducible refine Kd.C_drew ?_))); rintro e w108 ⟨rfl, hb⟩; refine ⟨_, rfl, ?_⟩; replace HO_1171001 := am__ (Kd.R_below (rr__ HO_1171001.out) hb); replace HO_1181005 := am__ (Kd.R_below (rr__ HO_1181005.out) hb); replace HO_1211001 := am__ (Kd.R_below (rr__ HO_1211001.out) hb); replace BK1170 := am__ (blb__ BK1170.out hb); replace BK1180 := am__ (blb__ BK1180.out hb); replace BK1210 := am__ (blb__ BK1210.out hb); replace HB := am__ (below_step (bel__) hb); clear hb) | ((with_reducible refine gate_callee (f := 48) rfl ?_); refine gl__ (some 143) Try.func48 #[.string t1212, .int .i64 t1213] ?_; (with_reducible refine (impl_ReadEntry.calls kj68 t1212 t1213 t1214 t1215 t1216 t1217 t1218 t1219 false _ A85.out).mono ?_); rintro e w109 ⟨v1220, rfl, ho0, hb⟩; refine ⟨_, rfl, ?_⟩; have HO1221 := am__ (Kd.R_lower (Kd.R_new' (Kd.R_new' (Kd.R_new' ho0 (Kd.R_lt (rr__ HO_1171001.out))) (Kd.R_lt (rr__ HO_1181005.out))) (Kd.R_lt (rr__ HO_1211001.out))) (below_size (bel__))); replace HO_1171001 := am__ (Kd.R_elder' (rr__ HO_1171001.out) (Kd.R_base ho0) hb); replace HO_1181005 := am__ (Kd.R_elder' (rr__ HO_1181005.out) (Kd.R_base ho0) hb); replace HO_1211001 := am__ (Kd.R_elder' (rr__ HO_1211001.out) (Kd.R_base ho0) hb); replace BK1170 := am__ (blb__ BK1170.out hb); replace BK1180 := am__ (blb__ BK1180.out hb); replace BK1210 := am__ (blb__ BK1210.out hb); replace HB := am__ (below_step (bel__) hb); clear hb; (try clear ho0)) | ((with_reducible refine gate_dst (N := 19) rfl ?_); refine be__ 19 #[.int .i64 0, .string (⟨#[]⟩ : ByteArray), .string (⟨#[]⟩ : ByteArray), .int .i64 0, .string (⟨#[]⟩ : ByteArray), .slice none 0 0] 63 ?_; intro gb1223 hg w110 hbox hb; replace HO_1171001 := am__ (Kd.R_below (rr__ HO_1171001.out) hb); replace HO_1181005 := am__ (Kd.R_below (rr__ HO_1181005.out) hb); replace HO_1211001 := am__ (Kd.R_below (rr__ HO_1211001.out) hb); replace HO1221 := am__ (Kd.R_below (rr__ HO1221.out) hb); have BK1223 := am__ (hbox); have GW1223 := am__ ((bsz__ hg bel__ : w.heap.size ≤ gb1223)); have GE1223 := am__ ((bsz__ hg bel__ : w.heap.size ≤ gb1223)); replace HB := am__ (below_step (bel__) hb); have NB1170_1223 := am__ ((nl__ hg BK1170.out : gb1170 ≠ gb1223)); have NB1223_1170 := am__ ((ng__ hg BK1170.out : gb1223 ≠ gb1170)); replace BK1170 := am__ (blb__ BK1170.out hb); have NB1180_1223 := am__ ((nl__ hg BK1180.out : gb1180 ≠ gb1223)); have NB1223_1180 := am__ ((ng__ hg BK1180.out : gb1223 ≠ gb1180)); replace BK1180 := am__ (blb__ BK1180.out hb); have NB1210_1223 := am__ ((nl__ hg BK1210.out : gb1210 ≠ gb1223)); have NB1223_1210 := am__ ((ng__ hg BK1210.out : gb1223 ≠ gb1210)); replace BK1210 := am__ (blb__ BK1210.out hb); clear hb hbox hg; have hnb111 := NB1223_1170.out; have hnc111 := NB1170_1223.out; have hnb112 := NB1223_1180.out; have hnc112 := NB1180_1223.out; have hnb113 := NB1223_1210.out; have hnc113 := NB1210_1223.out; obtain ⟨hcz114_0, hcz114_1, hcz114_2, hcz114_3, hcz114_4, hcz114_5, hfz114_0, hfz114_1, hfz114_2, hfz114_3, hfz114_4, hfz114_5⟩ := bk6__ BK1223.out; obtain ⟨Ao115, co115, eo115⟩ := Kd.R_slice HO1221.out; subst eo115) | ((with_reducible refine gate_callee (f := 47) rfl ?_); refine gl__ (some 149) Try.func47 #[.string t1212, .int .i64 t1213] ?_; (with_reducible refine (spec_ReadEntry.calls kj68 t1212 t1213 t1224 t1225 t1226 t1227 t1228 t1229 t1232 _ A86.out).mono ?_); rintro e w116 ⟨v1230, rfl, ho0, hb⟩; refine ⟨_, rfl, ?_⟩; have HO1231 := am__ (Kd.R_lower (Kd.R_new' (Kd.R_new' (Kd.R_new' (Kd.R_new' ho0 (Kd.R_lt (by refine rps__ ?_; exact (Kd.R_mono (Kd.R_far (p := ⟨gb1223, 5, none⟩) (Kd.R_far (p := ⟨gb1223, 4, none⟩) (Kd.R_far (p := ⟨gb1223, 3, none⟩) (Kd.R_far (p := ⟨gb1223, 2, none⟩) (Kd.R_far (p := ⟨gb1223, 1, none⟩) (Kd.R_far (p := ⟨gb1223, 0, none⟩) (Kd.R_types HO_1171001.out BK1223.out (by decide)) h2__ (.int .i64 t1214)) h2__ (.string t1215)) h2__ (.string t1216)) h2__ (.int .i64 t1217)) h2__ (.string t1218)) h2__ (.slice Ao115 t1219.length co115)) h1__)))) (Kd.R_lt (by refine rps__ ?_; exact (Kd.R_mono (Kd.R_far (p := ⟨gb1223, 5, none⟩) (Kd.R_far (p := ⟨gb1223, 4, none⟩) (Kd.R_far (p := ⟨gb1223, 3, none⟩) (Kd.R_far (p := ⟨gb1223, 2, none⟩) (Kd.R_far (p := ⟨gb1223, 1, none⟩) (Kd.R_far (p := ⟨gb1223, 0, none⟩) (Kd.R_types HO_1181005.out BK1223.out (by decide)) h2__ (.int .i64 t1214)) h2__ (.string t1215)) h2__ (.string t1216)) h2__ (.int .i64 t1217)) h2__ (.string t1218)) h2__ (.slice Ao115 t1219.length co115)) h1__)))) (Kd.R_lt (by refine rps__ ?_; exact (Kd.R_mono (Kd.R_far (p := ⟨gb1223, 5, none⟩) (Kd.R_far (p := ⟨gb1223, 4, none⟩) (Kd.R_far (p := ⟨gb1223, 3, none⟩) (Kd.R_far (p := ⟨gb1223, 2, none⟩) (Kd.R_far (p := ⟨gb1223, 1, none⟩) (Kd.R_far (p := ⟨gb1223, 0, none⟩) (Kd.R_types HO_1211001.out BK1223.out (by decide)) h2__ (.int .i64 t1214)) h2__ (.string t1215)) h2__ (.string t1216)) h2__ (.int .i64 t1217)) h2__ (.string t1218)) h2__ (.slice Ao115 t1219.length co115)) h1__)))) (Kd.R_lt (by refine rps__ ?_; exact (Kd.R_mono (Kd.R_far (p := ⟨gb1223, 5, none⟩) (Kd.R_far (p := ⟨gb1223, 4, none⟩) (Kd.R_far (p := ⟨gb1223, 3, none⟩) (Kd.R_far (p := ⟨gb1223, 2, none⟩) (Kd.R_far (p := ⟨gb1223, 1, none⟩) (Kd.R_far (p := ⟨gb1223, 0, none⟩) (Kd.R_types HO1221.out BK1223.out (by decide)) h2__ (.int .i64 t1214)) h2__ (.string t1215)) h2__ (.string t1216)) h2__ (.int .i64 t1217)) h2__ (.string t1218)) h2__ (.slice Ao115 t1219.length co115)) h1__)))) (below_size (bel__))); replace HO_1171001 := am__ (Kd.R_elder' (by refine rps__ ?_; exact (Kd.R_mono (Kd.R_far (p := ⟨gb1223, 5, none⟩) (Kd.R_far (p := ⟨gb1223, 4, none⟩) (Kd.R_far (p := ⟨gb1223, 3, none⟩) (Kd.R_far (p := ⟨gb1223, 2, none⟩) (Kd.R_far (p := ⟨gb1223, 1, none⟩) (Kd.R_far (p := ⟨gb1223, 0, none⟩) (Kd.R_types HO_1171001.out BK1223.out (by decide)) h2__ (.int .i64 t1214)) h2__ (.string t1215)) h2__ (.string t1216)) h2__ (.int .i64 t1217)) h2__ (.string t1218)) h2__ (.slice Ao115 t1219.length co115)) h1__)) (Kd.R_base ho0) hb); replace HO_1181005 := am__ (Kd.R_elder' (by refine rps__ ?_; exact (Kd.R_mono (Kd.R_far (p := ⟨gb1223, 5, none⟩) (Kd.R_far (p := ⟨gb1223, 4, none⟩) (Kd.R_far (p := ⟨gb1223, 3, none⟩) (Kd.R_far (p := ⟨gb1223, 2, none⟩) (Kd.R_far (p := ⟨gb1223, 1, none⟩) (Kd.R_far (p := ⟨gb1223, 0, none⟩) (Kd.R_types HO_1181005.out BK1223.out (by decide)) h2__ (.int .i64 t1214)) h2__ (.string t1215)) h2__ (.string t1216)) h2__ (.int .i64 t1217)) h2__ (.string t1218)) h2__ (.slice Ao115 t1219.length co115)) h1__)) (Kd.R_base ho0) hb); replace HO_1211001 := am__ (Kd.R_elder' (by refine rps__ ?_; exact (Kd.R_mono (Kd.R_far (p := ⟨gb1223, 5, none⟩) (Kd.R_far (p := ⟨gb1223, 4, none⟩) (Kd.R_far (p := ⟨gb1223, 3, none⟩) (Kd.R_far (p := ⟨gb1223, 2, none⟩) (Kd.R_far (p := ⟨gb1223, 1, none⟩) (Kd.R_far (p := ⟨gb1223, 0, none⟩) (Kd.R_types HO_1211001.out BK1223.out (by decide)) h2__ (.int .i64 t1214)) h2__ (.string t1215)) h2__ (.string t1216)) h2__ (.int .i64 t1217)) h2__ (.string t1218)) h2__ (.slice Ao115 t1219.length co115)) h1__)) (Kd.R_base ho0) hb); replace HO1221 := am__ (Kd.R_elder' (by refine rps__ ?_; exact (Kd.R_mono (Kd.R_far (p := ⟨gb1223, 5, none⟩) (Kd.R_far (p := ⟨gb1223, 4, none⟩) (Kd.R_far (p := ⟨gb1223, 3, none⟩) (Kd.R_far (p := ⟨gb1223, 2, none⟩) (Kd.R_far (p := ⟨gb1223, 1, none⟩) (Kd.R_far (p := ⟨gb1223, 0, none⟩) (Kd.R_types HO1221.out BK1223.out (by decide)) h2__ (.int .i64 t1214)) h2__ (.string t1215)) h2__ (.string t1216)) h2__ (.int .i64 t1217)) h2__ (.string t1218)) h2__ (.slice Ao115 t1219.length co115)) h1__)) (Kd.R_base ho0) hb); replace BK1170 := am__ (blk_below (g := gb1170) (o := .cells #[.string t1165, .slice Ao11 t1166.length co11] 38 (0, 0)) (blf6__ BK1170.out) hb); replace BK1180 := am__ (blk_below (g := gb1180) (o := .cells #[.int .i64 t1171, .string t1172, .string t1173, .int .i64 t1174, .string t1175, .slice Ao16 t1176.length co16] 63 (0, 0)) (blf6__ BK1180.out) hb); replace BK1210 := am__ (blk_below (g := gb1210) (o := .cells #[.string t1205, .slice Ao76 t1206.length co76] 38 (0, 0)) (blf6__ BK1210.out) hb); replace BK1223 := am__ (blk_below (g := gb1223) (o := .cells #[.int .i64 t1214, .string t1215, .string t1216, .int .i64 t1217, .string t1218, .slice Ao115 t1219.length co115] 63 (0, 0)) (bpu__ BK1223.out) hb); replace HB := am__ (below_step (bel__) hb); clear hb; (try clear ho0)) | ((with_reducible refine gate_dst (N := 21) rfl ?_); refine be__ 21 #[.int .i64 0, .string (⟨#[]⟩ : ByteArray), .string (⟨#[]⟩ : ByteArray), .int .i64 0, .string (⟨#[]⟩ : ByteArray), .slice none 0 0] 63 ?_; intro gb1233 hg w117 hbox hb; replace HO_1171001 := am__ (Kd.R_below (rr__ HO_1171001.out) hb); replace HO_1181005 := am__ (Kd.R_below (rr__ HO_1181005.out) hb); replace HO_1211001 := am__ (Kd.R_below (rr__ HO_1211001.out) hb); replace HO1221 := am__ (Kd.R_below (rr__ HO1221.out) hb); replace HO1231 := am__ (Kd.R_below (rr__ HO1231.out) hb); have BK1233 := am__ (hbox); have GW1233 := am__ ((bsz__ hg bel__ : w.heap.size ≤ gb1233)); have GE1233 := am__ ((bsz__ hg bel__ : w.heap.size ≤ gb1233)); replace HB := am__ (below_step (bel__) hb); have NB1170_1233 := am__ ((nl__ hg BK1170.out : gb1170 ≠ gb1233)); have NB1233_1170 := am__ ((ng__ hg BK1170.out : gb1233 ≠ gb1170)); replace BK1170 := am__ (blb__ BK1170.out hb); have NB1180_1233 := am__ ((nl__ hg BK1180.out : gb1180 ≠ gb1233)); have NB1233_1180 := am__ ((ng__ hg BK1180.out : gb1233 ≠ gb1180)); replace BK1180 := am__ (blb__ BK1180.out hb); have NB1210_1233 := am__ ((nl__ hg BK1210.out : gb1210 ≠ gb1233)); have NB1233_1210 := am__ ((ng__ hg BK1210.out : gb1233 ≠ gb1210)); replace BK1210 := am__ (blb__ BK1210.out hb); have NB1223_1233 := am__ ((nl__ hg BK1223.out : gb1223 ≠ gb1233)); have NB1233_1223 := am__ ((ng__ hg BK1223.out : gb1233 ≠ gb1223)); replace BK1223 := am__ (blb__ BK1223.out hb); clear hb hbox hg; have hnb118 := NB1233_1170.out; have hnc118 := NB1170_1233.out; have hnb119 := NB1233_1180.out; have hnc119 := NB1180_1233.out; have hnb120 := NB1233_1210.out; have hnc120 := NB1210_1233.out; have hnb121 := NB1233_1223.out; have hnc121 := NB1223_1233.out; obtain ⟨hcz122_0, hcz122_1, hcz122_2, hcz122_3, hcz122_4, hcz122_5, hfz122_0, hfz122_1, hfz122_2, hfz122_3, hfz122_4, hfz122_5⟩ := bk6__ BK1233.out; obtain ⟨Ao123, co123, eo123⟩ := Kd.R_slice HO1231.out; subst eo123))
              go_ret
              exact ⟨by first | rfl | (simp [errW_none, errW_some] <;> rfl) | (simp [*, errW_none, errW_some] <;> rfl), bel__⟩
            ·rw [if_neg c87] at H
             exact absurd H (by simp)
/-- THE ONE PURE STATEMENT of laws_FnForms: yours. -/
def laws_FnForms.Pure : Prop := ∀ (l0 : List Int), l0.length ≤ maxLen → l0.length * 1 ≤ 140737488351232 → (∀ x ∈ l0, (Lit.int .u8 x).wf = true) → ∃ k, laws_FnForms.f k l0 = some true
theorem laws_FnForms.walk (P : laws_FnForms.Pure) (a0 : Option Addr) (len0 cap0 : Nat) (z0 : List Int) (w : World) (w0 : (a0 = none ∧ len0 = 0 ∧ cap0 = 0 ∧ z0 = []) ∨ ∃ x, a0 = some x ∧ len0 ≤ cap0 ∧ cap0 ≤ maxLen ∧ z0.length = cap0 ∧ (∀ i, i < z0.length → w.cell? (x.add i) = some (.int .u8 (z0.getD i 0))) ∧ ∀ n ∈ z0, (Lit.int .u8 n).wf = true) (y0 : len0 * 1 ≤ 140737488351232) :
  Calls Try.prog 14 #[.slice a0 len0 cap0] w fun e w' => e = .returned (.bool true) ∧ Below w.heap.size w w' := by
 obtain ⟨l0, rfl, hr0, hm0, hw0, hc0⟩ := ReadsInt.ofRowC w0
 obtain ⟨k, h⟩ := P l0 hm0 y0 hw0
 refine (laws_FnForms.calls k _ _ l0 true w (Kd.C_of_reads (d := (0 : Int)) (h1 := fun _ => rfl) hr0) hc0 h).mono ?_
 rintro e w' ⟨rfl, hd⟩
 exact ⟨rfl, hd⟩
end Go.Proofs.Ytpnblgbkjbpeoaa.P

namespace Go.Proofs.Ytpnblgbkjbpeoaa.P
open Go.RowKit Go.Proofs.YtpnblgbkjbpeoaaW.PrintWords Go.Proofs.YtpnblgbkjbpeoaaW.PrintLast Go.Proofs.YtpnblgbkjbpeoaaW.PrintMore
attribute [local go_sem] max2_int min2_int max_two min_two max_three min_three max_four min_four   -- for this text's walks alone
set_option linter.unusedVariables false
set_option linter.unusedSimpArgs false
/-! ### laws_toStringS: function 59 -/
end Go.Proofs.Ytpnblgbkjbpeoaa.P

namespace Go.Proofs.Ytpnblgbkjbpeoaa.P
open Go.RowKit Go.Proofs.YtpnblgbkjbpeoaaW.PrintWords Go.Proofs.YtpnblgbkjbpeoaaW.PrintLast Go.Proofs.YtpnblgbkjbpeoaaW.PrintMore
attribute [local go_sem] max2_int min2_int max_two min_two max_three min_three max_four min_four   -- for this text's walks alone
set_option linter.unusedVariables false
set_option linter.unusedSimpArgs false
/-! ### laws_eqStringS: function 61 -/
end Go.Proofs.Ytpnblgbkjbpeoaa.P

namespace Go.Proofs.Ytpnblgbkjbpeoaa.P
open Go.RowKit Go.Proofs.YtpnblgbkjbpeoaaW.PrintWords Go.Proofs.YtpnblgbkjbpeoaaW.PrintLast Go.Proofs.YtpnblgbkjbpeoaaW.PrintMore
attribute [local go_sem] max2_int min2_int max_two min_two max_three min_three max_four min_four   -- for this text's walks alone
set_option linter.unusedVariables false
set_option linter.unusedSimpArgs false
/-! ### laws_szStringS: function 58 -/
end Go.Proofs.Ytpnblgbkjbpeoaa.P

/- Plain laws of the helpers that the exact laws share: sizes, copies, equality, marks of lists of texts. No memory in sight. -/
namespace Go.Proofs.Ytpnblgbkjbpeoaa.Q
open Go.RowKit Go.Proofs.Ytpnblgbkjbpeoaa.P Go.Proofs.YtpnblgbkjbpeoaaW.PrintWords Go.Proofs.YtpnblgbkjbpeoaaW.PrintLast Go.Proofs.YtpnblgbkjbpeoaaW.PrintMore
set_option linter.unusedVariables false

theorem wsucc {i n : Nat} (h : i < n) (hn : n ≤ 140737488351232) : wrap64 ((i : Int) + 1) = ((i + 1 : Nat) : Int) := by
  unfold wrap64; omega
theorem rd_drop {α : Type} (d : α) (l : List α) (i : Nat) (h : i < l.length) : l.drop i = rdOf d l (i : Int) :: l.drop (i + 1) := by
  rw [List.drop_eq_getElem_cons h]; simp [rdOf, List.getD_eq_getElem?_getD, List.getElem?_eq_getElem h]

/-! ### toStringS: a copy -/

/-! ### eqStringS: a list equals itself -/

/-! ### szStringS: what is left of a bound -/
end Go.Proofs.Ytpnblgbkjbpeoaa.Q

/- Plain laws of sums, things and logs: what the program and the reference come to, by one function each. -/
namespace Go.Proofs.Ytpnblgbkjbpeoaa.Q
open Go.RowKit Go.Proofs.Ytpnblgbkjbpeoaa.P Go.Proofs.YtpnblgbkjbpeoaaW.PrintWords Go.Proofs.YtpnblgbkjbpeoaaW.PrintLast Go.Proofs.YtpnblgbkjbpeoaaW.PrintMore
set_option linter.unusedVariables false

/-! ### widths, valid things -/
def widB (w : Int) : Bool := decide (1 ≤ w ∧ w ≤ 8)
theorem l1W (w : Int) : spec_l1Width.f w = some (widB w) := by
  unfold spec_l1Width.f widB
  by_cases h : w ≥ 1
  · rw [if_pos h]; congr 1; simp; omega
  · rw [if_neg h]; congr 1; simp; omega
theorem wOk (w : Int) : impl_widthOk.f w = some (widB w) := by
  unfold impl_widthOk.f widB
  by_cases h : w ≥ 1
  · rw [if_pos h]; congr 1; simp; omega
  · rw [if_neg h]; congr 1; simp; omega
theorem widB_iff {w : Int} : widB w = true ↔ 1 ≤ w ∧ w ≤ 8 := by simp [widB]
/-- From place i on: each has width bytes and is above the one before it. -/
def refsFrom (w : Int) (l : List ByteArray) : Nat → Nat → Bool
  | 0, _ => true
  | n + 1, i => if ((rdOf ByteArray.empty l (i : Int)).size : Int) = w then
      (if 0 < i then (if (Op.bytesLess ((rdOf ByteArray.empty l ((i - 1 : Nat) : Int)).toList) ((rdOf ByteArray.empty l (i : Int)).toList)) = true then refsFrom w l n (i + 1) else false) else refsFrom w l n (i + 1)) else false
def thingB (t : ByteArray) (l : List ByteArray) (w : Int) : Bool := if (t.size : Int) > 2000 then false else if (l.length : Int) > 30 then false else if widB w = true then refsFrom w l l.length 0 else false
theorem wpred {i : Nat} (h : 0 < i) (hn : i ≤ 140737488351232) : wrap64 ((i : Int) - 1) = ((i - 1 : Nat) : Int) := by unfold wrap64; omega
theorem sOk_loop (t : ByteArray) (l : List ByteArray) (w : Int) (hl : l.length ≤ 140737488351232) (n : Nat) : ∀ (i : Nat), l.length - i = n → i ≤ l.length → Ev (fun k => spec_l1ThingOk.l0 k w (i : Int) t l) (refsFrom w l n i) := by
  induction n with
  | zero =>
    intro i hn hi
    refine Ev.step (f := fun _ => some true) (fun k => ?_) (Ev.now _)
    simp only [spec_l1ThingOk.l0]; rw [if_neg (by omega)]
  | succ n ih =>
    intro i hn hi
    have hlt : i < l.length := by omega
    have ih2 := ih (i + 1) (by omega) (by omega)
    unfold refsFrom
    by_cases c1 : ((rdOf ByteArray.empty l (i : Int)).size : Int) = w
    · rw [if_pos c1]
      by_cases c2 : 0 < i
      · rw [if_pos c2]
        by_cases c3 : (Op.bytesLess ((rdOf ByteArray.empty l ((i - 1 : Nat) : Int)).toList) ((rdOf ByteArray.empty l (i : Int)).toList)) = true
        · rw [if_pos c3]
          refine Ev.step (fun k => ?_) ih2
          simp only [spec_l1ThingOk.l0]; rw [if_pos (by omega), if_pos (by omega), if_pos c1, if_pos (by omega), wpred c2 (by omega), if_pos (by omega), if_pos (by omega), if_pos c3, wsucc hlt hl]
        · rw [if_neg c3]
          refine Ev.step (f := fun _ => some false) (fun k => ?_) (Ev.now _)
          simp only [spec_l1ThingOk.l0]; rw [if_pos (by omega), if_pos (by omega), if_pos c1, if_pos (by omega), wpred c2 (by omega), if_pos (by omega), if_pos (by omega), if_neg c3]
      · rw [if_neg c2]
        refine Ev.step (fun k => ?_) ih2
        simp only [spec_l1ThingOk.l0]; rw [if_pos (by omega), if_pos (by omega), if_pos c1, if_neg (by omega), wsucc hlt hl]
    · rw [if_neg c1]
      refine Ev.step (f := fun _ => some false) (fun k => ?_) (Ev.now _)
      simp only [spec_l1ThingOk.l0]; rw [if_pos (by omega), if_pos (by omega), if_neg c1]
theorem sOk_ev (t : ByteArray) (l : List ByteArray) (w : Int) (hl : l.length ≤ 140737488351232) : Ev (fun k => spec_l1ThingOk.f k t l w) (thingB t l w) := by
  have hj : ∀ b : Bool, Ev (fun k => spec_l1ThingOk.j0 k w b t l) (if b = true then false else refsFrom w l l.length 0) := fun b => by
    cases b
    · refine Ev.step (fun k => ?_) (sOk_loop t l w hl (l.length - 0) 0 rfl (by omega))
      simp only [spec_l1ThingOk.j0]; rfl
    · refine Ev.step (f := fun _ => some false) (fun k => ?_) (Ev.now _)
      simp only [spec_l1ThingOk.j0]; rfl
  unfold thingB
  by_cases c1 : widB w = true
  · by_cases c2 : (t.size : Int) > 2000
    · rw [if_pos c2]
      refine Ev.congr (fun k => ?_) (hj true)
      unfold spec_l1ThingOk.f; rw [l1W, Option.bind_some, if_pos c1, if_pos c2]
    · rw [if_neg c2, if_pos c1]
      refine Ev.congr (fun k => ?_) (by have := hj (decide ((l.length : Int) > 30)); simp only [decide_eq_true_eq] at this; exact this)
      unfold spec_l1ThingOk.f; rw [l1W, Option.bind_some, if_pos c1, if_neg c2]
  · rw [if_neg c1]
    have e : (if (t.size : Int) > 2000 then false else if (l.length : Int) > 30 then false else false) = false := by split <;> (try rfl); split <;> rfl
    rw [e]
    refine Ev.congr (fun k => ?_) (hj true)
    unfold spec_l1ThingOk.f; rw [l1W, Option.bind_some, if_neg c1]
theorem iOk_loop (t : ByteArray) (l : List ByteArray) (w : Int) (hl : l.length ≤ 140737488351232) (n : Nat) : ∀ (i : Nat), l.length - i = n → i ≤ l.length → Ev (fun k => impl_thingOk.l0 k w l (l.length : Int) (i : Int) t l) (if widB w = true then refsFrom w l n i else false) := by
  induction n with
  | zero =>
    intro i hn hi
    refine Ev.step (f := fun _ => some (widB w)) (fun k => ?_) ?_
    · simp only [impl_thingOk.l0]; rw [if_neg (by omega), wOk]; rfl
    · unfold refsFrom; cases widB w <;> exact Ev.now _
  | succ n ih =>
    intro i hn hi
    have hlt : i < l.length := by omega
    have ih2 := ih (i + 1) (by omega) (by omega)
    unfold refsFrom
    by_cases c1 : ((rdOf ByteArray.empty l (i : Int)).size : Int) = w
    · rw [if_pos c1]
      by_cases c2 : 0 < i
      · rw [if_pos c2]
        by_cases c3 : (Op.bytesLess ((rdOf ByteArray.empty l ((i - 1 : Nat) : Int)).toList) ((rdOf ByteArray.empty l (i : Int)).toList)) = true
        · rw [if_pos c3]
          refine Ev.step (fun k => ?_) ih2
          simp only [impl_thingOk.l0]; rw [if_pos (by omega), if_pos (by omega), if_pos (by omega), if_pos c1, if_pos (by omega), wpred c2 (by omega), if_pos (by omega), if_pos (by omega), if_pos c3, wsucc hlt hl]
        · rw [if_neg c3, ite_self]
          refine Ev.step (f := fun _ => some false) (fun k => ?_) (Ev.now _)
          simp only [impl_thingOk.l0]; rw [if_pos (by omega), if_pos (by omega), if_pos (by omega), if_pos c1, if_pos (by omega), wpred c2 (by omega), if_pos (by omega), if_pos (by omega), if_neg c3]
      · rw [if_neg c2]
        refine Ev.step (fun k => ?_) ih2
        simp only [impl_thingOk.l0]; rw [if_pos (by omega), if_pos (by omega), if_pos (by omega), if_pos c1, if_neg (by omega), wsucc hlt hl]
    · rw [if_neg c1, ite_self]
      refine Ev.step (f := fun _ => some false) (fun k => ?_) (Ev.now _)
      simp only [impl_thingOk.l0]; rw [if_pos (by omega), if_pos (by omega), if_pos (by omega), if_neg c1]
theorem iOk_ev (t : ByteArray) (l : List ByteArray) (w : Int) (hl : l.length ≤ 140737488351232) : Ev (fun k => impl_thingOk.f k t l w) (thingB t l w) := by
  have hj : ∀ b : Bool, Ev (fun k => impl_thingOk.j0 k w b t l) (if b = true then false else if widB w = true then refsFrom w l l.length 0 else false) := fun b => by
    cases b
    · refine Ev.step (fun k => ?_) (iOk_loop t l w hl (l.length - 0) 0 rfl (by omega))
      simp only [impl_thingOk.j0]; rfl
    · refine Ev.step (f := fun _ => some false) (fun k => ?_) (Ev.now _)
      simp only [impl_thingOk.j0]; rfl
  unfold thingB
  by_cases c2 : (t.size : Int) > 2000
  · rw [if_pos c2]
    refine Ev.congr (fun k => ?_) (hj true)
    unfold impl_thingOk.f; rw [if_pos c2]
  · rw [if_neg c2]
    refine Ev.congr (fun k => ?_) (by have := hj (decide ((l.length : Int) > 30)); simp only [decide_eq_true_eq] at this; exact this)
    unfold impl_thingOk.f; rw [if_neg c2]
theorem thingB_le {t : ByteArray} {l : List ByteArray} {w : Int} (h : thingB t l w = true) : t.size ≤ 2000 ∧ l.length ≤ 30 ∧ 1 ≤ w ∧ w ≤ 8 ∧ refsFrom w l l.length 0 = true := by
  unfold thingB at h
  split at h
  · cases h
  · split at h
    · cases h
    · split at h
      · rename_i h1 h2 h3
        have := widB_iff.1 h3
        exact ⟨by omega, by omega, this.1, this.2, h⟩
      · cases h
end Go.Proofs.Ytpnblgbkjbpeoaa.Q

namespace Go.Proofs.Ytpnblgbkjbpeoaa.P
open Go.RowKit Go.Proofs.YtpnblgbkjbpeoaaW.PrintWords Go.Proofs.YtpnblgbkjbpeoaaW.PrintLast Go.Proofs.YtpnblgbkjbpeoaaW.PrintMore
attribute [local go_sem] max2_int min2_int max_two min_two max_three min_three max_four min_four   -- for this text's walks alone
set_option linter.unusedVariables false
set_option linter.unusedSimpArgs false
/-! ### impl_Sum: function 16 -/
end Go.Proofs.Ytpnblgbkjbpeoaa.P

/- Plain laws of sums and of things' forms: the program's and the reference's come to one function each. -/
namespace Go.Proofs.Ytpnblgbkjbpeoaa.Q
open Go.RowKit Go.Proofs.Ytpnblgbkjbpeoaa.P Go.Proofs.YtpnblgbkjbpeoaaW.PrintWords Go.Proofs.YtpnblgbkjbpeoaaW.PrintLast Go.Proofs.YtpnblgbkjbpeoaaW.PrintMore
set_option linter.unusedVariables false

/-! ### Sum -/
def hstep (h b : Int) : Int := IntKind.u64.wrap ((Go.bits .xor .u64 h (IntKind.u64.wrap b)) * 1099511628211)
def hashFrom (s : ByteArray) : Nat → Nat → Int → Int
  | 0, _, h => h
  | n + 1, i, h => hashFrom s n (i + 1) (hstep h (bt s (i : Int)))
theorem u64_wrap (x : Int) : IntKind.u64.wrap x = x % 18446744073709551616 := by
  simp [IntKind.wrap, IntKind.bits, IntKind.signed]
theorem hstep_range (h b : Int) : 0 ≤ hstep h b ∧ hstep h b < 18446744073709551616 := by
  unfold hstep; rw [u64_wrap]; omega
/-- The last bytes of a number, the highest first. -/
def dig (x : Int) : Nat → List Int
  | 0 => []
  | w + 1 => dig (x / 256) w ++ [x % 256]
theorem dig_length (w : Nat) : ∀ x, (dig x w).length = w := by
  induction w with
  | zero => intro x; rfl
  | succ w ih => intro x; simp [dig, ih]
def hash (s : ByteArray) : Int := hashFrom s s.size 0 14695981039346656037
def sumB (s : ByteArray) (w : Int) : ByteArray := if widB w = true then strOfNums (dig (hash s) w.toNat) else ⟨#[]⟩
theorem sSum1 (w : Int) (hw : 1 ≤ w ∧ w ≤ 8) (n : Nat) : ∀ (i : Int) (x : Int) (l : List Int), (w - i).toNat = n → 0 ≤ i → i ≤ w → l.length ≤ i.toNat → 0 ≤ x → x < 18446744073709551616 →
    Ev (fun k => spec_Sum.l1 k w x l i) (strOfNums (dig x n ++ l)) := by
  induction n with
  | zero =>
    intro i x l hn h0 h1 hl hx hx2
    refine Ev.step (f := fun _ => some (strOfNums l)) (fun k => ?_) (Ev.now _)
    simp only [spec_Sum.l1]; rw [if_neg (by omega)]
  | succ n ih =>
    intro i x l hn h0 h1 hl hx hx2
    have e1 : Int.tmod x 256 = x % 256 := Int.tmod_eq_emod_of_nonneg hx
    have e2 : Int.tdiv x 256 = x / 256 := Int.tdiv_eq_ediv_of_nonneg hx
    have e3 : IntKind.u64.wrap (x / 256) = x / 256 := by rw [u64_wrap]; omega
    have e4 : wrap64 (i + 1) = i + 1 := by unfold wrap64; omega
    have e5 : x % 256 % 256 = x % 256 := by omega
    have := ih (i + 1) (x / 256) ([x % 256] ++ l) (by omega) (by omega) (by omega) (by simp; omega) (by omega) (by omega)
    have e : dig x (n + 1) ++ l = dig (x / 256) n ++ ([x % 256] ++ l) := by simp [dig]
    rw [e]
    refine Ev.step (fun k => ?_) this
    simp only [spec_Sum.l1]; rw [if_pos (by omega)]; simp only [Option.bind_some]; rw [e1, e2, e3, e4, e5, if_pos (by simp; omega)]
theorem sSum0 (s : ByteArray) (w : Int) (hw : 1 ≤ w ∧ w ≤ 8) (hs : s.size ≤ 140737488351232) (n : Nat) : ∀ (i : Nat) (h : Int), s.size - i = n → i ≤ s.size → 0 ≤ h → h < 18446744073709551616 →
    Ev (fun k => spec_Sum.l0 k s w h (i : Int)) (strOfNums (dig (hashFrom s n i h) w.toNat)) := by
  induction n with
  | zero =>
    intro i h hn hi h0 h1
    have := sSum1 w hw w.toNat 0 h [] (by omega) (by omega) (by omega) (by simp) h0 h1
    rw [List.append_nil] at this
    refine Ev.step (fun k => ?_) this
    simp only [spec_Sum.l0]; rw [if_neg (by omega)]
  | succ n ih =>
    intro i h hn hi h0 h1
    have hr := hstep_range h (bt s (i : Int))
    refine Ev.step (fun k => ?_) (ih (i + 1) (hstep h (bt s (i : Int))) (by omega) (by omega) hr.1 hr.2)
    simp only [spec_Sum.l0]; rw [if_pos (by omega), if_pos (by omega), wsucc (show i < s.size by omega) hs]; rfl
theorem sSum_ev (s : ByteArray) (w : Int) (hs : s.size ≤ 140737488351232) : Ev (fun k => spec_Sum.f k s w) (sumB s w) := by
  unfold sumB
  by_cases c : widB w = true
  · rw [if_pos c]
    refine Ev.congr (fun k => ?_) (sSum0 s w (widB_iff.1 c) hs s.size 0 14695981039346656037 (by omega) (by omega) (by omega) (by omega))
    unfold spec_Sum.f; rw [l1W, Option.bind_some, if_pos c]; rfl
  · rw [if_neg c]
    refine Ev.congr (fun k => ?_) (Ev.now _)
    unfold spec_Sum.f; rw [l1W, Option.bind_some, if_neg c]

/-! ### forms -/
theorem son_append (xs ys : List Int) : strOfNums (xs ++ ys) = strOfNums xs ++ strOfNums ys := by
  apply ByteArray.ext; rw [ByteArray.data_append]; simp [strOfNums]
theorem son_bytes (s : ByteArray) : strOfNums (bytesOf s) = s := by
  apply ByteArray.ext; apply Array.ext'; simp [strOfNums, bytesOf, Function.comp_def]
theorem son_size (xs : List Int) : (strOfNums xs).size = xs.length := by simp [strOfNums, ByteArray.size]
theorem bytes_length (s : ByteArray) : (bytesOf s).length = s.size := by unfold bytesOf; rw [List.length_map]; exact Array.length_toList
def catB : List ByteArray → ByteArray
  | [] => ⟨#[]⟩
  | x :: l => x ++ catB l
def headB (n : Nat) : ByteArray := strOfNums [(n : Int) % 256]
def formB (t : ByteArray) (l : List ByteArray) : ByteArray := headB l.length ++ (catB l ++ t)
theorem ba_assoc (a b c : ByteArray) : a ++ b ++ c = a ++ (b ++ c) := by apply ByteArray.ext; simp [ByteArray.data_append, Array.append_assoc]
theorem ba_nil (a : ByteArray) : (⟨#[]⟩ : ByteArray) ++ a = a := by apply ByteArray.ext; simp [ByteArray.data_append]
def szAll (l : List ByteArray) : Nat := (l.map ByteArray.size).sum
theorem catB_size (l : List ByteArray) : (catB l).size = szAll l := by
  induction l with
  | nil => rfl
  | cons x l ih => simp [catB, szAll, ByteArray.size_append, ih] at *
theorem szAll_drop (l : List ByteArray) (i : Nat) (h : i < l.length) : szAll (l.drop i) = (rdOf ByteArray.empty l (i : Int)).size + szAll (l.drop (i + 1)) := by
  rw [rd_drop ByteArray.empty l i h]; simp [szAll]
theorem iForm_loop (t : ByteArray) (l : List ByteArray) (hl : l.length ≤ 140737488351232) (n : Nat) : ∀ (i : Nat) (x : ByteArray), l.length - i = n → i ≤ l.length → x.size + szAll (l.drop i) + t.size ≤ 9223372036854775807 →
    Ev (fun k => impl_form.l0 k x l (l.length : Int) (i : Int) t l) (x ++ (catB (l.drop i) ++ t)) := by
  induction n with
  | zero =>
    intro i x hn hi hb
    rw [List.drop_of_length_le (by omega)] at hb ⊢
    simp only [catB, ba_nil]
    refine Ev.step (f := fun _ => some (x ++ t)) (fun k => ?_) (Ev.now _)
    simp only [impl_form.l0]; rw [if_neg (by omega), if_pos (by simp [szAll] at hb; omega)]
  | succ n ih =>
    intro i x hn hi hb
    have hlt : i < l.length := by omega
    rw [szAll_drop l i hlt] at hb
    have := ih (i + 1) (x ++ rdOf ByteArray.empty l (i : Int)) (by omega) (by omega) (by rw [ByteArray.size_append]; omega)
    have e : x ++ (catB (l.drop i) ++ t) = (x ++ rdOf ByteArray.empty l (i : Int)) ++ (catB (l.drop (i + 1)) ++ t) := by
      rw [rd_drop ByteArray.empty l i hlt]; simp only [catB, ba_assoc]
    rw [e]
    refine Ev.step (fun k => ?_) this
    simp only [impl_form.l0]; rw [if_pos (by omega), if_pos (by omega), if_pos (by omega), if_pos (by omega), wsucc hlt hl]
theorem iForm_ev (t : ByteArray) (l : List ByteArray) (hl : l.length ≤ 140737488351232) (hb : 1 + szAll l + t.size ≤ 9223372036854775807) : Ev (fun k => impl_form.f k t l) (formB t l) := by
  have h1 : (headB l.length).size = 1 := by unfold headB; rw [son_size]; rfl
  have := iForm_loop t l hl (l.length - 0) 0 (headB l.length) rfl (by omega) (by rw [h1, List.drop_zero]; exact hb)
  rw [List.drop_zero] at this
  exact Ev.congr (fun k => by unfold impl_form.f; rfl) this
theorem sForm_loop (t : ByteArray) (l : List ByteArray) (hl : l.length ≤ 140737488351232) (n : Nat) : ∀ (i : Nat) (x : List Int), l.length - i = n → i ≤ l.length → x.length + szAll (l.drop i) + t.size < 140737488355328 →
    Ev (fun k => spec_FormThing.l0 k x (i : Int) t l) (strOfNums x ++ (catB (l.drop i) ++ t)) := by
  induction n with
  | zero =>
    intro i x hn hi hb
    rw [List.drop_of_length_le (by omega)] at hb ⊢
    simp only [catB, ba_nil]
    refine Ev.step (f := fun _ => some (strOfNums (x ++ bytesOf t))) (fun k => ?_) (by rw [son_append, son_bytes]; exact Ev.now _)
    simp only [spec_FormThing.l0]; rw [if_neg (by omega), if_pos (by simp [szAll] at hb; omega)]
  | succ n ih =>
    intro i x hn hi hb
    have hlt : i < l.length := by omega
    rw [szAll_drop l i hlt] at hb
    have := ih (i + 1) (x ++ bytesOf (rdOf ByteArray.empty l (i : Int))) (by omega) (by omega) (by rw [List.length_append, bytes_length]; omega)
    have e : strOfNums x ++ (catB (l.drop i) ++ t) = strOfNums (x ++ bytesOf (rdOf ByteArray.empty l (i : Int))) ++ (catB (l.drop (i + 1)) ++ t) := by
      rw [rd_drop ByteArray.empty l i hlt, son_append, son_bytes]; simp only [catB, ba_assoc]
    rw [e]
    refine Ev.step (fun k => ?_) this
    simp only [spec_FormThing.l0]; rw [if_pos (by omega), if_pos (by omega), if_pos (by omega), wsucc hlt hl]
/-- What is valid is small. -/
theorem refs_sizes (w : Int) (l : List ByteArray) (n : Nat) : ∀ i, l.length - i = n → i ≤ l.length → refsFrom w l n i = true → (szAll (l.drop i) : Int) = (n : Int) * w := by
  induction n with
  | zero => intro i hn hi h; rw [List.drop_of_length_le (by omega)]; simp [szAll]
  | succ n ih =>
    intro i hn hi h
    unfold refsFrom at h
    have hlt : i < l.length := by omega
    rw [szAll_drop l i hlt]
    split at h
    · rename_i c1
      have hr : refsFrom w l n (i + 1) = true := by
        split at h
        · split at h
          · exact h
          · cases h
        · exact h
      have := ih (i + 1) (by omega) (by omega) hr
      have e : ((n + 1 : Nat) : Int) * w = w + (n : Int) * w := by rw [Int.natCast_add, Int.add_mul]; omega
      rw [e, Int.natCast_add, this, c1]
    · cases h
theorem thing_small {t : ByteArray} {l : List ByteArray} {w : Int} (h : thingB t l w = true) : szAll l ≤ 240 ∧ t.size ≤ 2000 ∧ l.length ≤ 30 := by
  obtain ⟨h1, h2, h3, h4, h5⟩ := thingB_le h
  have := refs_sizes w l l.length 0 (by omega) (by omega) h5
  rw [List.drop_zero] at this
  have : (l.length : Int) * w ≤ 30 * 8 := Int.mul_le_mul (by omega) h4 (by omega) (by omega)
  omega
def formT (t : ByteArray) (l : List ByteArray) (w : Int) : ByteArray := if thingB t l w = true then formB t l else ⟨#[]⟩
theorem sFormT_ev (t : ByteArray) (l : List ByteArray) (w : Int) (hl : l.length ≤ 140737488351232) : Ev (fun k => spec_FormThing.f k t l w) (formT t l w) := by
  refine Ev.bind (sOk_ev t l w hl) ?_
  unfold formT
  by_cases c : thingB t l w = true
  · have hs := thing_small c
    rw [if_pos c]
    have := sForm_loop t l hl (l.length - 0) 0 [(l.length : Int) % 256] rfl (by omega) (by rw [List.drop_zero]; simp; omega)
    rw [List.drop_zero] at this
    exact Ev.congr (fun k => by rw [if_pos c]; rfl) this
  · rw [if_neg c]
    exact Ev.congr (fun k => by rw [if_neg c]) (Ev.now _)
theorem iFormT_ev (t : ByteArray) (l : List ByteArray) (w : Int) (hl : l.length ≤ 140737488351232) : Ev (fun k => impl_FormThing.f k t l w) (formT t l w) := by
  refine Ev.bind (iOk_ev t l w hl) ?_
  unfold formT
  by_cases c : thingB t l w = true
  · have hs := thing_small c
    rw [if_pos c]
    refine Ev.congr (g := _) (f := fun k => (impl_form.f k t l).bind fun x => some x) (fun k => by rw [if_pos c]) ?_
    exact Ev.bind (iForm_ev t l hl (by omega)) (Ev.now _)
  · rw [if_neg c]
    exact Ev.congr (fun k => by rw [if_neg c]) (Ev.now _)
end Go.Proofs.Ytpnblgbkjbpeoaa.Q

/- Plain laws of ReadThing: the program's and the reference's come to one function. -/
namespace Go.Proofs.Ytpnblgbkjbpeoaa.Q
open Go.RowKit Go.Proofs.Ytpnblgbkjbpeoaa.P Go.Proofs.YtpnblgbkjbpeoaaW.PrintWords Go.Proofs.YtpnblgbkjbpeoaaW.PrintLast Go.Proofs.YtpnblgbkjbpeoaaW.PrintMore
set_option linter.unusedVariables false

theorem dl (s : ByteArray) : s.data.toList.length = s.size := Array.length_toList
theorem get_data (s : ByteArray) (i : Nat) (h : i < s.data.toList.length) : s.get! i = s.data.toList[i] := by
  cases s with | mk a => 
  show a[i]! = a.toList[i]
  rw [getElem!_pos a i (by simpa using h)]; simp
theorem toList_data (s : ByteArray) : s.toList = s.data.toList := by
  have key : ∀ (n i : Nat) (r : List UInt8), s.size - i = n → i ≤ s.size → ByteArray.toList.loop s i r = r.reverse ++ s.data.toList.drop i := by
    intro n
    induction n with
    | zero =>
      intro i r hn hi
      unfold ByteArray.toList.loop
      rw [if_neg (by omega), List.drop_of_length_le (by rw [dl]; omega), List.append_nil]
    | succ n ih =>
      intro i r hn hi
      have hlt : i < s.size := by omega
      have hl : i < s.data.toList.length := by rw [dl]; exact hlt
      unfold ByteArray.toList.loop
      rw [if_pos hlt, ih (i + 1) _ (by omega) (by omega), List.drop_eq_getElem_cons hl, get_data s i hl, List.reverse_cons, List.append_assoc]; rfl
  have := key s.size 0 [] (by omega) (by omega)
  rw [List.drop_zero] at this
  exact this
theorem toList_nil {s : ByteArray} : s.toList = [] ↔ s.size = 0 := by
  rw [toList_data, ← dl s]
  exact List.length_eq_zero_iff.symm
theorem ext_size (s : ByteArray) (a : Nat) : (s.extract a s.size).size = s.size - a := by
  rw [ByteArray.size_extract]; omega
theorem ext_ext (s : ByteArray) (a b c : Nat) (h : a + c ≤ s.size) : (s.extract a s.size).extract b c = s.extract (a + b) (a + c) := by
  apply ByteArray.ext; simp only [ByteArray.data_extract, Array.extract_extract]; congr 1; omega
theorem ext_tail (s : ByteArray) (a b : Nat) (h : a + b ≤ s.size) : (s.extract a s.size).extract b (s.extract a s.size).size = s.extract (a + b) s.size := by
  rw [ext_size s a, ext_ext s a b (s.size - a) (by omega)]; congr 1; omega
/-- n pieces of W bytes, from place p on. -/
def pieces (s : ByteArray) (W : Nat) : Nat → Nat → List ByteArray
  | 0, _ => []
  | n + 1, p => s.extract p (p + W) :: pieces s W n (p + W)
def noT : ByteArray × List ByteArray × Bool := (⟨#[]⟩, [], false)
def endT (t : ByteArray) (l : List ByteArray) (w : Int) : ByteArray × List ByteArray × Bool := if thingB t l w = true then (t, l, true) else noT
def readT (s : ByteArray) (w : Int) : ByteArray × List ByteArray × Bool :=
  if widB w = true then (if s.size = 0 then noT else if (s.size : Int) < 1 + bt s 0 * w then noT else
    endT (s.extract (1 + (bt s 0).toNat * w.toNat) s.size) (pieces s w.toNat (bt s 0).toNat 1) w) else noT
theorem readT_le (s : ByteArray) (w : Int) : (readT s w).2.1.length ≤ 30 := by
  unfold readT
  split
  · split
    · exact Nat.zero_le _
    · split
      · exact Nat.zero_le _
      · unfold endT
        split
        · rename_i c; exact (thingB_le c).2.1
        · exact Nat.zero_le _
  · exact Nat.zero_le _
theorem pieces_length (s : ByteArray) (W n : Nat) : ∀ p, (pieces s W n p).length = n := by
  induction n with
  | zero => intro p; rfl
  | succ n ih => intro p; simp [pieces, ih]
theorem mul_le (i n W : Nat) (h : i ≤ n) (hn : n ≤ 255) (hW : W ≤ 8) : i * W ≤ n * W ∧ n * W ≤ 2040 := ⟨Nat.mul_le_mul_right W h, Nat.mul_le_mul hn hW⟩
theorem iRT_loop (s : ByteArray) (w : Int) (W : Nat) (hw : w = (W : Int)) (hW : 1 ≤ W ∧ W ≤ 8) (hs : s.size ≤ 140737488351232) (t : ByteArray) (n : Nat) : ∀ (p : Nat) (acc : List ByteArray), n ≤ 255 → acc.length + n ≤ 255 → p + n * W ≤ s.size →
    Ev (fun k => impl_ReadThing.l0 k (s.extract p s.size) w (n : Int) t acc) (endT (s.extract (p + n * W) s.size) (acc ++ pieces s W n p) w) := by
  induction n with
  | zero =>
    intro p acc hn ha hp
    simp only [Nat.zero_mul, Nat.add_zero, pieces, List.append_nil]
    refine Ev.step (f := fun k => (impl_thingOk.f k (s.extract p s.size) acc w).bind fun t' => if t' = true then some (s.extract p s.size, acc, true) else some ((⟨#[]⟩ : ByteArray), ([] : List ByteArray), false)) (fun k => ?_) ?_
    · simp only [impl_ReadThing.l0]; rw [if_neg (by omega)]
    · refine Ev.bind (iOk_ev _ _ _ (by omega)) ?_
      unfold endT
      split
      · rename_i c; exact Ev.now _
      · rename_i c; exact Ev.now _
  | succ n ih =>
    intro p acc hn ha hp
    have e : (n + 1) * W = n * W + W := Nat.succ_mul n W
    have := ih (p + W) (acc ++ [s.extract p (p + W)]) (by omega) (by simp; omega) (by omega)
    have e2 : p + W + n * W = p + (n + 1) * W := by omega
    rw [e2] at this
    have e3 : (acc ++ [s.extract p (p + W)]) ++ pieces s W n (p + W) = acc ++ pieces s W (n + 1) p := by simp [pieces]
    rw [e3] at this
    have e4 : wrap64 (((n + 1 : Nat) : Int) - 1) = (n : Int) := by unfold wrap64; omega
    have e5 : (s.extract p s.size).size = s.size - p := ext_size s p
    have e6 : (s.extract p s.size).extract 0 w.toNat = s.extract p (p + W) := by rw [hw, Int.toNat_natCast, ext_ext s p 0 W (by omega)]; rfl
    have e7 : (s.extract p s.size).extract w.toNat (s.extract p s.size).size = s.extract (p + W) s.size := by rw [hw, Int.toNat_natCast, ext_tail s p W (by omega)]
    refine Ev.step (fun k => ?_) this
    simp only [impl_ReadThing.l0]; rw [if_pos (by omega), if_pos (by omega), if_pos (by omega), if_pos (by omega), e4, e6, e7]
theorem bt_nat (s : ByteArray) (i : Int) : ∃ n : Nat, bt s i = (n : Int) ∧ n ≤ 255 := ⟨(bt s i).toNat, by have := bt_range s i; omega⟩
theorem w64_small {x : Int} (h0 : 0 ≤ x) (h : x ≤ 9223372036854775807) : wrap64 x = x := by unfold wrap64; omega
theorem iRT_ev (s : ByteArray) (w : Int) (hs : s.size ≤ 140737488351232) : Ev (fun k => impl_ReadThing.f k s w) (readT s w) := by
  have hT : Ev (fun k => impl_ReadThing.j0 k s w true) noT := by
    refine Ev.step (f := fun _ => some noT) (fun k => ?_) (Ev.now _)
    simp only [impl_ReadThing.j0]; rfl
  unfold readT
  by_cases c : widB w = true
  · rw [if_pos c]
    by_cases c1 : s.size = 0
    · rw [if_pos c1]
      exact Ev.congr (fun k => by unfold impl_ReadThing.f; rw [wOk, Option.bind_some, if_pos c, if_pos (toList_nil.2 c1)]) hT
    · rw [if_neg c1]
      obtain ⟨W, hW⟩ : ∃ W : Nat, w = (W : Int) := ⟨w.toNat, by have := widB_iff.1 c; omega⟩
      have hWr : 1 ≤ W ∧ W ≤ 8 := by have := widB_iff.1 c; omega
      obtain ⟨n, hn, hn5⟩ := bt_nat s 0
      have hm := mul_le n n W (Nat.le_refl _) hn5 hWr.2
      have hp : (n : Int) * w = ((n * W : Nat) : Int) := by rw [hW, Int.natCast_mul]
      have e1 : wrap64 (wrap64 (bt s 0) * w) = ((n * W : Nat) : Int) := by rw [hn, w64_small (x := (n : Int)) (by omega) (by omega), hp, w64_small (by omega) (by omega)]
      have e2 : wrap64 (1 + wrap64 (wrap64 (bt s 0) * w)) = 1 + ((n * W : Nat) : Int) := by rw [e1, w64_small (by omega) (by omega)]
      have e3 : bt s 0 * w = ((n * W : Nat) : Int) := by rw [hn, hp]
      have hf : ∀ k, impl_ReadThing.f k s w = impl_ReadThing.j0 k s w (decide ((s.size : Int) < 1 + ((n * W : Nat) : Int))) := fun k => by
        unfold impl_ReadThing.f; rw [wOk, Option.bind_some, if_pos c, if_neg (fun h => c1 (toList_nil.1 h)), if_pos (by omega), e2]
      rw [e3]
      by_cases c2 : (s.size : Int) < 1 + ((n * W : Nat) : Int)
      · rw [if_pos c2]
        exact Ev.congr (fun k => by rw [hf, decide_eq_true c2]) hT
      · rw [if_neg c2]
        have := iRT_loop s w W hW hWr hs (⟨#[]⟩ : ByteArray) n 1 [] hn5 (by simpa using hn5) (by omega)
        have e5 : (bt s 0).toNat = n := by omega
        have e6 : w.toNat = W := by omega
        rw [e5, e6]
        rw [List.nil_append] at this
        refine Ev.congr (g := _) (f := fun k => impl_ReadThing.j0 k s w false) (fun k => by rw [hf, decide_eq_false c2]) (Ev.step (fun k => ?_) this)
        simp only [impl_ReadThing.j0]; rw [if_neg (by simp), if_pos (by omega), if_pos (by omega), hn, w64_small (by omega) (by omega)]
  · rw [if_neg c]
    exact Ev.congr (fun k => by unfold impl_ReadThing.f; rw [wOk, Option.bind_some, if_neg c]) hT
theorem sRT_loop (s : ByteArray) (w : Int) (W : Nat) (hw : w = (W : Int)) (hW : 1 ≤ W ∧ W ≤ 8) (hs : s.size ≤ 140737488351232) (t : ByteArray) (N : Nat) (hN : N ≤ 255) (hp : 1 + N * W ≤ s.size) (n : Nat) : ∀ (i : Nat) (acc : List ByteArray), i + n = N → acc.length = i →
    Ev (fun k => spec_ReadThing.l0 k s w (N : Int) (i : Int) t acc) (endT t (acc ++ pieces s W n (1 + i * W)) w) := by
  induction n with
  | zero =>
    intro i acc hn ha
    simp only [pieces, List.append_nil]
    refine Ev.step (f := fun k => (spec_l1ThingOk.f k t acc w).bind fun t' => if t' = true then some (t, acc, true) else some ((⟨#[]⟩ : ByteArray), ([] : List ByteArray), false)) (fun k => ?_) ?_
    · simp only [spec_ReadThing.l0]; rw [if_neg (by omega)]
    · refine Ev.bind (sOk_ev _ _ _ (by omega)) ?_
      unfold endT
      split
      · exact Ev.now _
      · exact Ev.now _
  | succ n ih =>
    intro i acc hn ha
    have e : (i + 1) * W = i * W + W := Nat.succ_mul i W
    have hm := mul_le (i + 1) N W (by omega) hN hW.2
    have := ih (i + 1) (acc ++ [s.extract (1 + i * W) (1 + i * W + W)]) (by omega) (by simp [ha])
    have e3 : (acc ++ [s.extract (1 + i * W) (1 + i * W + W)]) ++ pieces s W n (1 + (i + 1) * W) = acc ++ pieces s W (n + 1) (1 + i * W) := by
      have e4 : 1 + (i + 1) * W = 1 + i * W + W := by omega
      rw [e4]; simp [pieces]
    rw [e3] at this
    have hp1 : (i : Int) * w = ((i * W : Nat) : Int) := by rw [hw, Int.natCast_mul]
    have e5 : wrap64 (1 + wrap64 ((i : Int) * w)) = ((1 + i * W : Nat) : Int) := by rw [hp1, w64_small (x := ((i * W : Nat) : Int)) (by omega) (by omega), w64_small (by omega) (by omega)]; omega
    have e6 : wrap64 (((1 + i * W : Nat) : Int) + w) = ((1 + i * W + W : Nat) : Int) := by rw [w64_small (by omega) (by omega)]; omega
    refine Ev.step (fun k => ?_) this
    simp only [spec_ReadThing.l0]; rw [if_pos (by omega), e5, e6, if_pos (by omega), if_pos (by omega), if_pos (by omega), if_pos (by omega), wsucc (show i < 255 by omega) (by omega), Int.toNat_natCast, Int.toNat_natCast]
theorem sRT_ev (s : ByteArray) (w : Int) (hs : s.size ≤ 140737488351232) : Ev (fun k => spec_ReadThing.f k s w) (readT s w) := by
  have hT : Ev (fun k => spec_ReadThing.j0 k s w true) noT := by
    refine Ev.step (f := fun _ => some noT) (fun k => ?_) (Ev.now _)
    simp only [spec_ReadThing.j0]; rfl
  unfold readT
  by_cases c : widB w = true
  · rw [if_pos c]
    by_cases c1 : s.size = 0
    · rw [if_pos c1]
      exact Ev.congr (fun k => by unfold spec_ReadThing.f; rw [l1W, Option.bind_some, if_pos c, if_pos (by omega)]) hT
    · rw [if_neg c1]
      obtain ⟨W, hW⟩ : ∃ W : Nat, w = (W : Int) := ⟨w.toNat, by have := widB_iff.1 c; omega⟩
      have hWr : 1 ≤ W ∧ W ≤ 8 := by have := widB_iff.1 c; omega
      obtain ⟨n, hn, hn5⟩ := bt_nat s 0
      have hm := mul_le n n W (Nat.le_refl _) hn5 hWr.2
      have hp : (n : Int) * w = ((n * W : Nat) : Int) := by rw [hW, Int.natCast_mul]
      have e1 : wrap64 (wrap64 (bt s 0) * w) = ((n * W : Nat) : Int) := by rw [hn, w64_small (x := (n : Int)) (by omega) (by omega), hp, w64_small (by omega) (by omega)]
      have e2 : wrap64 (1 + wrap64 (wrap64 (bt s 0) * w)) = ((1 + n * W : Nat) : Int) := by rw [e1, w64_small (by omega) (by omega)]; omega
      have e3 : bt s 0 * w = ((n * W : Nat) : Int) := by rw [hn, hp]
      have hf : ∀ k, spec_ReadThing.f k s w = spec_ReadThing.j0 k s w (decide ((s.size : Int) < ((1 + n * W : Nat) : Int))) := fun k => by
        unfold spec_ReadThing.f; rw [l1W, Option.bind_some, if_pos c, if_neg (by omega), if_pos (by omega), e2]
      rw [e3]
      by_cases c2 : (s.size : Int) < 1 + ((n * W : Nat) : Int)
      · rw [if_pos c2]
        exact Ev.congr (fun k => by rw [hf, decide_eq_true (by omega)]) hT
      · rw [if_neg c2]
        have := sRT_loop s w W hW hWr hs (s.extract (1 + n * W) s.size) n hn5 (by omega) n 0 [] (by omega) rfl
        have e5 : (bt s 0).toNat = n := by omega
        have e6 : w.toNat = W := by omega
        rw [e5, e6]
        simp only [Nat.zero_mul, Nat.add_zero, List.nil_append] at this
        refine Ev.congr (g := _) (f := fun k => spec_ReadThing.j0 k s w false) (fun k => by rw [hf, decide_eq_false (by omega)]) (Ev.step (fun k => ?_) this)
        simp only [spec_ReadThing.j0]; rw [if_neg (by simp), if_pos (by omega), e2, if_pos (by omega), if_pos (by omega), hn, w64_small (by omega) (by omega), Int.toNat_natCast]; rfl
  · rw [if_neg c]
    exact Ev.congr (fun k => by unfold spec_ReadThing.f; rw [l1W, Option.bind_some, if_neg c]) hT
end Go.Proofs.Ytpnblgbkjbpeoaa.Q

/- Plain laws of entries: valid, and their forms: the program's and the reference's come to one function. -/
namespace Go.Proofs.Ytpnblgbkjbpeoaa.Q
open Go.RowKit Go.Proofs.Ytpnblgbkjbpeoaa.P Go.Proofs.YtpnblgbkjbpeoaaW.PrintWords Go.Proofs.YtpnblgbkjbpeoaaW.PrintLast Go.Proofs.YtpnblgbkjbpeoaaW.PrintMore
set_option linter.unusedVariables false

theorem Ev.ite' {α : Type} {c : Prop} [Decidable c] {g f : Nat → Option α} {r : α} (h1 : c → Ev g r) (h2 : ¬ c → Ev f r) : Ev (fun k => if c then g k else f k) r := by
  by_cases h : c
  · exact Ev.congr (fun k => if_pos h) (h1 h)
  · exact Ev.congr (fun k => if_neg h) (h2 h)
theorem Ev.ret {α : Type} {a r : α} (h : a = r) : Ev (fun _ => some a) r := by rw [h]; exact Ev.now r
theorem Ev.pos {α : Type} {c : Prop} [Decidable c] {g f : Nat → Option α} {r : α} (h : c) (e : Ev g r) : Ev (fun k => if c then g k else f k) r := Ev.congr (fun _ => if_pos h) e
theorem Ev.neg {α : Type} {c : Prop} [Decidable c] {g f : Nat → Option α} {r : α} (h : ¬ c) (e : Ev f r) : Ev (fun k => if c then g k else f k) r := Ev.congr (fun _ => if_neg h) e
/-! ### names -/
def nameFrom (s : ByteArray) : Nat → Nat → Bool
  | 0, _ => decide (1 ≤ s.size ∧ s.size ≤ 40)
  | n + 1, i => if bt s (i : Int) < 33 then false else if bt s (i : Int) > 126 then false else nameFrom s n (i + 1)
def nameB (s : ByteArray) : Bool := nameFrom s s.size 0
theorem nameEnd (s : ByteArray) : (if (s.size : Int) ≥ 1 then some (decide ((s.size : Int) ≤ 40)) else some false) = some (decide (1 ≤ s.size ∧ s.size ≤ 40)) := by
  by_cases h : (s.size : Int) ≥ 1
  · rw [if_pos h]; congr 1; rw [Bool.eq_iff_iff, decide_eq_true_eq, decide_eq_true_eq]; omega
  · rw [if_neg h]; congr 1; symm; rw [decide_eq_false_iff_not]; omega
theorem sName_loop (s : ByteArray) (hs : s.size ≤ 140737488351232) (n : Nat) : ∀ (i : Nat), s.size - i = n → i ≤ s.size → Ev (fun k => spec_l3NameOk.l0 k s (i : Int)) (nameFrom s n i) := by
  induction n with
  | zero =>
    intro i hn hi
    refine Ev.step (f := fun _ => some (nameFrom s 0 i)) (fun k => ?_) (Ev.now _)
    simp only [spec_l3NameOk.l0]; rw [if_neg (by omega), nameEnd]; rfl
  | succ n ih =>
    intro i hn hi
    have hlt : i < s.size := by omega
    refine Ev.step (fun k => by simp only [spec_l3NameOk.l0]; rw [if_pos (by omega), if_pos (by omega), wsucc hlt hs]) ?_
    unfold nameFrom
    refine Ev.ite' (fun h => ?_) (fun h => ?_)
    · rw [if_pos h]; exact Ev.now _
    · rw [if_neg h]
      refine Ev.ite' (fun h2 => ?_) (fun h2 => ?_)
      · rw [if_pos h2]; exact Ev.now _
      · rw [if_neg h2]; exact ih (i + 1) (by omega) (by omega)
theorem sName_ev (s : ByteArray) (hs : s.size ≤ 140737488351232) : Ev (fun k => spec_l3NameOk.f k s) (nameB s) :=
  Ev.congr (fun k => by unfold spec_l3NameOk.f; rfl) (sName_loop s hs s.size 0 (by omega) (by omega))
theorem iName_loop (s : ByteArray) (hs : s.size ≤ 140737488351232) (n : Nat) : ∀ (i : Nat), s.size - i = n → i ≤ s.size → Ev (fun k => impl_nameOk.l0 k s (s.size : Int) (i : Int)) (nameFrom s n i) := by
  induction n with
  | zero =>
    intro i hn hi
    refine Ev.step (f := fun _ => some (nameFrom s 0 i)) (fun k => ?_) (Ev.now _)
    simp only [impl_nameOk.l0]; rw [if_neg (by omega), nameEnd]; rfl
  | succ n ih =>
    intro i hn hi
    have hlt : i < s.size := by omega
    refine Ev.step (fun k => by simp only [impl_nameOk.l0]; rw [if_pos (by omega), if_pos (by omega), if_pos (by omega), wsucc hlt hs]) ?_
    unfold nameFrom
    refine Ev.ite' (fun h => ?_) (fun h => ?_)
    · rw [if_pos h]; exact Ev.now _
    · rw [if_neg h]
      refine Ev.ite' (fun h2 => ?_) (fun h2 => ?_)
      · rw [if_pos h2]; exact Ev.now _
      · rw [if_neg h2]; exact ih (i + 1) (by omega) (by omega)
theorem iName_ev (s : ByteArray) (hs : s.size ≤ 140737488351232) : Ev (fun k => impl_nameOk.f k s) (nameB s) :=
  Ev.congr (fun k => by unfold impl_nameOk.f; rfl) (iName_loop s hs s.size 0 (by omega) (by omega))
/-! ### valid entries -/
def uS (k : Int) : Bool := if k = 2 then true else if k = 4 then true else k == 7
def uN (k : Int) : Bool := if k = 2 then true else k == 3
def numB (k n : Int) : Bool := if k = 1 ∨ k = 4 ∨ k = 6 then decide (1 ≤ n ∧ n ≤ 100000) else if k = 5 then decide (1 ≤ n ∧ n ≤ 1000000000) else n == 0
def sumOkB (k : Int) (s : ByteArray) (w : Int) : Bool := if uS k = true then decide ((s.size : Int) = w) else decide (s.size = 0)
def nmOkB (k : Int) (s : ByteArray) : Bool := if uN k = true then nameB s else decide (s.size = 0)
def thOkB (b : Bool) (t : ByteArray) (l : List ByteArray) (w : Int) : Bool := if b = true then thingB t l w else decide (t.size = 0 ∧ l.length = 0)
def entB (k : Int) (s n : ByteArray) (m : Int) (t : ByteArray) (l : List ByteArray) (w : Int) : Bool :=
  if widB w = true then (if 1 ≤ k ∧ k ≤ 7 then (if sumOkB k s w = true then (if numB k m = true then (if nmOkB k n = true then thOkB (k == 1) t l w else false) else false) else false) else false) else false
theorem nil_b {s : ByteArray} : (s.toList != ([] : List UInt8)) = !decide (s.size = 0) := by
  by_cases h : s.size = 0
  · rw [toList_nil.2 h, decide_eq_true h]; rfl
  · have h2 : s.toList ≠ [] := fun e => h (toList_nil.1 e)
    rw [decide_eq_false h]; simpa using h2
theorem endB (t : ByteArray) (l : List ByteArray) : (if t.toList = ([] : List UInt8) then some ((l.length : Int) == 0) else some false) = some (decide (t.size = 0 ∧ l.length = 0)) := by
  by_cases h : t.size = 0
  · rw [if_pos (toList_nil.2 h)]; congr 1; rw [Bool.eq_iff_iff]; simp [h]
  · rw [if_neg (fun e => h (toList_nil.1 e))]; congr 1; simp [h]
section
theorem sOk2 (w : Int) (b x : Bool) (a0 : Int) (a1 a2 : ByteArray) (a3 : Int) (t : ByteArray) (l : List ByteArray) (hl : l.length ≤ 140737488351232) :
    Ev (fun k => spec_l3Ok.j2 k w b x a0 a1 a2 a3 t l) (if x = true then false else thOkB b t l w) := by
  refine Ev.step (fun k => by simp only [spec_l3Ok.j2]; rfl) ?_
  refine Ev.ite' (fun h => by rw [if_pos h]; exact Ev.now _) (fun h => ?_)
  rw [if_neg h]
  unfold thOkB
  refine Ev.ite' (fun h2 => ?_) (fun h2 => ?_)
  · rw [if_pos h2]; exact Ev.bind (sOk_ev t l w hl) (Ev.now _)
  · rw [if_neg h2]; exact Ev.congr (fun k => endB t l) (Ev.now _)
theorem sOk1 (w : Int) (c b x : Bool) (a0 : Int) (a1 a2 : ByteArray) (a3 : Int) (t : ByteArray) (l : List ByteArray) (hl : l.length ≤ 140737488351232) (h2 : a2.size ≤ 140737488351232) :
    Ev (fun k => spec_l3Ok.j1 k w c b x a0 a1 a2 a3 t l) (if x = true then false else if (if c = true then nameB a2 else decide (a2.size = 0)) = true then thOkB b t l w else false) := by
  refine Ev.step (fun k => by simp only [spec_l3Ok.j1]; rfl) ?_
  refine Ev.ite' (fun h => by rw [if_pos h]; exact Ev.now _) (fun h => ?_)
  rw [if_neg h]
  refine Ev.ite' (fun hc => ?_) (fun hc => ?_)
  · rw [if_pos hc]
    refine Ev.bind (sName_ev a2 h2) (Ev.ite' (fun hn => ?_) (fun hn => ?_))
    · rw [if_pos hn]; exact sOk2 w b false a0 a1 a2 a3 t l hl
    · rw [if_neg hn]; exact sOk2 w b true a0 a1 a2 a3 t l hl
  · rw [if_neg hc, nil_b]
    have := sOk2 w b (!decide (a2.size = 0)) a0 a1 a2 a3 t l hl
    cases hd : decide (a2.size = 0) <;> rw [hd] at this <;> exact this
theorem sNum (k m : Int) : ∃ a b c d, spec_l3Uses.f k = some (a, b, c, d) ∧ (1 ≤ k → k ≤ 7 → a = uS k ∧ b = uN k ∧ d = (k == 1) ∧ spec_l3NumberOk.f m c = some (numB k m)) ∧ ∃ q, spec_l3NumberOk.f m c = some q := by
  have hq : ∀ c, ∃ q, spec_l3NumberOk.f m c = some q := fun c => by unfold spec_l3NumberOk.f; repeat (first | exact ⟨_, rfl⟩ | split)
  have e1 : (if m ≥ 1 then some (decide (m ≤ 100000)) else some false) = some (decide (1 ≤ m ∧ m ≤ 100000)) := by
    by_cases h : m ≥ 1
    · rw [if_pos h]; congr 1; rw [Bool.eq_iff_iff, decide_eq_true_eq, decide_eq_true_eq]; omega
    · rw [if_neg h]; congr 1; symm; rw [decide_eq_false_iff_not]; omega
  have e2 : (if m ≥ 1 then some (decide (m ≤ 1000000000)) else some false) = some (decide (1 ≤ m ∧ m ≤ 1000000000)) := by
    by_cases h : m ≥ 1
    · rw [if_pos h]; congr 1; rw [Bool.eq_iff_iff, decide_eq_true_eq, decide_eq_true_eq]; omega
    · rw [if_neg h]; congr 1; symm; rw [decide_eq_false_iff_not]; omega
  unfold spec_l3Uses.f
  by_cases h1 : k = 1
  · subst h1; exact ⟨_, _, _, _, rfl, fun _ _ => ⟨rfl, rfl, rfl, by unfold spec_l3NumberOk.f numB; rw [if_pos rfl, e1, if_pos (.inl rfl)]⟩, hq _⟩
  by_cases h2 : k = 2
  · subst h2; exact ⟨_, _, _, _, rfl, fun _ _ => ⟨rfl, rfl, rfl, by unfold spec_l3NumberOk.f numB; rw [if_neg (by omega), if_neg (by omega), if_neg (by omega), if_neg (by omega)]⟩, hq _⟩
  by_cases h3 : k = 3
  · subst h3; exact ⟨_, _, _, _, rfl, fun _ _ => ⟨rfl, rfl, rfl, by unfold spec_l3NumberOk.f numB; rw [if_neg (by omega), if_neg (by omega), if_neg (by omega), if_neg (by omega)]⟩, hq _⟩
  by_cases h4 : k = 4
  · subst h4; exact ⟨_, _, _, _, rfl, fun _ _ => ⟨rfl, rfl, rfl, by unfold spec_l3NumberOk.f numB; rw [if_pos rfl, e1, if_pos (by omega)]⟩, hq _⟩
  by_cases h5 : k = 5
  · subst h5; exact ⟨_, _, _, _, rfl, fun _ _ => ⟨rfl, rfl, rfl, by unfold spec_l3NumberOk.f numB; rw [if_neg (by omega), if_pos rfl, e2, if_neg (by omega), if_pos rfl]⟩, hq _⟩
  by_cases h6 : k = 6
  · subst h6; exact ⟨_, _, _, _, rfl, fun _ _ => ⟨rfl, rfl, rfl, by unfold spec_l3NumberOk.f numB; rw [if_pos rfl, e1, if_pos (by omega)]⟩, hq _⟩
  by_cases h7 : k = 7
  · subst h7; exact ⟨_, _, _, _, rfl, fun _ _ => ⟨rfl, rfl, rfl, by unfold spec_l3NumberOk.f numB; rw [if_neg (by omega), if_neg (by omega), if_neg (by omega), if_neg (by omega)]⟩, hq _⟩
  rw [if_neg h1, if_neg h2, if_neg h3, if_neg h4, if_neg h5, if_neg h6, if_neg h7]
  exact ⟨_, _, _, _, rfl, fun _ _ => by omega, hq _⟩
theorem sOk0 (w : Int) (x : Bool) (a0 : Int) (a1 a2 : ByteArray) (a3 : Int) (t : ByteArray) (l : List ByteArray) (hl : l.length ≤ 140737488351232) (h2 : a2.size ≤ 140737488351232) (hx : x = false → 1 ≤ a0 ∧ a0 ≤ 7) :
    Ev (fun k => spec_l3Ok.j0 k w x a0 a1 a2 a3 t l) (if x = true then false else if sumOkB a0 a1 w = true then (if numB a0 a3 = true then (if nmOkB a0 a2 = true then thOkB (a0 == 1) t l w else false) else false) else false) := by
  refine Ev.step (fun k => by simp only [spec_l3Ok.j0]; rfl) ?_
  refine Ev.ite' (fun h => by rw [if_pos h]; exact Ev.now _) (fun h => ?_)
  rw [if_neg h]
  obtain ⟨a, b, c, d, hu, hk, _⟩ := sNum a0 a3
  have hr := hx (by simpa using h)
  obtain ⟨rfl, rfl, rfl, hn⟩ := hk hr.1 hr.2
  refine Ev.bind (g := fun _ => spec_l3Uses.f a0) (a := (uS a0, uN a0, c, (a0 == 1))) (Ev.congr (fun _ => hu) (Ev.now _)) ?_
  have key : ∀ y : Bool, Ev (fun k => spec_l3Ok.j1 k w (uN a0) (a0 == 1) y a0 a1 a2 a3 t l) (if y = true then false else if nmOkB a0 a2 = true then thOkB (a0 == 1) t l w else false) := fun y => sOk1 w _ _ y a0 a1 a2 a3 t l hl h2
  unfold sumOkB
  refine Ev.ite' (fun hs => ?_) (fun hs => ?_)
  · rw [if_pos hs]
    refine Ev.ite' (fun hz => ?_) (fun hz => ?_)
    · rw [if_pos (decide_eq_true hz)]
      refine Ev.bind (g := fun _ => spec_l3NumberOk.f a3 c) (Ev.congr (fun _ => hn) (Ev.now _)) ?_
      have := key (!numB a0 a3)
      cases hb : numB a0 a3 <;> rw [hb] at this <;> exact this
    · rw [if_neg (by simpa using hz)]; exact key true
  · rw [if_neg hs]
    refine Ev.ite' (fun hz => ?_) (fun hz => ?_)
    · rw [if_pos (decide_eq_true (toList_nil.1 hz))]
      refine Ev.bind (g := fun _ => spec_l3NumberOk.f a3 c) (Ev.congr (fun _ => hn) (Ev.now _)) ?_
      have := key (!numB a0 a3)
      cases hb : numB a0 a3 <;> rw [hb] at this <;> exact this
    · rw [if_neg (by simpa using fun e => hz (toList_nil.2 e))]; exact key true
theorem sEnt_ev (a0 : Int) (a1 a2 : ByteArray) (a3 : Int) (t : ByteArray) (l : List ByteArray) (w : Int) (hl : l.length ≤ 140737488351232) (h2 : a2.size ≤ 140737488351232) :
    Ev (fun k => spec_l3Ok.f k a0 a1 a2 a3 t l w) (entB a0 a1 a2 a3 t l w) := by
  unfold entB
  refine Ev.bind (g := fun _ => spec_l1Width.f w) (Ev.congr (fun _ => l1W w) (Ev.now _)) (Ev.ite' (fun hw => ?_) (fun hw => ?_))
  · rw [if_pos hw]
    refine Ev.ite' (fun h1 => ?_) (fun h1 => ?_)
    · rw [if_neg (by omega)]; exact sOk0 w true a0 a1 a2 a3 t l hl h2 (fun h => by cases h)
    · by_cases h7 : a0 > 7
      · rw [if_neg (by omega)]; exact Ev.congr (fun k => by rw [decide_eq_true h7]) (sOk0 w true a0 a1 a2 a3 t l hl h2 (fun h => by cases h))
      · rw [if_pos (by omega)]; exact Ev.congr (fun k => by rw [decide_eq_false h7]) (sOk0 w false a0 a1 a2 a3 t l hl h2 (fun h => by omega))
  · rw [if_neg hw]; exact sOk0 w true a0 a1 a2 a3 t l hl h2 (fun h => by cases h)
/-! the program's -/
theorem iUS (k : Int) : impl_usesSum.f k = some (uS k) := by unfold impl_usesSum.f uS; split <;> (try rfl); split <;> rfl
theorem iUN (k : Int) : impl_usesName.f k = some (uN k) := by unfold impl_usesName.f uN; split <;> rfl
theorem iOk5 (w : Int) (x : Bool) (a0 : Int) (a1 a2 : ByteArray) (a3 : Int) (t : ByteArray) (l : List ByteArray) (hl : l.length ≤ 140737488351232) :
    Ev (fun k => impl_entryOk.j5 k w x a0 a1 a2 a3 t l) (if x = true then false else thOkB (a0 == 1) t l w) := by
  refine Ev.step (fun k => by simp only [impl_entryOk.j5]; rfl) ?_
  refine Ev.ite' (fun h => by rw [if_pos h]; exact Ev.now _) (fun h => ?_)
  rw [if_neg h]
  unfold thOkB
  refine Ev.ite' (fun h2 => ?_) (fun h2 => ?_)
  · rw [if_pos (show (a0 == 1) = true by simpa using h2)]; exact Ev.bind (iOk_ev t l w hl) (Ev.now _)
  · rw [if_neg (show ¬ ((a0 == 1) = true) by simpa using h2)]; exact Ev.congr (fun k => endB t l) (Ev.now _)
theorem iOk4 (w lo hi : Int) (a0 : Int) (a1 a2 : ByteArray) (a3 : Int) (t : ByteArray) (l : List ByteArray) (hl : l.length ≤ 140737488351232) :
    Ev (fun k => impl_entryOk.j4 k w lo hi a0 a1 a2 a3 t l) (if lo ≤ a3 ∧ a3 ≤ hi then thOkB (a0 == 1) t l w else false) := by
  refine Ev.step (fun k => by simp only [impl_entryOk.j4]; rfl) ?_
  refine Ev.ite' (fun h => ?_) (fun h => ?_)
  · rw [if_neg (by omega)]; exact iOk5 w true a0 a1 a2 a3 t l hl
  · by_cases h2 : a3 > hi
    · rw [if_neg (by omega)]; exact Ev.congr (fun k => by rw [decide_eq_true h2]) (iOk5 w true a0 a1 a2 a3 t l hl)
    · rw [if_pos (by omega)]; exact Ev.congr (fun k => by rw [decide_eq_false h2]) (iOk5 w false a0 a1 a2 a3 t l hl)
theorem iOk3 (w : Int) (a0 : Int) (b : Bool) (a1 a2 : ByteArray) (a3 : Int) (t : ByteArray) (l : List ByteArray) (hl : l.length ≤ 140737488351232) (hb : b = decide (a0 = 1 ∨ a0 = 4 ∨ a0 = 6)) :
    Ev (fun k => impl_entryOk.j3 k w 0 0 a0 b a0 a1 a2 a3 t l) (if numB a0 a3 = true then thOkB (a0 == 1) t l w else false) := by
  refine Ev.step (fun k => by simp only [impl_entryOk.j3]; rfl) ?_
  unfold numB
  refine Ev.ite' (fun h => ?_) (fun h => ?_)
  · have h' : a0 = 1 ∨ a0 = 4 ∨ a0 = 6 := of_decide_eq_true (hb ▸ h)
    rw [if_pos h']
    have := iOk4 w 1 100000 a0 a1 a2 a3 t l hl
    simpa using this
  · have h' : ¬ (a0 = 1 ∨ a0 = 4 ∨ a0 = 6) := fun e => h (by rw [hb]; exact decide_eq_true e)
    rw [if_neg h']
    refine Ev.ite' (fun h5 => ?_) (fun h5 => ?_)
    · rw [if_pos h5]
      have := iOk4 w 1 1000000000 a0 a1 a2 a3 t l hl
      simpa using this
    · rw [if_neg h5]
      have := iOk4 w 0 0 a0 a1 a2 a3 t l hl
      have e : (0 ≤ a3 ∧ a3 ≤ 0) ↔ (a3 == 0) = true := by rw [beq_iff_eq]; omega
      simp only [e] at this
      exact this
theorem iOk2 (w : Int) (x : Bool) (a0 : Int) (a1 a2 : ByteArray) (a3 : Int) (t : ByteArray) (l : List ByteArray) (hl : l.length ≤ 140737488351232) :
    Ev (fun k => impl_entryOk.j2 k w x a0 a1 a2 a3 t l) (if x = true then false else if numB a0 a3 = true then thOkB (a0 == 1) t l w else false) := by
  refine Ev.step (fun k => by simp only [impl_entryOk.j2]; rfl) ?_
  refine Ev.ite' (fun h => by rw [if_pos h]; exact Ev.now _) (fun h => ?_)
  rw [if_neg h]
  refine Ev.ite' (fun h1 => ?_) (fun h1 => Ev.ite' (fun h4 => ?_) (fun h4 => ?_))
  · exact iOk3 w a0 _ a1 a2 a3 t l hl (by rw [Bool.eq_iff_iff]; simp [h1])
  · exact iOk3 w a0 _ a1 a2 a3 t l hl (by rw [Bool.eq_iff_iff]; simp [h4])
  · exact iOk3 w a0 _ a1 a2 a3 t l hl (by rw [Bool.eq_iff_iff]; simp [h1, h4])
theorem iOk1 (w : Int) (x : Bool) (a0 : Int) (a1 a2 : ByteArray) (a3 : Int) (t : ByteArray) (l : List ByteArray) (hl : l.length ≤ 140737488351232) (hz : a2.size ≤ 140737488351232) :
    Ev (fun k => impl_entryOk.j1 k w x a0 a1 a2 a3 t l) (if x = true then false else if nmOkB a0 a2 = true then (if numB a0 a3 = true then thOkB (a0 == 1) t l w else false) else false) := by
  refine Ev.step (fun k => by simp only [impl_entryOk.j1]; rfl) ?_
  refine Ev.ite' (fun h => by rw [if_pos h]; exact Ev.now _) (fun h => ?_)
  rw [if_neg h]
  have key := fun y => iOk2 w y a0 a1 a2 a3 t l hl
  have eu : Ev (fun _ => impl_usesName.f a0) (uN a0) := Ev.congr (fun _ => iUN a0) (Ev.now _)
  unfold nmOkB
  refine Ev.bind eu (Ev.ite' (fun hu => ?_) (fun hu => ?_))
  · rw [if_pos hu]
    refine Ev.bind (iName_ev a2 hz) (Ev.ite' (fun hn => ?_) (fun hn => ?_))
    · rw [if_pos hn]; exact Ev.bind eu (Ev.ite' (fun _ => key false) (fun h => absurd hu h))
    · rw [if_neg hn]; exact key true
  · rw [if_neg hu]
    refine Ev.bind eu (Ev.ite' (fun h => absurd h hu) (fun _ => ?_))
    have := key (!decide (a2.size = 0))
    cases hd : decide (a2.size = 0) <;> rw [hd] at this <;> rw [nil_b, hd] <;> exact this
theorem iOk0 (w : Int) (x : Bool) (a0 : Int) (a1 a2 : ByteArray) (a3 : Int) (t : ByteArray) (l : List ByteArray) (hl : l.length ≤ 140737488351232) (hz : a2.size ≤ 140737488351232) :
    Ev (fun k => impl_entryOk.j0 k w x a0 a1 a2 a3 t l) (if x = true then false else if sumOkB a0 a1 w = true then (if nmOkB a0 a2 = true then (if numB a0 a3 = true then thOkB (a0 == 1) t l w else false) else false) else false) := by
  refine Ev.step (fun k => by simp only [impl_entryOk.j0]; rfl) ?_
  refine Ev.ite' (fun h => by rw [if_pos h]; exact Ev.now _) (fun h => ?_)
  rw [if_neg h]
  have key := fun y => iOk1 w y a0 a1 a2 a3 t l hl hz
  have eu : Ev (fun _ => impl_usesSum.f a0) (uS a0) := Ev.congr (fun _ => iUS a0) (Ev.now _)
  unfold sumOkB
  refine Ev.bind eu (Ev.ite' (fun hu => ?_) (fun hu => ?_))
  · rw [if_pos hu]
    refine Ev.ite' (fun hs => ?_) (fun hs => ?_)
    · rw [if_pos (decide_eq_true hs)]; exact Ev.bind eu (Ev.ite' (fun _ => key false) (fun h => absurd hu h))
    · rw [if_neg (by simpa using hs)]; exact key true
  · rw [if_neg hu]
    refine Ev.bind eu (Ev.ite' (fun h => absurd h hu) (fun _ => ?_))
    have := key (!decide (a1.size = 0))
    cases hd : decide (a1.size = 0) <;> rw [hd] at this <;> rw [nil_b, hd] <;> exact this
theorem swapB (a b c d : Bool) : (if a = true then (if b = true then (if c = true then d else false) else false) else false) = (if a = true then (if c = true then (if b = true then d else false) else false) else false) := by
  cases a <;> cases b <;> cases c <;> cases d <;> rfl
theorem iEnt_ev (a0 : Int) (a1 a2 : ByteArray) (a3 : Int) (t : ByteArray) (l : List ByteArray) (w : Int) (hl : l.length ≤ 140737488351232) (h2 : a2.size ≤ 140737488351232) :
    Ev (fun k => impl_entryOk.f k a0 a1 a2 a3 t l w) (entB a0 a1 a2 a3 t l w) := by
  have key := fun y => iOk0 w y a0 a1 a2 a3 t l hl h2
  unfold entB
  rw [swapB]
  have ef : ∀ b : Bool, (if b = true then (false : Bool) else false) = false := fun b => by cases b <;> rfl
  refine Ev.ite' (fun h1 => ?_) (fun h1 => Ev.ite' (fun h7 => ?_) (fun h7 => ?_))
  · rw [if_neg (show ¬ (1 ≤ a0 ∧ a0 ≤ 7) by omega), ef]; exact key true
  · rw [if_neg (show ¬ (1 ≤ a0 ∧ a0 ≤ 7) by omega), ef]; exact key true
  · rw [if_pos (show 1 ≤ a0 ∧ a0 ≤ 7 by omega)]
    refine Ev.bind (g := fun _ => impl_widthOk.f w) (Ev.congr (fun _ => wOk w) (Ev.now _)) ?_
    have := key (!widB w)
    cases hb : widB w <;> rw [hb] at this <;> exact this
end
/-! ### entries' forms -/
def head6 (k m n : Int) : List Int := [k % 256, m / 16777216 % 256, m / 65536 % 256, m / 256 % 256, m % 256, n % 256]
def formE (k : Int) (s n : ByteArray) (m : Int) (t : ByteArray) (l : List ByteArray) (w : Int) : ByteArray :=
  if entB k s n m t l w = true then (if k = 1 then strOfNums (head6 k m (n.size : Int)) ++ n ++ s ++ formB t l else strOfNums (head6 k m (n.size : Int)) ++ n ++ s) else ⟨#[]⟩
theorem entB_le {k : Int} {s n : ByteArray} {m : Int} {t : ByteArray} {l : List ByteArray} {w : Int} (h : entB k s n m t l w = true) :
    1 ≤ k ∧ k ≤ 7 ∧ 0 ≤ m ∧ m ≤ 1000000000 ∧ s.size ≤ 8 ∧ n.size ≤ 40 ∧ 1 ≤ w ∧ w ≤ 8 ∧ (k = 1 → thingB t l w = true) := by
  unfold entB at h
  split at h
  · rename_i hw
    have hw' := widB_iff.1 hw
    split at h
    · rename_i hk
      split at h
      · rename_i hs
        split at h
        · rename_i hm
          split at h
          · rename_i hn
            refine ⟨hk.1, hk.2, ?_, ?_, ?_, ?_, hw'.1, hw'.2, fun e => ?_⟩
            · unfold numB at hm; split at hm
              · have := of_decide_eq_true hm; omega
              · split at hm
                · have := of_decide_eq_true hm; omega
                · have := beq_iff_eq.1 hm; omega
            · unfold numB at hm; split at hm
              · have := of_decide_eq_true hm; omega
              · split at hm
                · have := of_decide_eq_true hm; omega
                · have := beq_iff_eq.1 hm; omega
            · unfold sumOkB at hs; split at hs
              · have := of_decide_eq_true hs; omega
              · have := of_decide_eq_true hs; omega
            · unfold nmOkB at hn; split at hn
              · have key : ∀ j i, nameFrom n j i = true → n.size ≤ 40 := by
                  intro j
                  induction j with
                  | zero => intro i h; exact (of_decide_eq_true h).2
                  | succ j ih =>
                    intro i h
                    unfold nameFrom at h
                    split at h
                    · cases h
                    · split at h
                      · cases h
                      · exact ih _ h
                exact key _ _ hn
              · have := of_decide_eq_true hn; omega
            · subst e
              have : thOkB true t l w = true := h
              unfold thOkB at this
              rwa [if_pos rfl] at this
          · cases h
        · cases h
      · cases h
    · cases h
  · cases h
theorem form_size {t : ByteArray} {l : List ByteArray} {w : Int} (h : thingB t l w = true) : (formB t l).size ≤ 2241 := by
  have hs := thing_small h
  have h1 : (headB l.length).size = 1 := by unfold headB; rw [son_size]; rfl
  unfold formB
  rw [ByteArray.size_append, ByteArray.size_append, h1, catB_size]
  omega
theorem sFE_ev (k : Int) (s n : ByteArray) (m : Int) (t : ByteArray) (l : List ByteArray) (w : Int) (hl : l.length ≤ 140737488351232) (h2 : n.size ≤ 140737488351232) : Ev (fun f => spec_FormEntry.f f k s n m t l w) (formE k s n m t l w) := by
  refine Ev.bind (sEnt_ev k s n m t l w hl h2) ?_
  unfold formE
  by_cases c : entB k s n m t l w = true
  · obtain ⟨k1, k7, m0, m9, hs, hn, _, _, hT⟩ := entB_le c
    have e1 : wrap64 (Int.tdiv m 16777216) % 256 = m / 16777216 % 256 := by rw [Int.tdiv_eq_ediv_of_nonneg m0, w64_small (by omega) (by omega)]
    have e2 : Int.tmod (wrap64 (Int.tdiv m 65536)) 256 % 256 = m / 65536 % 256 := by rw [Int.tdiv_eq_ediv_of_nonneg m0, w64_small (by omega) (by omega), Int.tmod_eq_emod_of_nonneg (by omega)]; omega
    have e3 : Int.tmod (wrap64 (Int.tdiv m 256)) 256 % 256 = m / 256 % 256 := by rw [Int.tdiv_eq_ediv_of_nonneg m0, w64_small (by omega) (by omega), Int.tmod_eq_emod_of_nonneg (by omega)]; omega
    have e4 : Int.tmod m 256 % 256 = m % 256 := by rw [Int.tmod_eq_emod_of_nonneg m0]; omega
    rw [if_pos c]
    refine Ev.pos c (Ev.bind (Ev.now _) (Ev.pos (by simp; omega) (Ev.bind (Ev.now _) (Ev.pos (by simp [bytes_length]; omega) (Ev.bind (Ev.now _) (Ev.ite' (fun hk => ?_) (fun hk => ?_)))))))
    · rw [if_pos hk]
      have hf : formT t l w = formB t l := by unfold formT; rw [if_pos (hT hk)]
      refine Ev.bind (sFormT_ev t l w hl) ?_
      rw [hf]
      have := form_size (hT hk)
      refine Ev.pos (by simp [bytes_length]; omega) (Ev.ret ?_)
      simp only [son_append, son_bytes, e1, e2, e3, e4]; rfl
    · rw [if_neg hk]
      refine Ev.ret ?_
      simp only [son_append, son_bytes, e1, e2, e3, e4]; rfl
  · rw [if_neg c]
    exact Ev.congr (fun f => if_neg c) (Ev.now _)
theorem iFE_ev (k : Int) (s n : ByteArray) (m : Int) (t : ByteArray) (l : List ByteArray) (w : Int) (hl : l.length ≤ 140737488351232) (h2 : n.size ≤ 140737488351232) : Ev (fun f => impl_FormEntry.f f k s n m t l w) (formE k s n m t l w) := by
  refine Ev.bind (iEnt_ev k s n m t l w hl h2) ?_
  unfold formE
  by_cases c : entB k s n m t l w = true
  · obtain ⟨k1, k7, m0, m9, hs, hn, _, _, hT⟩ := entB_le c
    have e1 : m % 4294967296 = m := by omega
    have ea : binary_bigEndian_AppendUint32.f [k % 256] m = some [k % 256, m / 16777216 % 256, m / 65536 % 256, m / 256 % 256, m % 256] := by
      unfold binary_bigEndian_AppendUint32.f; simp only [Option.bind_some]; rw [if_pos (by simp)]; rfl
    rw [if_pos c]
    refine Ev.pos c (Ev.bind (g := fun _ => binary_bigEndian_AppendUint32.f [k % 256] (m % 4294967296)) (Ev.congr (fun _ => by rw [e1]; exact ea) (Ev.now _)) (Ev.pos (by simp) (Ev.bind (Ev.now _) (Ev.pos (by rw [son_size]; simp; omega) (Ev.pos (by rw [ByteArray.size_append, son_size]; simp; omega) (Ev.ite' (fun hk => ?_) (fun hk => ?_)))))))
    · rw [if_pos hk]
      have hz := form_size (hT hk)
      have ht := thing_small (hT hk)
      refine Ev.bind (iForm_ev t l hl (by omega)) (Ev.pos (by rw [ByteArray.size_append, ByteArray.size_append, son_size]; simp; omega) (Ev.ret rfl))
    · rw [if_neg hk]
      exact Ev.ret rfl
  · rw [if_neg c]
    exact Ev.congr (fun f => if_neg c) (Ev.now _)
end Go.Proofs.Ytpnblgbkjbpeoaa.Q

/- Plain laws of forms that are read back: a thing's form and an entry's, byte by byte. -/
namespace Go.Proofs.Ytpnblgbkjbpeoaa.Q
open Go.RowKit Go.Proofs.Ytpnblgbkjbpeoaa.P Go.Proofs.YtpnblgbkjbpeoaaW.PrintWords Go.Proofs.YtpnblgbkjbpeoaaW.PrintLast Go.Proofs.YtpnblgbkjbpeoaaW.PrintMore
set_option linter.unusedVariables false

theorem cat_ext (s : ByteArray) (a b c : Nat) (h1 : a ≤ b) (h2 : b ≤ c) : s.extract a b ++ s.extract b c = s.extract a c := by
  rw [ByteArray.extract_append_extract, Nat.min_eq_left h1, Nat.max_eq_right h2]
theorem ext_all (s : ByteArray) : s.extract 0 s.size = s := ByteArray.extract_zero_size
theorem ba_len {s : ByteArray} (h : s.size = 0) : s = ⟨#[]⟩ := by
  apply ByteArray.ext; exact Array.eq_empty_of_size_eq_zero h
theorem toList_inj {a b : ByteArray} (h : a.toList = b.toList) : a = b := by
  rw [toList_data, toList_data] at h
  exact ByteArray.ext (Array.ext' h)
theorem bytesOf_ext (s : ByteArray) (a c : Nat) : bytesOf (s.extract a c) = ((bytesOf s).drop a).take (c - a) := by
  unfold bytesOf
  rw [ByteArray.data_extract, Array.toList_extract, List.extract_eq_take_drop, List.map_take, List.map_drop]
theorem bytesOf_app (a b : ByteArray) : bytesOf (a ++ b) = bytesOf a ++ bytesOf b := by
  unfold bytesOf
  rw [ByteArray.data_append, Array.toList_append, List.map_append]
theorem bytesOf_son (xs : List Int) (h : ∀ x ∈ xs, 0 ≤ x ∧ x < 256) : bytesOf (strOfNums xs) = xs := by
  induction xs with
  | nil => rfl
  | cons x xs ih =>
    have e : strOfNums (x :: xs) = strOfNums [x] ++ strOfNums xs := by rw [← son_append]; rfl
    rw [e, bytesOf_app, ih (fun y hy => h y (List.mem_cons_of_mem _ hy))]
    have hx := h x (List.mem_cons_self)
    have e1 : bytesOf (strOfNums [x]) = [x] := by
      obtain ⟨n, rfl⟩ : ∃ n : Nat, x = (n : Int) := ⟨x.toNat, by omega⟩
      have hn : n < 256 := by omega
      simp only [bytesOf, strOfNums, List.map_cons, List.map_nil, List.cons.injEq, and_true]
      first
      | omega
      | (simp; omega)
    rw [e1]; rfl
theorem bt_ext (s : ByteArray) (a c i : Nat) (h : a + i < c) (hc : c ≤ s.size) : bt (s.extract a c) (i : Int) = bt s ((a + i : Nat) : Int) := by
  rw [← rd_bytesOf, ← rd_bytesOf, bytesOf_ext]
  unfold rd
  have hl : (bytesOf s).length = s.size := bytes_length s
  have h1 : i < ((bytesOf s).drop a |>.take (c - a)).length := by rw [List.length_take, List.length_drop]; omega
  rw [Int.toNat_natCast, Int.toNat_natCast, List.getD_eq_getElem?_getD, List.getD_eq_getElem?_getD, List.getElem?_take, if_pos (by omega), List.getElem?_drop]
theorem bt_app (a b : ByteArray) (h : 0 < a.size) : bt (a ++ b) 0 = bt a 0 := by
  rw [← rd_bytesOf, ← rd_bytesOf, bytesOf_app]
  have : 0 < (bytesOf a).length := by rw [bytes_length]; exact h
  cases hb : bytesOf a with
  | nil => rw [hb] at this; cases this
  | cons x l => rfl
/-- The first six bytes. -/
theorem six (s : ByteArray) (h : 6 ≤ s.size) : strOfNums [bt s 0, bt s 1, bt s 2, bt s 3, bt s 4, bt s 5] = s.extract 0 6 := by
  have hl : (bytesOf (s.extract 0 6)).length = 6 := by rw [bytes_length, ByteArray.size_extract]; omega
  have hb : ∀ i : Nat, i < 6 → rd (bytesOf (s.extract 0 6)) (i : Int) = bt s (i : Int) := fun i hi => by rw [rd_bytesOf, bt_ext s 0 6 i (by omega) h, Nat.zero_add]
  rw [← son_bytes (s.extract 0 6)]
  congr 1
  have h0 := hb 0 (by omega); have h1 := hb 1 (by omega); have h2 := hb 2 (by omega); have h3 := hb 3 (by omega); have h4 := hb 4 (by omega); have h5 := hb 5 (by omega)
  generalize bytesOf (s.extract 0 6) = l at *
  match l, hl with
  | [a, b, c, d, e, f], _ =>
    simp only [rd, Int.toNat_natCast, List.getD_cons_zero, List.getD_cons_succ] at h0 h1 h2 h3 h4 h5
    rw [h0, h1, h2, h3, h4, h5]; rfl
/-! ### things -/
theorem catB_pieces (s : ByteArray) (W n : Nat) : ∀ p, p + n * W ≤ s.size → catB (pieces s W n p) = s.extract p (p + n * W) := by
  induction n with
  | zero => intro p h; simp only [pieces, catB, Nat.zero_mul, Nat.add_zero]; exact (ba_len (by rw [ByteArray.size_extract]; omega)).symm
  | succ n ih =>
    intro p h
    have e : (n + 1) * W = n * W + W := Nat.succ_mul n W
    have e2 : p + W + n * W = p + (n + 1) * W := by omega
    simp only [pieces, catB]
    rw [ih (p + W) (by omega), e2, cat_ext s p (p + W) _ (by omega) (by omega)]
theorem readT_cases (x : ByteArray) (w : Int) : readT x w = noT ∨ (readT x w).2.2 = true ∧ thingB (readT x w).1 (readT x w).2.1 w = true ∧ formB (readT x w).1 (readT x w).2.1 = x := by
  unfold readT
  by_cases c : widB w = true
  · rw [if_pos c]
    by_cases c1 : x.size = 0
    · rw [if_pos c1]; exact .inl rfl
    · rw [if_neg c1]
      by_cases c2 : (x.size : Int) < 1 + bt x 0 * w
      · rw [if_pos c2]; exact .inl rfl
      · rw [if_neg c2]
        unfold endT
        by_cases c3 : thingB (x.extract (1 + (bt x 0).toNat * w.toNat) x.size) (pieces x w.toNat (bt x 0).toNat 1) w = true
        · rw [if_pos c3]
          refine .inr ⟨rfl, c3, ?_⟩
          have hw := widB_iff.1 c
          obtain ⟨n, hn, hn5⟩ := bt_nat x 0
          obtain ⟨W, rfl⟩ : ∃ W : Nat, w = (W : Int) := ⟨w.toNat, by omega⟩
          have hm : (n : Int) * (W : Int) = ((n * W : Nat) : Int) := (Int.natCast_mul n W).symm
          rw [hn, hm] at c2
          rw [hn, Int.toNat_natCast, Int.toNat_natCast]
          show headB (pieces x W n 1).length ++ (catB (pieces x W n 1) ++ x.extract (1 + n * W) x.size) = x
          rw [pieces_length, catB_pieces x W n 1 (by omega), cat_ext x 1 _ _ (by omega) (by omega)]
          have e1 : headB n = x.extract 0 1 := by
            rw [← son_bytes (x.extract 0 1)]
            unfold headB
            congr 1
            have hl : (bytesOf (x.extract 0 1)).length = 1 := by rw [bytes_length, ByteArray.size_extract]; omega
            have h0 : rd (bytesOf (x.extract 0 1)) ((0 : Nat) : Int) = bt x ((0 : Nat) : Int) := by rw [rd_bytesOf, bt_ext x 0 1 0 (by omega) (by omega), Nat.zero_add]
            generalize bytesOf (x.extract 0 1) = l at *
            match l, hl with
            | [a], _ =>
              simp only [rd, Int.toNat_natCast, List.getD_cons_zero] at h0
              have h0' : a = bt x 0 := h0
              rw [h0', hn]
              have : (n : Int) % 256 = (n : Int) := by omega
              rw [this]
          rw [e1, cat_ext x 0 1 _ (by omega) (by omega), ext_all]
        · rw [if_neg c3]; exact .inl rfl
  · rw [if_neg c]; exact .inl rfl
theorem refs_all (w : Int) (l : List ByteArray) (n : Nat) : ∀ i, l.length - i = n → i ≤ l.length → refsFrom w l n i = true → ∀ x ∈ l.drop i, (x.size : Int) = w := by
  induction n with
  | zero => intro i hn hi h; rw [List.drop_of_length_le (by omega)]; intro x hx; cases hx
  | succ n ih =>
    intro i hn hi h
    unfold refsFrom at h
    have hlt : i < l.length := by omega
    rw [rd_drop ByteArray.empty l i hlt]
    split at h
    · rename_i c1
      have hr : refsFrom w l n (i + 1) = true := by
        split at h
        · split at h
          · exact h
          · cases h
        · exact h
      intro x hx
      rcases List.mem_cons.1 hx with rfl | hx
      · exact c1
      · exact ih (i + 1) (by omega) (by omega) hr x hx
    · cases h
theorem pieces_cat (W : Nat) (t : ByteArray) (l : List ByteArray) : ∀ pre : ByteArray, (∀ x ∈ l, x.size = W) → pieces (pre ++ (catB l ++ t)) W l.length pre.size = l := by
  induction l with
  | nil => intro pre h; rfl
  | cons x l ih =>
    intro pre h
    have hx := h x List.mem_cons_self
    have e : pre ++ (catB (x :: l) ++ t) = (pre ++ x) ++ (catB l ++ t) := by simp only [catB, ba_assoc]
    have e2 : (pre ++ x).size = pre.size + W := by rw [ByteArray.size_append, hx]
    have e3 := ih (pre ++ x) (fun y hy => h y (List.mem_cons_of_mem _ hy))
    rw [e2] at e3
    have e4 : (pre ++ (catB (x :: l) ++ t)).extract pre.size (pre.size + W) = x := by
      have : pre ++ (catB (x :: l) ++ t) = pre ++ (x ++ (catB l ++ t)) := by simp only [catB, ba_assoc]
      rw [this]
      have := ByteArray.extract_append_size_add (a := pre) (b := x ++ (catB l ++ t)) (i := 0) (j := W)
      rw [Nat.add_zero] at this
      rw [this, ByteArray.extract_append_eq_left hx.symm]
    show (pre ++ (catB (x :: l) ++ t)).extract pre.size (pre.size + W) :: pieces (pre ++ (catB (x :: l) ++ t)) W l.length (pre.size + W) = x :: l
    rw [e4, e, e3]
theorem form_readT {t : ByteArray} {l : List ByteArray} {w : Int} (h : thingB t l w = true) : readT (formB t l) w = (t, l, true) := by
  obtain ⟨_, h30, w1, w8, hr⟩ := thingB_le h
  have hall := refs_all w l l.length 0 (by omega) (by omega) hr
  rw [List.drop_zero] at hall
  obtain ⟨W, rfl⟩ : ∃ W : Nat, w = (W : Int) := ⟨w.toNat, by omega⟩
  have hall' : ∀ x ∈ l, x.size = W := fun x hx => by have := hall x hx; omega
  have h1 : (headB l.length).size = 1 := by unfold headB; rw [son_size]; rfl
  have hsz : (szAll l : Int) = (l.length : Int) * (W : Int) := by have := refs_sizes (W : Int) l l.length 0 (by omega) (by omega) hr; rwa [List.drop_zero] at this
  have hm : (l.length : Int) * (W : Int) = ((l.length * W : Nat) : Int) := (Int.natCast_mul l.length W).symm
  have hsz' : szAll l = l.length * W := by omega
  have hz : (formB t l).size = 1 + l.length * W + t.size := by unfold formB; rw [ByteArray.size_append, ByteArray.size_append, h1, catB_size]; omega
  have hb : bt (formB t l) 0 = (l.length : Int) := by
    unfold formB
    rw [bt_app _ _ (by omega), ← rd_bytesOf]
    unfold headB
    rw [bytesOf_son _ (fun x hx => by rcases List.mem_cons.1 hx with rfl | hx; · omega
                                      · cases hx)]
    show (l.length : Int) % 256 = _
    omega
  unfold readT
  rw [if_pos (widB_iff.2 ⟨w1, w8⟩), if_neg (by omega), hb, hm, if_neg (by omega), Int.toNat_natCast, Int.toNat_natCast, hz]
  have hp : pieces (formB t l) W l.length 1 = l := by have := pieces_cat W t l (headB l.length) hall'; rwa [h1] at this
  have ht : (formB t l).extract (1 + l.length * W) (1 + l.length * W + t.size) = t := by
    have e : formB t l = (headB l.length ++ catB l) ++ t := by unfold formB; rw [ba_assoc]
    rw [e]
    exact ByteArray.extract_append_eq_right (by rw [ByteArray.size_append, h1, catB_size]; omega) (by rw [ByteArray.size_append, h1, catB_size]; omega)
  rw [hp, ht]
  unfold endT
  rw [if_pos h]
/-! ### entries -/
def noE : Int × ByteArray × ByteArray × Int × ByteArray × List ByteArray × Bool := (0, ⟨#[]⟩, ⟨#[]⟩, 0, ⟨#[]⟩, [], false)
def numE (s : ByteArray) : Int := bt s 1 * 16777216 + bt s 2 * 65536 + bt s 3 * 256 + bt s 4
def restE (s : ByteArray) : ByteArray := s.extract (6 + (bt s 5).toNat) s.size
def nameE (s : ByteArray) : ByteArray := s.extract 6 (6 + (bt s 5).toNat)
def endE (k : Int) (s n : ByteArray) (m : Int) (t : ByteArray) (l : List ByteArray) (w : Int) : Int × ByteArray × ByteArray × Int × ByteArray × List ByteArray × Bool := if entB k s n m t l w = true then (k, s, n, m, t, l, true) else noE
def bodyE (s : ByteArray) (w : Int) : Int × ByteArray × ByteArray × Int × ByteArray × List ByteArray × Bool :=
  if bt s 0 = 1 then (if (readT (restE s) w).2.2 = true then endE (bt s 0) ⟨#[]⟩ (nameE s) (numE s) (readT (restE s) w).1 (readT (restE s) w).2.1 w else noE) else endE (bt s 0) (restE s) (nameE s) (numE s) ⟨#[]⟩ [] w
def readE (s : ByteArray) (w : Int) : Int × ByteArray × ByteArray × Int × ByteArray × List ByteArray × Bool :=
  if (s.size : Int) < 6 then noE else if widB w = true then (if (s.size : Int) < 6 + bt s 5 then noE else bodyE s w) else noE
theorem numE_range (s : ByteArray) : 0 ≤ numE s ∧ numE s < 4294967296 := by
  have h1 := bt_range s 1; have h2 := bt_range s 2; have h3 := bt_range s 3; have h4 := bt_range s 4
  unfold numE; omega
theorem head_six (s : ByteArray) (h : 6 ≤ s.size) (hn : (s.size : Int) ≥ 6 + bt s 5) : strOfNums (head6 (bt s 0) (numE s) ((nameE s).size : Int)) = s.extract 0 6 := by
  have h0 := bt_range s 0; have h1 := bt_range s 1; have h2 := bt_range s 2; have h3 := bt_range s 3; have h4 := bt_range s 4; have h5 := bt_range s 5
  have hz : ((nameE s).size : Int) = bt s 5 := by unfold nameE; rw [ByteArray.size_extract]; omega
  rw [← six s h, hz]
  unfold head6 numE
  have e0 : bt s 0 % 256 = bt s 0 := by omega
  have e1 : (bt s 1 * 16777216 + bt s 2 * 65536 + bt s 3 * 256 + bt s 4) / 16777216 % 256 = bt s 1 := by omega
  have e2 : (bt s 1 * 16777216 + bt s 2 * 65536 + bt s 3 * 256 + bt s 4) / 65536 % 256 = bt s 2 := by omega
  have e3 : (bt s 1 * 16777216 + bt s 2 * 65536 + bt s 3 * 256 + bt s 4) / 256 % 256 = bt s 3 := by omega
  have e4 : (bt s 1 * 16777216 + bt s 2 * 65536 + bt s 3 * 256 + bt s 4) % 256 = bt s 4 := by omega
  have e5 : bt s 5 % 256 = bt s 5 := by omega
  rw [e0, e1, e2, e3, e4, e5]
/-- What is read is written the same. -/
theorem whole (s : ByteArray) (h : 6 ≤ s.size) (hn : (s.size : Int) ≥ 6 + bt s 5) : s.extract 0 6 ++ nameE s ++ restE s = s := by
  have h5 := bt_range s 5
  unfold nameE restE
  rw [cat_ext s 0 6 _ (by omega) (by omega), cat_ext s 0 _ _ (by omega) (by omega), ext_all]
theorem ba_nil' (a : ByteArray) : a ++ (⟨#[]⟩ : ByteArray) = a := by apply ByteArray.ext; simp [ByteArray.data_append]
/-- The reference's check by writing again comes to the program's. -/
theorem again (s : ByteArray) (w : Int) (h : 6 ≤ s.size) (hn : (s.size : Int) ≥ 6 + bt s 5) :
    (if bt s 0 = 1 then (if entB (bt s 0) ⟨#[]⟩ (nameE s) (numE s) (readT (restE s) w).1 (readT (restE s) w).2.1 w = true then (if formE (bt s 0) ⟨#[]⟩ (nameE s) (numE s) (readT (restE s) w).1 (readT (restE s) w).2.1 w = s then (bt s 0, (⟨#[]⟩ : ByteArray), nameE s, numE s, (readT (restE s) w).1, (readT (restE s) w).2.1, true) else noE) else noE)
      else (if entB (bt s 0) (restE s) (nameE s) (numE s) ⟨#[]⟩ [] w = true then (if formE (bt s 0) (restE s) (nameE s) (numE s) ⟨#[]⟩ [] w = s then (bt s 0, restE s, nameE s, numE s, (⟨#[]⟩ : ByteArray), ([] : List ByteArray), true) else noE) else noE)) = bodyE s w := by
  have hw := whole s h hn
  have hh := head_six s h hn
  unfold bodyE
  by_cases c : bt s 0 = 1
  · rw [if_pos c, if_pos c]
    rcases readT_cases (restE s) w with e | ⟨e1, e2, e3⟩
    · rw [e]
      show _ = noE
      by_cases c2 : entB (bt s 0) ⟨#[]⟩ (nameE s) (numE s) noT.1 noT.2.1 w = true
      · rw [if_pos c2, if_neg]
        intro hf
        obtain ⟨_, _, _, _, _, _, _, _, hT⟩ := entB_le c2
        have ht := hT c
        unfold formE at hf
        rw [if_pos c2, if_pos c, hh, ba_nil'] at hf
        have e4 : formB noT.1 noT.2.1 = restE s := by
          have e5 : s.extract 0 6 ++ nameE s ++ formB noT.1 noT.2.1 = s.extract 0 6 ++ nameE s ++ restE s := by rw [hf, hw]
          have := congrArg ByteArray.data e5
          rw [ByteArray.data_append (l := s.extract 0 6 ++ nameE s), ByteArray.data_append (l := s.extract 0 6 ++ nameE s)] at this
          exact ByteArray.ext (Array.append_right_inj _ |>.1 this)
        have e6 := form_readT ht
        rw [e4, e] at e6
        cases e6
      · rw [if_neg c2]
    · rw [if_pos e1]
      unfold endE
      by_cases c2 : entB (bt s 0) ⟨#[]⟩ (nameE s) (numE s) (readT (restE s) w).1 (readT (restE s) w).2.1 w = true
      · rw [if_pos c2, if_pos c2, if_pos]
        unfold formE
        rw [if_pos c2, if_pos c, hh, ba_nil', e3, hw]
      · rw [if_neg c2, if_neg c2]
  · rw [if_neg c, if_neg c]
    unfold endE
    by_cases c2 : entB (bt s 0) (restE s) (nameE s) (numE s) ⟨#[]⟩ [] w = true
    · rw [if_pos c2, if_pos c2, if_pos]
      unfold formE
      rw [if_pos c2, if_neg c, hh, hw]
    · rw [if_neg c2, if_neg c2]
end Go.Proofs.Ytpnblgbkjbpeoaa.Q

/- Plain laws: an entry's form is read back as it was; what is read is written the same. -/
namespace Go.Proofs.Ytpnblgbkjbpeoaa.Q
open Go.RowKit Go.Proofs.Ytpnblgbkjbpeoaa.P Go.Proofs.YtpnblgbkjbpeoaaW.PrintWords Go.Proofs.YtpnblgbkjbpeoaaW.PrintLast Go.Proofs.YtpnblgbkjbpeoaaW.PrintMore
set_option linter.unusedVariables false

theorem bt_head (xs : List Int) (r : ByteArray) (i : Nat) (hi : i < xs.length) (h : ∀ x ∈ xs, 0 ≤ x ∧ x < 256) : bt (strOfNums xs ++ r) (i : Int) = rd xs (i : Int) := by
  rw [← rd_bytesOf, bytesOf_app, bytesOf_son xs h]
  unfold Go.Proofs.YtpnblgbkjbpeoaaW.PrintWords.rd
  rw [Int.toNat_natCast, List.getD_eq_getElem?_getD, List.getD_eq_getElem?_getD, List.getElem?_append_left hi]
theorem formT_nil {t : ByteArray} {l : List ByteArray} {w : Int} (h : ¬ (formT t l w).toList = []) : thingB t l w = true ∧ formT t l w = formB t l := by
  unfold formT at h ⊢
  by_cases c : thingB t l w = true
  · rw [if_pos c]; exact ⟨c, rfl⟩
  · rw [if_neg c] at h
    exact absurd (toList_nil.2 rfl) h
theorem formE_nil {k : Int} {s n : ByteArray} {m : Int} {t : ByteArray} {l : List ByteArray} {w : Int} (h : ¬ (formE k s n m t l w).toList = []) : entB k s n m t l w = true := by
  unfold formE at h
  by_cases c : entB k s n m t l w = true
  · exact c
  · rw [if_neg c] at h
    exact absurd (toList_nil.2 rfl) h
theorem entB_parts {k : Int} {s n : ByteArray} {m : Int} {t : ByteArray} {l : List ByteArray} {w : Int} (h : entB k s n m t l w = true) : (k = 1 → s = ⟨#[]⟩) ∧ (¬ k = 1 → t = ⟨#[]⟩ ∧ l = []) ∧ widB w = true := by
  unfold entB at h
  split at h
  · rename_i hw
    split at h
    · rename_i hk
      split at h
      · rename_i hs
        split at h
        · split at h
          · refine ⟨fun e => ?_, fun e => ?_, hw⟩
            · subst e
              have : decide (s.size = 0) = true := hs
              exact ba_len (of_decide_eq_true this)
            · have e1 : (k == 1) = false := by rw [beq_eq_false_iff_ne]; exact e
              rw [e1] at h
              have : decide (t.size = 0 ∧ l.length = 0) = true := h
              have := of_decide_eq_true this
              exact ⟨ba_len this.1, List.length_eq_zero_iff.1 this.2⟩
          · cases h
        · cases h
      · cases h
    · cases h
  · cases h
theorem form_readE {k : Int} {s n : ByteArray} {m : Int} {t : ByteArray} {l : List ByteArray} {w : Int} (h : entB k s n m t l w = true) : readE (formE k s n m t l w) w = (k, s, n, m, t, l, true) := by
  obtain ⟨k1, k7, m0, m9, hs8, hn40, _, _, hT⟩ := entB_le h
  obtain ⟨p1, p2, hw⟩ := entB_parts h
  have key : ∀ R : ByteArray, (k = 1 → R = formB t l) → (¬ k = 1 → R = s) → readE (strOfNums (head6 k m (n.size : Int)) ++ n ++ R) w = (k, s, n, m, t, l, true) := by
    intro R r1 r2
    have hh : ∀ x ∈ head6 k m (n.size : Int), 0 ≤ x ∧ x < 256 := by
      intro x hx
      simp only [head6, List.mem_cons, List.not_mem_nil, or_false] at hx
      rcases hx with rfl | rfl | rfl | rfl | rfl | rfl <;> omega
    have h6 : (strOfNums (head6 k m (n.size : Int))).size = 6 := by rw [son_size]; rfl
    have hb : ∀ i : Nat, i < 6 → bt (strOfNums (head6 k m (n.size : Int)) ++ n ++ R) (i : Int) = rd (head6 k m (n.size : Int)) (i : Int) := fun i hi => by rw [ba_assoc]; exact bt_head _ _ i hi hh
    have b0 : bt (strOfNums (head6 k m (n.size : Int)) ++ n ++ R) 0 = k := (hb 0 (by omega)).trans (show k % 256 = k by omega)
    have b1 : bt (strOfNums (head6 k m (n.size : Int)) ++ n ++ R) 1 = m / 16777216 % 256 := hb 1 (by omega)
    have b2 : bt (strOfNums (head6 k m (n.size : Int)) ++ n ++ R) 2 = m / 65536 % 256 := hb 2 (by omega)
    have b3 : bt (strOfNums (head6 k m (n.size : Int)) ++ n ++ R) 3 = m / 256 % 256 := hb 3 (by omega)
    have b4 : bt (strOfNums (head6 k m (n.size : Int)) ++ n ++ R) 4 = m % 256 := hb 4 (by omega)
    have b5 : bt (strOfNums (head6 k m (n.size : Int)) ++ n ++ R) 5 = (n.size : Int) := (hb 5 (by omega)).trans (show (n.size : Int) % 256 = (n.size : Int) by omega)
    have hz : (strOfNums (head6 k m (n.size : Int)) ++ n ++ R).size = 6 + n.size + R.size := by rw [ByteArray.size_append, ByteArray.size_append, h6]
    have em : numE (strOfNums (head6 k m (n.size : Int)) ++ n ++ R) = m := by unfold numE; rw [b1, b2, b3, b4]; omega
    have en : nameE (strOfNums (head6 k m (n.size : Int)) ++ n ++ R) = n := by
      unfold nameE
      rw [b5, Int.toNat_natCast, ba_assoc]
      have := ByteArray.extract_append_size_add (a := strOfNums (head6 k m (n.size : Int))) (b := n ++ R) (i := 0) (j := n.size)
      rw [h6] at this
      exact this.trans (ByteArray.extract_append_eq_left rfl)
    have er : restE (strOfNums (head6 k m (n.size : Int)) ++ n ++ R) = R := by
      unfold restE
      rw [b5, Int.toNat_natCast]
      exact ByteArray.extract_append_eq_right (by rw [ByteArray.size_append, h6]) (by rw [hz, ByteArray.size_append, h6])
    unfold readE
    rw [if_neg (by omega), if_pos hw, b5, if_neg (by omega)]
    unfold bodyE
    rw [b0, em, en, er]
    by_cases c : k = 1
    · rw [if_pos c, r1 c, form_readT (hT c), if_pos rfl]
      unfold endE
      have hs := p1 c
      subst hs
      rw [if_pos h]
    · obtain ⟨rfl, rfl⟩ := p2 c
      rw [if_neg c, r2 c]
      unfold endE
      rw [if_pos h]
  unfold formE
  rw [if_pos h]
  by_cases c : k = 1
  · rw [if_pos c, p1 c, ba_nil']
    have := key (formB t l) (fun _ => rfl) (fun h => absurd c h)
    rw [p1 c] at this
    exact this
  · rw [if_neg c]
    exact key s (fun h => absurd h c) (fun _ => rfl)
theorem readE_form (s : ByteArray) (w : Int) (h : (readE s w).2.2.2.2.2.2 = true) : formE (readE s w).1 (readE s w).2.1 (readE s w).2.2.1 (readE s w).2.2.2.1 (readE s w).2.2.2.2.1 (readE s w).2.2.2.2.2.1 w = s := by
  have hno : noE.2.2.2.2.2.2 = true → False := fun h => by cases h
  unfold readE at h ⊢
  by_cases c1 : (s.size : Int) < 6
  · rw [if_pos c1] at h; exact (hno h).elim
  · by_cases c2 : widB w = true
    · by_cases c3 : (s.size : Int) < 6 + bt s 5
      · rw [if_neg c1, if_pos c2, if_pos c3] at h; exact (hno h).elim
      · rw [if_neg c1, if_pos c2, if_neg c3] at h ⊢
        have hw := whole s (by omega) (by omega)
        have hh := head_six s (by omega) (by omega)
        unfold bodyE at h ⊢
        by_cases c : bt s 0 = 1
        · rw [if_pos c] at h ⊢
          rcases readT_cases (restE s) w with e | ⟨e1, e2, e3⟩
          · rw [e] at h; exact (hno h).elim
          · rw [if_pos e1] at h ⊢
            unfold endE at h ⊢
            by_cases c4 : entB (bt s 0) ⟨#[]⟩ (nameE s) (numE s) (readT (restE s) w).1 (readT (restE s) w).2.1 w = true
            · rw [if_pos c4] at h ⊢
              show formE (bt s 0) ⟨#[]⟩ (nameE s) (numE s) (readT (restE s) w).1 (readT (restE s) w).2.1 w = s
              unfold formE
              rw [if_pos c4, if_pos c, hh, ba_nil', e3, hw]
            · rw [if_neg c4] at h; exact (hno h).elim
        · rw [if_neg c] at h ⊢
          unfold endE at h ⊢
          by_cases c4 : entB (bt s 0) (restE s) (nameE s) (numE s) ⟨#[]⟩ [] w = true
          · rw [if_pos c4] at h ⊢
            show formE (bt s 0) (restE s) (nameE s) (numE s) ⟨#[]⟩ [] w = s
            unfold formE
            rw [if_pos c4, if_neg c, hh, hw]
          · rw [if_neg c4] at h; exact (hno h).elim
    · rw [if_neg c1, if_neg c2] at h; exact (hno h).elim
end Go.Proofs.Ytpnblgbkjbpeoaa.Q
