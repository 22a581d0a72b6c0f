/- Part 4 of the proof of FnForms: what it leans on. -/
import Derived.Test.YtpnblgbkjbpeoaaM1
import Derived.Test.YtpnblgbkjbpeoaaM2
import Derived.Test.YtpnblgbkjbpeoaaM3

namespace Go.Proofs.Ytpnblgbkjbpeoaa.P
open Go.RowKit Go.Proofs.YtpnblgbkjbpeoaaW.PrintWords Go.Proofs.YtpnblgbkjbpeoaaW.PrintLast Go.Proofs.YtpnblgbkjbpeoaaW.PrintMore
attribute [local go_sem] max2_int min2_int max_two min_two max_three min_three max_four min_four   -- for this text's walks alone
set_option linter.unusedVariables false
set_option linter.unusedSimpArgs false
/-! ### impl_ReadEntry: function 48 -/
mutual
def impl_ReadEntry.j0 : Nat → ByteArray → Int → Bool → Option (Int × ByteArray × ByteArray × Int × ByteArray × List ByteArray × Bool)
 | 0, _, _, _ => none
 | k + 1, x0, x1, x17 => if x17 = true then (some (0, (⟨#[]⟩ : ByteArray), (⟨#[]⟩ : ByteArray), 0, (⟨#[]⟩ : ByteArray), ([] : List ByteArray), false)) else (if 5 < (x0.size : Int) then (if 0 < (x0.size : Int) then (if 1 ≤ 5 then (if 5 ≤ (x0.size : Int) then ((binary_bigEndian_Uint32.f (bytesOf (x0.extract 1 5))).bind fun t864 => (if 6 ≤ (x0.size : Int) then (impl_ReadEntry.j1 k (x0.extract 6 x0.size) x1 (wrap64 (bt x0 5)) (wrap64 (bt x0 0)) (⟨#[]⟩ : ByteArray) (⟨#[]⟩ : ByteArray) (wrap64 (t864)) (⟨#[]⟩ : ByteArray)) else (none))) else (none)) else (none)) else (none)) else (none))
def impl_ReadEntry.j1 : Nat → ByteArray → Int → Int → Int → ByteArray → ByteArray → Int → ByteArray → Option (Int × ByteArray × ByteArray × Int × ByteArray × List ByteArray × Bool)
 | 0, _, _, _, _, _, _, _, _ => none
 | k + 1, x0, x1, x6, x866000, x866001, x866002, x866003, x866004 => if x6 > (x0.size : Int) then (some (0, (⟨#[]⟩ : ByteArray), (⟨#[]⟩ : ByteArray), 0, (⟨#[]⟩ : ByteArray), ([] : List ByteArray), false)) else (if 0 ≤ x6 then (if x6 ≤ (x0.size : Int) then (impl_ReadEntry.j2 k (x0.extract (x6 : Int).toNat x0.size) x1 x866000 x866001 (x0.extract 0 (x6 : Int).toNat) x866003 x866004) else (none)) else (none))
def impl_ReadEntry.j2 : Nat → ByteArray → Int → Int → ByteArray → ByteArray → Int → ByteArray → Option (Int × ByteArray × ByteArray × Int × ByteArray × List ByteArray × Bool)
 | 0, _, _, _, _, _, _, _ => none
 | k + 1, x0, x1, x866000, x866001, x866002, x866003, x866004 => if x866000 = 1 then ((impl_ReadThing.f k x0 x1).bind fun bt866 => (if bt866.2.2 = true then ((impl_entryOk.f k x866000 x866001 x866002 x866003 bt866.1 bt866.2.1 x1).bind fun t872 => (if t872 = true then (some (x866000, x866001, x866002, x866003, bt866.1, bt866.2.1, true)) else (some (0, (⟨#[]⟩ : ByteArray), (⟨#[]⟩ : ByteArray), 0, (⟨#[]⟩ : ByteArray), ([] : List ByteArray), false)))) else (some (0, (⟨#[]⟩ : ByteArray), (⟨#[]⟩ : ByteArray), 0, (⟨#[]⟩ : ByteArray), ([] : List ByteArray), false)))) else ((impl_entryOk.f k x866000 x0 x866002 x866003 x866004 ([] : List ByteArray) x1).bind fun t873 => (if t873 = true then (some (x866000, x0, x866002, x866003, x866004, ([] : List ByteArray), true)) else (some (0, (⟨#[]⟩ : ByteArray), (⟨#[]⟩ : ByteArray), 0, (⟨#[]⟩ : ByteArray), ([] : List ByteArray), false))))
end
def impl_ReadEntry.f (k : Nat) (a0 : ByteArray) (a1 : Int) : Option (Int × ByteArray × ByteArray × Int × ByteArray × List ByteArray × Bool) := if (a0.size : Int) < 6 then (impl_ReadEntry.j0 k a0 a1 true) else ((impl_widthOk.f a1).bind fun t863 => (impl_ReadEntry.j0 k a0 a1 (!t863)))
def impl_ReadEntry.T4 : Bool × List (List Nat × List Nat) := (true, [([], []), ([0], [0]), ([1], [1]), ([], []), ([], []), ([4], [4]), ([5], [5]), ([3, 6], [3, 6]), ([7], [7]), ([2, 8], [2, 8]), ([], []), ([10, 9, 7, 0, 1, 2, 3, 4, 5, 6, 7, 8, 9, 10], [9, 10])])
def impl_ReadEntry.B4 : List Nat := [0, 1, 3, 0, 0, 16, 48, 120, 248, 511, 0, 2047]
theorem impl_ReadEntry.tab4 : rtab .any (opsOf Try.f48 4) = impl_ReadEntry.T4 := by kernel_rfl
theorem impl_ReadEntry.bits4 : waitsOk impl_ReadEntry.T4.2 impl_ReadEntry.B4 = true := by kernel_rfl
def impl_ReadEntry.T8 : Bool × List (List Nat × List Nat) := (true, [([], []), ([], []), ([0, 1], [0, 1]), ([], []), ([], []), ([3, 4], [3, 4]), ([0, 1, 2], []), ([6, 2, 0, 1, 2], [2, 6]), ([5, 7, 0, 1, 2, 3, 4, 5, 6, 7], [0, 3, 5])])
def impl_ReadEntry.B8 : List Nat := [0, 0, 3, 0, 0, 24, 7, 71, 255]
theorem impl_ReadEntry.tab8 : rtab .any (opsOf Try.f48 8) = impl_ReadEntry.T8 := by kernel_rfl
theorem impl_ReadEntry.bits8 : waitsOk impl_ReadEntry.T8.2 impl_ReadEntry.B8 = true := by kernel_rfl
set_option maxHeartbeats 8000000 in
set_option maxRecDepth 100000 in
theorem impl_ReadEntry.calls (k : Nat) (a0 : ByteArray) (a1 : Int) (r1 : Int) (r2 : ByteArray) (r3 : ByteArray) (r4 : Int) (r5 : ByteArray) (r6 : List ByteArray) (r7 : Bool) (w : World) (h : impl_ReadEntry.f k a0 a1 = some (r1, r2, r3, r4, r5, r6, r7)) :
  Calls Try.prog 48 #[.string a0, .int .i64 a1] w fun e w' => ∃ v5_ : Value, e = .returned (.tuple #[.agg #[.int .i64 r1, .string r2, .string r3, .int .i64 r4, .string r5, v5_], .bool r7]) ∧ Kd.R Kd.string 9 w' w.heap.size (fun _ => True) v5_ r6 ∧ Below w.heap.size w w' := by
 have hu63 := Try.underlying63
 have hu92 := Try.underlying92
 have hu38 := Try.underlying38
 have HB := am__ (Below.refl w.heap.size w)
 have H : (if (a0.size : Int) < 6 then (impl_ReadEntry.j0 k a0 a1 true) else ((impl_widthOk.f a1).bind fun t863 => (impl_ReadEntry.j0 k a0 a1 (!t863)))) = some (r1, r2, r3, r4, r5, r6, r7) := h
 clear h
 have HC3 := Aside0.mk H
 clear H
 go_enter Try.func48, Try.ntmps48
 go_upto_region 1 with (first | ((with_reducible refine gate_dst (N := 4) rfl ?_); refine be__ 4 #[.int .i64 0, .string (⟨#[]⟩ : ByteArray), .string (⟨#[]⟩ : ByteArray), .int .i64 0, .string (⟨#[]⟩ : ByteArray), .slice none 0 0] 63 ?_; intro gb862 hg w4 hbox hb; have BK862 := am__ (hbox); have GW862 := am__ ((bsz__ hg bel__ : w.heap.size ≤ gb862)); have GE862 := am__ ((bsz__ hg bel__ : w.heap.size ≤ gb862)); replace HB := am__ (below_step (bel__) hb); clear hb hbox hg))
 (try simp only [Act.put, List.setIfInBounds_toArray, List.set_cons_zero, List.set_cons_succ])
 go_cut [17] (fun v17 wc => ∃ (kq : Nat) (x17_2 : Bool), v17 = .bool x17_2 ∧ Aside0 (impl_ReadEntry.j0 kq a0 a1 x17_2 = some (r1, r2, r3, r4, r5, r6, r7)) ∧ Aside0 (kq ≤ k) ∧ Aside0 (wc.heap[gb862]? = some (.cells #[.int .i64 0, .string (⟨#[]⟩ : ByteArray), .string (⟨#[]⟩ : ByteArray), .int .i64 0, .string (⟨#[]⟩ : ByteArray), (.slice none 0 0)] 63 (0, 0))) ∧ Aside0 (Below w.heap.size w wc))
 case first =>
  have H := HC3.out
  clear HC3
  by_cases c5 : (a0.size : Int) < 6
  ·rw [if_pos c5] at H
   have c5b0 : decide ((a0.size : Int) < 6) = true := decide_eq_true c5
   have c5b1 : decide (a0.size < 6) = true := decide_eq_true (by omega)
   clear c5
   (first | rw [c5b0] | (simp only [i64_w, i32_w]; rw [c5b0]) | skip)
   have H' := Aside0.mk H
   clear H
   go_wp2
   go_meet
   case rel => exact ⟨_, (true), (rf__), H', ⟨by first | omega | exact Nat.le_refl _⟩, ⟨blk__ BK862.out⟩, ⟨bel__⟩⟩
  ·rw [if_neg c5] at H
   have c5b0 : decide ((a0.size : Int) < 6) = false := decide_eq_false c5
   have c5b1 : decide (a0.size < 6) = false := decide_eq_false (by omega)
   clear c5
   (first | rw [c5b0] | (simp only [i64_w, i32_w]; rw [c5b0]) | skip)
   replace H := Option.bind_eq_some_iff.mp H
   obtain ⟨t863, A60, H⟩ := H
   replace H : (impl_ReadEntry.j0 k a0 a1 (!t863)) = some (r1, r2, r3, r4, r5, r6, r7) := H
   have A6 := Aside0.mk A60
   clear A60
   have H' := Aside0.mk H
   clear H
   go_wp2_with (first | (go_at_call 57; (with_reducible refine (impl_widthOk.calls a1 t863 _ A6.out).mono ?_); rintro e w' ⟨rfl, ⟨nd, rfl⟩⟩))
   go_meet
   case rel => exact ⟨_, (!t863), (rf__), H', ⟨by first | omega | exact Nat.le_refl _⟩, ⟨blk__ BK862.out⟩, ⟨bel__⟩⟩
 case rest =>
  clear HC3
  try clear p2
  try clear c4
  try clear c5
  try clear c5b0
  try clear c5b1
  obtain ⟨kq, x17_2, rfl, HA, HJ2, BK862, HB⟩ := hcut
  cases kq with
  | zero => exact absurd HA.out (by simp [impl_ReadEntry.j0])
  | succ kj2 =>
   have H := HA.out
   clear HA
   simp only [impl_ReadEntry.j0] at H
   by_cases c7 : x17_2 = true
   ·subst c7
    have H1 : (some (0, (⟨#[]⟩ : ByteArray), (⟨#[]⟩ : ByteArray), 0, (⟨#[]⟩ : ByteArray), ([] : List ByteArray), false)) = some (r1, r2, r3, r4, r5, r6, r7) := by rw [if_pos rfl] at H; exact H
    clear H
    have H := H1
    clear H1
    simp only [Option.some.injEq, Prod.mk.injEq] at H
    obtain ⟨rfl, rfl, rfl, rfl, rfl, rfl, rfl⟩ := H
    have hcz8_0 : wc.cell? ⟨gb862, 0, none⟩ = some (.int .i64 0) := (blk_cell BK862.out 0).trans rfl
    have hcz8_1 : wc.cell? ⟨gb862, 1, none⟩ = some (.string (⟨#[]⟩ : ByteArray)) := (blk_cell BK862.out 1).trans rfl
    have hcz8_2 : wc.cell? ⟨gb862, 2, none⟩ = some (.string (⟨#[]⟩ : ByteArray)) := (blk_cell BK862.out 2).trans rfl
    have hcz8_3 : wc.cell? ⟨gb862, 3, none⟩ = some (.int .i64 0) := (blk_cell BK862.out 3).trans rfl
    have hcz8_4 : wc.cell? ⟨gb862, 4, none⟩ = some (.string (⟨#[]⟩ : ByteArray)) := (blk_cell BK862.out 4).trans rfl
    have hcz8_5 : wc.cell? ⟨gb862, 5, none⟩ = some (.slice none 0 0) := (blk_cell BK862.out 5).trans rfl
    have hfz8_0 := blk_frozen BK862.out 0
    have hfz8_1 := blk_frozen BK862.out 1
    have hfz8_2 := blk_frozen BK862.out 2
    have hfz8_3 := blk_frozen BK862.out 3
    have hfz8_4 := blk_frozen BK862.out 4
    have hfz8_5 := blk_frozen BK862.out 5
    go_wp2
    refine bodyPost_ret (results_ct rfl _ _ gb862 63 #[.int .i64 0, .string (⟨#[]⟩ : ByteArray), .string (⟨#[]⟩ : ByteArray), .int .i64 0, .string (⟨#[]⟩ : ByteArray), .slice none 0 0] (0, 0) _ rfl (bpu__ BK862.out) Try.underlying63 rfl (by kernel_rfl)) rfl ?_
    exact ⟨_, by first | rfl | (simp [errW_none, errW_some] <;> rfl) | (simp [*, errW_none, errW_some] <;> rfl), by first | exact Kd.R_nil _ _ _ _ _ | exact Kd.N_nil _ _ _ _ _ | exact Kd.V_nil _ _ _ _ _ | exact Kd.Q_nil _ _ _ _ _ | exact Kd.S_nil _ _ _ _ _, bel__⟩
   ·replace c7 := Bool.eq_false_iff.mpr c7
    subst c7
    have H1 : (if 5 < (a0.size : Int) then (if 0 < (a0.size : Int) then (if 1 ≤ 5 then (if 5 ≤ (a0.size : Int) then ((binary_bigEndian_Uint32.f (bytesOf (a0.extract 1 5))).bind fun t864 => (if 6 ≤ (a0.size : Int) then (impl_ReadEntry.j1 kj2 (a0.extract 6 a0.size) a1 (wrap64 (bt a0 5)) (wrap64 (bt a0 0)) (⟨#[]⟩ : ByteArray) (⟨#[]⟩ : ByteArray) (wrap64 (t864)) (⟨#[]⟩ : ByteArray)) else (none))) else (none)) else (none)) else (none)) else (none)) = some (r1, r2, r3, r4, r5, r6, r7) := by rw [if_neg (show ¬ (false = true) by decide)] at H; exact H
    clear H
    have H := H1
    clear H1
    by_cases c9 : 5 < (a0.size : Int)
    ·rw [if_pos c9] at H
     have c9b0 : decide (5 < (a0.size : Int)) = true := decide_eq_true c9
     have c9b1 : decide (5 < a0.size) = true := decide_eq_true (by omega)
     clear c9
     by_cases c11 : 0 < (a0.size : Int)
     ·rw [if_pos c11] at H
      have c11b0 : decide (0 < (a0.size : Int)) = true := decide_eq_true c11
      have c11b1 : decide (0 < a0.size) = true := decide_eq_true (by omega)
      clear c11
      by_cases c13 : 1 ≤ 5
      ·rw [if_pos c13] at H
       have c13b0 := eq_true c13
       have c13b1 : decide (1 ≤ 5) = true := decide_eq_true c13
       clear c13
       by_cases c14 : 5 ≤ (a0.size : Int)
       ·rw [if_pos c14] at H
        have c14b0 := eq_true c14
        have c14b1 : decide (5 ≤ (a0.size : Int)) = true := decide_eq_true c14
        clear c14
        replace H := Option.bind_eq_some_iff.mp H
        obtain ⟨t864, A150, H⟩ := H
        replace H : (if 6 ≤ (a0.size : Int) then (impl_ReadEntry.j1 kj2 (a0.extract 6 a0.size) a1 (wrap64 (bt a0 5)) (wrap64 (bt a0 0)) (⟨#[]⟩ : ByteArray) (⟨#[]⟩ : ByteArray) (wrap64 (t864)) (⟨#[]⟩ : ByteArray)) else (none)) = some (r1, r2, r3, r4, r5, r6, r7) := H
        have A15 := Aside0.mk A150
        clear A150
        have HC16 := Aside0.mk H
        clear H
        have p10 : 0 ≤ (5 : Int) := (by omega)
        have q10 : 5 < a0.size := (by have : (5 : Int) < (a0.size : Int) := of_decide_eq_true (by first | (with_reducible assumption) | assumption); omega)
        have hx10 : ∀ h : 5 < a0.size, ((a0[5]'h).toNat : Int) = bt a0 5 := bt_at a0 5
        clear p10
        have qi10 : (5 < (a0.size : Int)) = True := eq_true (of_decide_eq_true (by first | (with_reducible assumption) | assumption))
        replace q10 := eq_true q10
        try go_wp2
        have n0_ := am__ (blk_drew BK862.out)
        have n1_ := am__ (below_drew1 HB.out)
        clear BK862
        clear HB
        have BK862 := n0_
        have HB := n1_
        clear n0_ n1_
        have p12 : 0 ≤ (0 : Int) := (by omega)
        have q12 : 0 < a0.size := (by have : (0 : Int) < (a0.size : Int) := of_decide_eq_true (by first | (with_reducible assumption) | assumption); omega)
        have hx12 : ∀ h : 0 < a0.size, ((a0[0]'h).toNat : Int) = bt a0 0 := bt_at a0 0
        clear p12
        have qi12 : (0 < (a0.size : Int)) = True := eq_true (of_decide_eq_true (by first | (with_reducible assumption) | assumption))
        replace q12 := eq_true q12
        refine start_ (n := 12) (S := fun w' => True) (ds := []) #[false, false, false, false, false, false, false, false, false, false, false, false] (by kernel_rfl) rfl rfl trivial (fun hHeld => ?_); refine with_tabW impl_ReadEntry.tab4 impl_ReadEntry.bits4 (fun HT_ HW_ => ?_)
        generalize wc.drew = w17 at BK862 HB hHeld ⊢
        refine pu__ (i := 0) (N := some 22) #[true, false, false, false, false, false, false, false, false, false, false, false] HT_.out ?_
        refine pu__ (i := 4) (N := some 26) #[true, false, false, false, true, false, false, false, false, false, false, false] HT_.out ?_
        refine pu__ (i := 5) (N := some 27) #[true, false, false, false, true, true, false, false, false, false, false, false] HT_.out ?_
        refine ta__ (i := 1) (N := some 23) #[true, true, false, false, true, true, false, false, false, false, false, false] HT_.out HW_.out hHeld ?_
        refine pu__ (i := 2) (N := some 24) #[true, true, true, false, true, true, false, false, false, false, false, false] HT_.out ?_
        refine ta__ (i := 3) (N := some 25) #[true, true, true, true, true, true, false, false, false, false, false, false] HT_.out HW_.out hHeld ?_
        refine join_ (σ := Nat × Value) 1 #[true, true, true, true, true, true, true, true, true, true, true, false] (fun s_ => [(28, s_.2), (29, .int .u32 t864), (7, .pointer (some ⟨s_.1, 0, none⟩)), (30, .int .i64 (wrap64 (t864))), (31, .agg #[.int .i64 (wrap64 (bt a0 0)), .string (⟨#[]⟩ : ByteArray), .string (⟨#[]⟩ : ByteArray), .int .i64 (wrap64 (t864)), .string (⟨#[]⟩ : ByteArray), .slice none 0 0])]) (fun s_ w' => (w'.heap[gb862]? = some (.cells #[.int .i64 0, .string (⟨#[]⟩ : ByteArray), .string (⟨#[]⟩ : ByteArray), .int .i64 0, .string (⟨#[]⟩ : ByteArray), .slice none 0 0] 63 (0, 0))) ∧ (w'.heap[s_.1]? = some (.cells #[.int .i64 0, .string (⟨#[]⟩ : ByteArray), .string (⟨#[]⟩ : ByteArray), .int .i64 0, .string (⟨#[]⟩ : ByteArray), .slice none 0 0] 63 (0, 0))) ∧ (w.heap.size ≤ s_.1) ∧ (w.heap.size ≤ s_.1) ∧ (gb862 ≠ s_.1) ∧ (s_.1 ≠ gb862) ∧ (Below w.heap.size w w')) ?_ ?_
        rotate_left
        ·intro hCont
         refine two_ (i := 6) (j := 10) (Ni := some 28) (Nj := some 7) #[true, true, true, true, true, true, true, false, false, false, false, false] #[true, true, true, true, true, true, false, false, false, false, true, false] rfl rfl rfl rfl (two_of HT_.out (by kernel_rfl)) (by decide) (by decide) (fun K hK => ?_) (fun K hK => ?_)
         ·skip
          refine bytes_step (by rfl) (N := 28) rfl (src := 9) (dst := 52) (e := 5) (s := a0.extract 1 5) rfl (by rfl) Try.underlying9 Try.underlying52 Try.underlying5 (by rw [ByteArray.size_extract]; omega) ?_
          intro AQ cQ wQ hCQ hcQ hb
          have n0_ := am__ (blk_below BK862.out hb)
          have m_ := am__ (below_step HB.out hb)
          clear BK862 HB
          have BK862 := n0_
          have HB := m_
          have HRQ := Aside0.mk hCQ
          have HCQ := Aside0.mk hcQ
          clear n0_ m_ hCQ hcQ hb
          refine hK.out _ _ trivial (fun hHeld => ?_)
          clear hK K
          refine na__ 28 ?_
          refine two_ (i := 7) (j := 10) (Ni := some 29) (Nj := some 7) #[true, true, true, true, true, true, true, true, false, false, false, false] #[true, true, true, true, true, true, true, false, false, false, true, false] rfl rfl rfl rfl (two_of HT_.out (by kernel_rfl)) (by decide) (by decide) (fun K hK => ?_) (fun K hK => ?_)
          ·skip
           refine goes_ Try.func77 (by kernel_rfl) rfl #[.agg #[], .slice AQ (bytesOf (a0.extract 1 5)).length cQ] (by rfl) rfl rfl (ar__) ?_
           with_reducible refine (binary_bigEndian_Uint32.calls  _ _ (bytesOf (a0.extract 1 5)) t864 _ ?side1 ?side2 A15.out).mono ?_
           (case side1 => repeat (first | exact HRQ.out | (with_reducible refine Kd.C_alloc ?_ _) | (with_reducible refine Kd.C_drewN ?_ _) | (with_reducible refine Kd.C_drew ?_)))
           (case side2 => exact HCQ.out)
           rintro e w18 ⟨rfl, hb⟩
           refine ⟨_, rfl, ?_⟩
           have n0_ := am__ (blb__ BK862.out hb)
           have n1_ := am__ (below_step (bel__) hb)
           clear BK862
           clear HB
           have BK862 := n0_
           have HB := n1_
           clear n0_ n1_
           (try clear hb)
           (try clear hb2)
           (try clear hk)
           (try clear hi)
           refine hK.out _ _ trivial (fun hHeld => ?_)
           clear hK K
           refine na__ 29 ?_
           refine pu__ (i := 8) (N := some 30) #[true, true, true, true, true, true, true, true, true, false, false, false] HT_.out ?_
           refine pu__ (i := 9) (N := some 31) #[true, true, true, true, true, true, true, true, true, true, false, false] HT_.out ?_
           refine one_ (i := 10) (N := some 7) #[true, true, true, true, true, true, true, true, true, true, true, false] rfl rfl (one_of HT_.out (by kernel_rfl)) (by decide) (fun K hK => ?_)
           refine box_step ?hg (N := 7) ?hd (cs := #[.int .i64 0, .string (⟨#[]⟩ : ByteArray), .string (⟨#[]⟩ : ByteArray), .int .i64 0, .string (⟨#[]⟩ : ByteArray), .slice none 0 0]) (t := 63) ?hr ?_; (case hd => rfl); (case hg => rfl); (case hr => first | (go_simp; done) | (go_simp; rfl))
           intro gb865 hg w19 hbox hb
           have n0_ := am__ (blb__ BK862.out hb)
           have n1_ := am__ (below_step (bel__) hb)
           have n2_ := am__ (hbox)
           have n3_ := am__ ((bsz__ hg bel__ : w.heap.size ≤ gb865))
           have n4_ := am__ ((bsz__ hg bel__ : w.heap.size ≤ gb865))
           have n5_ := am__ ((nlt__ hg (blk_lt (g := gb862) (o := .cells #[.int .i64 0, .string (⟨#[]⟩ : ByteArray), .string (⟨#[]⟩ : ByteArray), .int .i64 0, .string (⟨#[]⟩ : ByteArray), .slice none 0 0] 63 (0, 0)) (blk__ BK862.out)) : gb862 ≠ gb865))
           have n6_ := am__ ((ngt__ hg (blk_lt (g := gb862) (o := .cells #[.int .i64 0, .string (⟨#[]⟩ : ByteArray), .string (⟨#[]⟩ : ByteArray), .int .i64 0, .string (⟨#[]⟩ : ByteArray), .slice none 0 0] 63 (0, 0)) (blk__ BK862.out)) : gb865 ≠ gb862))
           clear BK862
           clear HB
           have BK862 := n0_
           have HB := n1_
           have BK865 := n2_
           have GW865 := n3_
           have GE865 := n4_
           have NB862_865 := n5_
           have NB865_862 := n6_
           clear n0_ n1_ n2_ n3_ n4_ n5_ n6_
           clear hb hbox hg
           refine hK.out _ _ trivial (fun hHeld => ?_)
           clear hK K
           refine na__ 7 ?_
           exact norm_ (by simp only [putAll, Act.put, List.setIfInBounds_toArray, List.set_cons_zero, List.set_cons_succ]) (hCont (gb865, .slice AQ (bytesOf (a0.extract 1 5)).length cQ) _ ⟨(blk__ BK862.out), (blk__ BK865.out), GW865.out, GE865.out, NB862_865.out, NB865_862.out, (bel__)⟩)
          ·skip
           refine box_step ?hg (N := 7) ?hd (cs := #[.int .i64 0, .string (⟨#[]⟩ : ByteArray), .string (⟨#[]⟩ : ByteArray), .int .i64 0, .string (⟨#[]⟩ : ByteArray), .slice none 0 0]) (t := 63) ?hr ?_; (case hd => rfl); (case hg => rfl); (case hr => first | (go_simp; done) | (go_simp; rfl))
           intro gb865 hg w18 hbox hb
           have n0_ := am__ (blb__ BK862.out hb)
           have n1_ := am__ (below_step (bel__) hb)
           have n2_ := am__ (hbox)
           have n3_ := am__ ((bsz__ hg bel__ : w.heap.size ≤ gb865))
           have n4_ := am__ ((bsz__ hg bel__ : w.heap.size ≤ gb865))
           have n5_ := am__ ((nlt__ hg (blk_lt (g := gb862) (o := .cells #[.int .i64 0, .string (⟨#[]⟩ : ByteArray), .string (⟨#[]⟩ : ByteArray), .int .i64 0, .string (⟨#[]⟩ : ByteArray), .slice none 0 0] 63 (0, 0)) (blk__ BK862.out)) : gb862 ≠ gb865))
           have n6_ := am__ ((ngt__ hg (blk_lt (g := gb862) (o := .cells #[.int .i64 0, .string (⟨#[]⟩ : ByteArray), .string (⟨#[]⟩ : ByteArray), .int .i64 0, .string (⟨#[]⟩ : ByteArray), .slice none 0 0] 63 (0, 0)) (blk__ BK862.out)) : gb865 ≠ gb862))
           clear BK862
           clear HB
           have BK862 := n0_
           have HB := n1_
           have BK865 := n2_
           have GW865 := n3_
           have GE865 := n4_
           have NB862_865 := n5_
           have NB865_862 := n6_
           clear n0_ n1_ n2_ n3_ n4_ n5_ n6_
           have nQ_ := am__ (Kd.C_below HRQ.out hb)
           clear HRQ
           have HRQ := nQ_
           clear nQ_
           clear hb hbox hg
           refine hK.out _ _ trivial (fun hHeld => ?_)
           clear hK K
           refine na__ 7 ?_
           refine one_ (i := 7) (N := some 29) #[true, true, true, true, true, true, true, true, false, false, true, false] rfl rfl (one_of HT_.out (by kernel_rfl)) (by decide) (fun K hK => ?_)
           refine goes_ Try.func77 (by kernel_rfl) rfl #[.agg #[], .slice AQ (bytesOf (a0.extract 1 5)).length cQ] (by rfl) rfl rfl (ar__) ?_
           with_reducible refine (binary_bigEndian_Uint32.calls  _ _ (bytesOf (a0.extract 1 5)) t864 _ ?side1 ?side2 A15.out).mono ?_
           (case side1 => repeat (first | exact HRQ.out | (with_reducible refine Kd.C_alloc ?_ _) | (with_reducible refine Kd.C_drewN ?_ _) | (with_reducible refine Kd.C_drew ?_)))
           (case side2 => exact HCQ.out)
           rintro e w19 ⟨rfl, hb⟩
           refine ⟨_, rfl, ?_⟩
           have n0_ := am__ (blb__ BK862.out hb)
           have n1_ := am__ (blb__ BK865.out hb)
           have n2_ := am__ (below_step (bel__) hb)
           clear BK862
           clear BK865
           clear HB
           have BK862 := n0_
           have BK865 := n1_
           have HB := n2_
           clear n0_ n1_ n2_
           (try clear hb)
           (try clear hb2)
           (try clear hk)
           (try clear hi)
           refine hK.out _ _ trivial (fun hHeld => ?_)
           clear hK K
           refine na__ 29 ?_
           refine pu__ (i := 8) (N := some 30) #[true, true, true, true, true, true, true, true, true, false, true, false] HT_.out ?_
           refine pu__ (i := 9) (N := some 31) #[true, true, true, true, true, true, true, true, true, true, true, false] HT_.out ?_
           exact norm_ (by simp only [putAll, Act.put, List.setIfInBounds_toArray, List.set_cons_zero, List.set_cons_succ]) (hCont (gb865, .slice AQ (bytesOf (a0.extract 1 5)).length cQ) _ ⟨(blk__ BK862.out), (blk__ BK865.out), GW865.out, GE865.out, NB862_865.out, NB865_862.out, (bel__)⟩)
         ·skip
          refine box_step ?hg (N := 7) ?hd (cs := #[.int .i64 0, .string (⟨#[]⟩ : ByteArray), .string (⟨#[]⟩ : ByteArray), .int .i64 0, .string (⟨#[]⟩ : ByteArray), .slice none 0 0]) (t := 63) ?hr ?_; (case hd => rfl); (case hg => rfl); (case hr => first | (go_simp; done) | (go_simp; rfl))
          intro gb865 hg w18 hbox hb
          have n0_ := am__ (blb__ BK862.out hb)
          have n1_ := am__ (below_step (bel__) hb)
          have n2_ := am__ (hbox)
          have n3_ := am__ ((bsz__ hg bel__ : w.heap.size ≤ gb865))
          have n4_ := am__ ((bsz__ hg bel__ : w.heap.size ≤ gb865))
          have n5_ := am__ ((nlt__ hg (blk_lt (g := gb862) (o := .cells #[.int .i64 0, .string (⟨#[]⟩ : ByteArray), .string (⟨#[]⟩ : ByteArray), .int .i64 0, .string (⟨#[]⟩ : ByteArray), .slice none 0 0] 63 (0, 0)) (blk__ BK862.out)) : gb862 ≠ gb865))
          have n6_ := am__ ((ngt__ hg (blk_lt (g := gb862) (o := .cells #[.int .i64 0, .string (⟨#[]⟩ : ByteArray), .string (⟨#[]⟩ : ByteArray), .int .i64 0, .string (⟨#[]⟩ : ByteArray), .slice none 0 0] 63 (0, 0)) (blk__ BK862.out)) : gb865 ≠ gb862))
          clear BK862
          clear HB
          have BK862 := n0_
          have HB := n1_
          have BK865 := n2_
          have GW865 := n3_
          have GE865 := n4_
          have NB862_865 := n5_
          have NB865_862 := n6_
          clear n0_ n1_ n2_ n3_ n4_ n5_ n6_
          clear hb hbox hg
          refine hK.out _ _ trivial (fun hHeld => ?_)
          clear hK K
          refine na__ 7 ?_
          refine one_ (i := 6) (N := some 28) #[true, true, true, true, true, true, true, false, false, false, true, false] rfl rfl (one_of HT_.out (by kernel_rfl)) (by decide) (fun K hK => ?_)
          refine bytes_step (by rfl) (N := 28) rfl (src := 9) (dst := 52) (e := 5) (s := a0.extract 1 5) rfl (by rfl) Try.underlying9 Try.underlying52 Try.underlying5 (by rw [ByteArray.size_extract]; omega) ?_
          intro AQ cQ wQ hCQ hcQ hb
          have n0_ := am__ (blk_below BK862.out hb)
          have n1_ := am__ (blk_below BK865.out hb)
          have m_ := am__ (below_step HB.out hb)
          clear BK862 BK865 HB
          have BK862 := n0_
          have BK865 := n1_
          have HB := m_
          have HRQ := Aside0.mk hCQ
          have HCQ := Aside0.mk hcQ
          clear n0_ n1_ m_ hCQ hcQ hb
          refine hK.out _ _ trivial (fun hHeld => ?_)
          clear hK K
          refine na__ 28 ?_
          refine one_ (i := 7) (N := some 29) #[true, true, true, true, true, true, true, true, false, false, true, false] rfl rfl (one_of HT_.out (by kernel_rfl)) (by decide) (fun K hK => ?_)
          refine goes_ Try.func77 (by kernel_rfl) rfl #[.agg #[], .slice AQ (bytesOf (a0.extract 1 5)).length cQ] (by rfl) rfl rfl (ar__) ?_
          with_reducible refine (binary_bigEndian_Uint32.calls  _ _ (bytesOf (a0.extract 1 5)) t864 _ ?side1 ?side2 A15.out).mono ?_
          (case side1 => repeat (first | exact HRQ.out | (with_reducible refine Kd.C_alloc ?_ _) | (with_reducible refine Kd.C_drewN ?_ _) | (with_reducible refine Kd.C_drew ?_)))
          (case side2 => exact HCQ.out)
          rintro e w19 ⟨rfl, hb⟩
          refine ⟨_, rfl, ?_⟩
          have n0_ := am__ (blb__ BK862.out hb)
          have n1_ := am__ (blb__ BK865.out hb)
          have n2_ := am__ (below_step (bel__) hb)
          clear BK862
          clear BK865
          clear HB
          have BK862 := n0_
          have BK865 := n1_
          have HB := n2_
          clear n0_ n1_ n2_
          (try clear hb)
          (try clear hb2)
          (try clear hk)
          (try clear hi)
          refine hK.out _ _ trivial (fun hHeld => ?_)
          clear hK K
          refine na__ 29 ?_
          refine pu__ (i := 8) (N := some 30) #[true, true, true, true, true, true, true, true, true, false, true, false] HT_.out ?_
          refine pu__ (i := 9) (N := some 31) #[true, true, true, true, true, true, true, true, true, true, true, false] HT_.out ?_
          exact norm_ (by simp only [putAll, Act.put, List.setIfInBounds_toArray, List.set_cons_zero, List.set_cons_succ]) (hCont (gb865, .slice AQ (bytesOf (a0.extract 1 5)).length cQ) _ ⟨(blk__ BK862.out), (blk__ BK865.out), GW865.out, GE865.out, NB862_865.out, NB865_862.out, (bel__)⟩)
        rintro ⟨gb865, vQ⟩ w20 ⟨h0_, h1_, h2_, h3_, h4_, h5_, h6_⟩
        have n0_ : Aside0 (w20.heap[gb862]? = some (.cells #[.int .i64 0, .string (⟨#[]⟩ : ByteArray), .string (⟨#[]⟩ : ByteArray), .int .i64 0, .string (⟨#[]⟩ : ByteArray), .slice none 0 0] 63 (0, 0))) := ⟨h0_⟩
        have n1_ : Aside0 (w20.heap[gb865]? = some (.cells #[.int .i64 0, .string (⟨#[]⟩ : ByteArray), .string (⟨#[]⟩ : ByteArray), .int .i64 0, .string (⟨#[]⟩ : ByteArray), .slice none 0 0] 63 (0, 0))) := ⟨h1_⟩
        have n2_ : Aside0 (w.heap.size ≤ gb865) := ⟨h2_⟩
        have n3_ : Aside0 (w.heap.size ≤ gb865) := ⟨h3_⟩
        have n4_ : Aside0 (gb862 ≠ gb865) := ⟨h4_⟩
        have n5_ : Aside0 (gb865 ≠ gb862) := ⟨h5_⟩
        have n6_ : Aside0 (Below w.heap.size w w20) := ⟨h6_⟩
        clear BK862
        clear HB
        clear h0_ h1_ h2_ h3_ h4_ h5_ h6_
        have BK862 := n0_
        have BK865 := n1_
        have GW865 := n2_
        have GE865 := n3_
        have NB862_865 := n4_
        have NB865_862 := n5_
        have HB := n6_
        clear n0_ n1_ n2_ n3_ n4_ n5_ n6_
        have hHeld := trivial
        refine no__ ?_
        refine one_ (i := 11) (N := none) #[true, true, true, true, true, true, true, true, true, true, true, true] rfl rfl (one_of HT_.out (by kernel_rfl)) (by decide) (fun K hK => ?_)
        have hs21 : w20.cell? ⟨gb865, 0, none⟩ = some (.int .i64 0) := (blk_cell BK865.out 0).trans rfl
        have hfs21 := blk_frozen BK865.out 0
        have hns21_0 := NB862_865.out
        have hms21_0 := NB865_862.out
        have hs22 : w20.cell? ⟨gb865, 1, none⟩ = some (.string (⟨#[]⟩ : ByteArray)) := (blk_cell BK865.out 1).trans rfl
        have hfs22 := blk_frozen BK865.out 1
        have hns22_0 := NB862_865.out
        have hms22_0 := NB865_862.out
        have hs23 : w20.cell? ⟨gb865, 2, none⟩ = some (.string (⟨#[]⟩ : ByteArray)) := (blk_cell BK865.out 2).trans rfl
        have hfs23 := blk_frozen BK865.out 2
        have hns23_0 := NB862_865.out
        have hms23_0 := NB865_862.out
        have hs24 : w20.cell? ⟨gb865, 3, none⟩ = some (.int .i64 0) := (blk_cell BK865.out 3).trans rfl
        have hfs24 := blk_frozen BK865.out 3
        have hns24_0 := NB862_865.out
        have hms24_0 := NB865_862.out
        have hs25 : w20.cell? ⟨gb865, 4, none⟩ = some (.string (⟨#[]⟩ : ByteArray)) := (blk_cell BK865.out 4).trans rfl
        have hfs25 := blk_frozen BK865.out 4
        have hns25_0 := NB862_865.out
        have hms25_0 := NB865_862.out
        have hs26 : w20.cell? ⟨gb865, 5, none⟩ = some (.slice none 0 0) := (blk_cell BK865.out 5).trans rfl
        have hfs26 := blk_frozen BK865.out 5
        have hns26_0 := NB862_865.out
        have hms26_0 := NB865_862.out
        refine skip_ (w1 := ?_) (by rfl) rfl ?_ ?_
        rotate_left
        ·go_simp
         rfl
        refine hK.out _ _ trivial (fun hHeld => ?_)
        clear hK K
        refine done_ (done_of HT_.out (by kernel_rfl)) ?_
        go_upto_region 5 with (fail)
        go_cut [0] (fun v0 wc => ∃ (kq : Nat) (x0_15 : ByteArray), v0 = .string x0_15 ∧ Aside0 (impl_ReadEntry.j1 kq x0_15 a1 (wrap64 (bt a0 5)) (wrap64 (bt a0 0)) (⟨#[]⟩ : ByteArray) (⟨#[]⟩ : ByteArray) (wrap64 (t864)) (⟨#[]⟩ : ByteArray) = some (r1, r2, r3, r4, r5, r6, r7)) ∧ Aside0 (kq ≤ kj2) ∧ Aside0 (wc.heap[gb862]? = some (.cells #[.int .i64 0, .string (⟨#[]⟩ : ByteArray), .string (⟨#[]⟩ : ByteArray), .int .i64 0, .string (⟨#[]⟩ : ByteArray), (.slice none 0 0)] 63 (0, 0))) ∧ Aside0 (wc.heap[gb865]? = some (.cells #[.int .i64 (wrap64 (bt a0 0)), .string (⟨#[]⟩ : ByteArray), .string (⟨#[]⟩ : ByteArray), .int .i64 (wrap64 (t864)), .string (⟨#[]⟩ : ByteArray), (.slice none 0 0)] 63 (0, 0))) ∧ Aside0 (Below w.heap.size w wc))
        case first =>
         have H := HC16.out
         clear HC16
         by_cases c27 : 6 ≤ (a0.size : Int)
         ·rw [if_pos c27] at H
          have c27b0 := eq_true c27
          have c27b1 : decide (6 ≤ (a0.size : Int)) = true := decide_eq_true c27
          clear c27
          have H' := Aside0.mk H
          clear H
          go_wp2
          go_meet
          case rel => exact ⟨_, (a0.extract 6 a0.size), (rf__), H', ⟨by have := HJ2.out; first | omega | exact Nat.le_refl _⟩, ⟨blf6__ BK862.out⟩, ⟨bpu__ BK865.out⟩, ⟨bel__⟩⟩
         ·rw [if_neg c27] at H
          exact absurd H (by simp)
        case rest =>
         clear HC16
         try clear c1
         try clear p1
         try clear q1
         try clear hx1
         try clear qi1
         try clear c2
         try clear p2
         try clear c4
         try clear c5
         try clear c5b0
         try clear c5b1
         try clear p6
         try clear c7
         try clear c9
         try clear c9b0
         try clear c9b1
         try clear p10
         try clear q10
         try clear hx10
         try clear qi10
         try clear c11
         try clear c11b0
         try clear c11b1
         try clear p12
         try clear q12
         try clear hx12
         try clear qi12
         try clear c13
         try clear c13b0
         try clear c13b1
         try clear c14
         try clear c14b0
         try clear c14b1
         try clear c27
         try clear c27b0
         try clear c27b1
         try clear hcz8_0 hcz8_1 hcz8_2 hcz8_3 hcz8_4 hcz8_5 hfz8_0 hfz8_1 hfz8_2 hfz8_3 hfz8_4 hfz8_5
         try clear p10
         try clear p12
         try clear p2
         try clear q10
         try clear q12
         obtain ⟨kq, x0_15, rfl, HA, HJ15, BK862, BK865, HB⟩ := hcut
         cases kq with
         | zero => exact absurd HA.out (by simp [impl_ReadEntry.j1])
         | succ kj15 =>
          have H := HA.out
          clear HA
          simp only [impl_ReadEntry.j1] at H
          by_cases c28 : (wrap64 (bt a0 5)) > (x0_15.size : Int)
          ·rw [if_pos c28] at H
           have c28b0 : decide ((x0_15.size : Int) < (wrap64 (bt a0 5))) = true := decide_eq_true c28
           clear c28
           simp only [Option.some.injEq, Prod.mk.injEq] at H
           obtain ⟨rfl, rfl, rfl, rfl, rfl, rfl, rfl⟩ := H
           have hnb29 := NB862_865.out
           have hnc29 := NB865_862.out
           have hcz30_0 : wc.cell? ⟨gb862, 0, none⟩ = some (.int .i64 0) := (blk_cell BK862.out 0).trans rfl
           have hcz30_1 : wc.cell? ⟨gb862, 1, none⟩ = some (.string (⟨#[]⟩ : ByteArray)) := (blk_cell BK862.out 1).trans rfl
           have hcz30_2 : wc.cell? ⟨gb862, 2, none⟩ = some (.string (⟨#[]⟩ : ByteArray)) := (blk_cell BK862.out 2).trans rfl
           have hcz30_3 : wc.cell? ⟨gb862, 3, none⟩ = some (.int .i64 0) := (blk_cell BK862.out 3).trans rfl
           have hcz30_4 : wc.cell? ⟨gb862, 4, none⟩ = some (.string (⟨#[]⟩ : ByteArray)) := (blk_cell BK862.out 4).trans rfl
           have hcz30_5 : wc.cell? ⟨gb862, 5, none⟩ = some (.slice none 0 0) := (blk_cell BK862.out 5).trans rfl
           have hfz30_0 := blk_frozen BK862.out 0
           have hfz30_1 := blk_frozen BK862.out 1
           have hfz30_2 := blk_frozen BK862.out 2
           have hfz30_3 := blk_frozen BK862.out 3
           have hfz30_4 := blk_frozen BK862.out 4
           have hfz30_5 := blk_frozen BK862.out 5
           go_wp2
           refine bodyPost_ret (results_ct rfl _ _ gb862 63 #[.int .i64 0, .string (⟨#[]⟩ : ByteArray), .string (⟨#[]⟩ : ByteArray), .int .i64 0, .string (⟨#[]⟩ : ByteArray), .slice none 0 0] (0, 0) _ rfl (bpu__ BK862.out) Try.underlying63 rfl (by kernel_rfl)) rfl ?_
           exact ⟨_, by first | rfl | (simp [errW_none, errW_some] <;> rfl) | (simp [*, errW_none, errW_some] <;> rfl), by first | exact Kd.R_nil _ _ _ _ _ | exact Kd.N_nil _ _ _ _ _ | exact Kd.V_nil _ _ _ _ _ | exact Kd.Q_nil _ _ _ _ _ | exact Kd.S_nil _ _ _ _ _, bel__⟩
          ·rw [if_neg c28] at H
           have c28b0 : decide ((x0_15.size : Int) < (wrap64 (bt a0 5))) = false := decide_eq_false c28
           clear c28
           have HC31 := Aside0.mk H
           clear H
           go_upto_region 8 with (fail)
           go_cut [0] (fun v0 wc => ∃ (kq : Nat) (x0_30 : ByteArray) (x866002_30 : ByteArray), v0 = .string x0_30 ∧ Aside0 (impl_ReadEntry.j2 kq x0_30 a1 (wrap64 (bt a0 0)) (⟨#[]⟩ : ByteArray) x866002_30 (wrap64 (t864)) (⟨#[]⟩ : ByteArray) = some (r1, r2, r3, r4, r5, r6, r7)) ∧ Aside0 (kq ≤ kj15) ∧ Aside0 (wc.heap[gb862]? = some (.cells #[.int .i64 0, .string (⟨#[]⟩ : ByteArray), .string (⟨#[]⟩ : ByteArray), .int .i64 0, .string (⟨#[]⟩ : ByteArray), (.slice none 0 0)] 63 (0, 0))) ∧ Aside0 (wc.heap[gb865]? = some (.cells #[.int .i64 (wrap64 (bt a0 0)), .string (⟨#[]⟩ : ByteArray), .string x866002_30, .int .i64 (wrap64 (t864)), .string (⟨#[]⟩ : ByteArray), (.slice none 0 0)] 63 (0, 0))) ∧ Aside0 (Below w.heap.size w wc))
           case first =>
            have H := HC31.out
            clear HC31
            obtain ⟨ji32, hji32⟩ : ∃ j_ : Int, (wrap64 (bt a0 5)) = j_ := ⟨_, rfl⟩
            replace H : (if 0 ≤ (ji32) then (if (ji32) ≤ (x0_15.size : Int) then (impl_ReadEntry.j2 kj15 (x0_15.extract ((ji32) : Int).toNat x0_15.size) a1 (wrap64 (bt a0 0)) (⟨#[]⟩ : ByteArray) (x0_15.extract 0 ((ji32) : Int).toNat) (wrap64 (t864)) (⟨#[]⟩ : ByteArray)) else (none)) else (none)) = some (r1, r2, r3, r4, r5, r6, r7) := by first | (rw [hji32] at H; exact H) | (simp only [hji32] at H ⊢; exact H)
            (try rw [hji32] at c28b0)
            have hji32w : (IntKind.i64.wrap (bt a0 5)) = ji32 := (i64_w _).trans hji32
            by_cases c33 : 0 ≤ (ji32)
            ·rw [if_pos c33] at H
             have c33b0 := eq_true c33
             have c33b1 : decide (0 ≤ (ji32)) = true := decide_eq_true c33
             clear c33
             by_cases c34 : (ji32) ≤ (x0_15.size : Int)
             ·rw [if_pos c34] at H
              have c34b0 := eq_true c34
              have c34b1 : decide ((ji32) ≤ (x0_15.size : Int)) = true := decide_eq_true c34
              clear c34
              have c35b0 := eq_true (of_decide_eq_true (by first | (with_reducible assumption) | assumption) : 0 ≤ (ji32))
              have c36b0 := eq_true (of_decide_eq_true (by first | (with_reducible assumption) | assumption) : (ji32) ≤ (x0_15.size : Int))
              have H' := Aside0.mk H
              clear H
              try go_wp2
              have n0_ := am__ (blk_drew BK862.out)
              have n1_ := am__ (blk_drew BK865.out)
              have n2_ := am__ (below_drew1 HB.out)
              clear BK862
              clear BK865
              clear HB
              have BK862 := n0_
              have BK865 := n1_
              have HB := n2_
              clear n0_ n1_ n2_
              refine start_ (n := 9) (S := fun w' => True) (ds := []) #[false, false, false, false, false, false, false, false, false] (by kernel_rfl) rfl rfl trivial (fun hHeld => ?_); refine with_tabW impl_ReadEntry.tab8 impl_ReadEntry.bits8 (fun HT_ HW_ => ?_)
              generalize wc.drew = w37 at BK862 BK865 HB hHeld ⊢
              refine pu__ (i := 0) (N := some 39) #[true, false, false, false, false, false, false, false, false] HT_.out ?_
              refine pu__ (i := 1) (N := some 40) #[true, true, false, false, false, false, false, false, false] HT_.out ?_
              refine pu__ (i := 2) (N := some 41) #[true, true, true, false, false, false, false, false, false] HT_.out ?_
              refine pu__ (i := 3) (N := some 42) #[true, true, true, true, false, false, false, false, false] HT_.out ?_
              refine pu__ (i := 4) (N := some 43) #[true, true, true, true, true, false, false, false, false] HT_.out ?_
              refine pu__ (i := 5) (N := some 44) #[true, true, true, true, true, true, false, false, false] HT_.out ?_
              refine pu__ (i := 6) (N := some 45) #[true, true, true, true, true, true, true, false, false] HT_.out ?_
              refine one_ (i := 7) (N := none) #[true, true, true, true, true, true, true, true, false] rfl rfl (one_of HT_.out (by kernel_rfl)) (by decide) (fun K hK => ?_)
              have hs38 : w37.cell? ⟨gb865, 2, none⟩ = some (.string (⟨#[]⟩ : ByteArray)) := (blk_cell BK865.out 2).trans rfl
              have hfs38 := blk_frozen BK865.out 2
              have hns38_0 := NB862_865.out
              have hms38_0 := NB865_862.out
              refine skip_ (w1 := ?_) (by rfl) rfl ?_ ?_
              rotate_left
              ·go_simp
               rfl
              refine hK.out _ _ trivial (fun hHeld => ?_)
              clear hK K
              refine pu__ (i := 8) (N := some 0) #[true, true, true, true, true, true, true, true, true] HT_.out ?_
              refine done_ (done_of HT_.out (by kernel_rfl)) ?_
              try go_wp2
              go_meet
              case rel => exact ⟨_, (x0_15.extract ((ji32) : Int).toNat x0_15.size), (x0_15.extract 0 ((ji32) : Int).toNat), (by first | rfl | (simp; done) | (simp only [← hji32] <;> (first | rfl | simp)) | (simp [*]; done)), H', ⟨by have := HJ2.out; have := HJ15.out; first | omega | exact Nat.le_refl _⟩, ⟨blf1__ BK862.out⟩, ⟨bpu__ BK865.out⟩, ⟨bel__⟩⟩
             ·rw [if_neg c34] at H
              exact absurd H (by simp)
            ·rw [if_neg c33] at H
             exact absurd H (by simp)
           case rest =>
            clear HC31
            try clear c1
            try clear p1
            try clear q1
            try clear hx1
            try clear qi1
            try clear c2
            try clear p2
            try clear c3
            try clear c4
            try clear c5
            try clear c5b0
            try clear c5b1
            try clear p6
            try clear c7
            try clear c9
            try clear c9b0
            try clear c9b1
            try clear p10
            try clear q10
            try clear hx10
            try clear qi10
            try clear c11
            try clear c11b0
            try clear c11b1
            try clear p12
            try clear q12
            try clear hx12
            try clear qi12
            try clear c13
            try clear c13b0
            try clear c13b1
            try clear c14
            try clear c14b0
            try clear c14b1
            try clear c27
            try clear c27b0
            try clear c27b1
            try clear c28
            try clear c28b0
            try clear c29
            try clear c33
            try clear c33b0
            try clear c33b1
            try clear c34
            try clear c34b0
            try clear c34b1
            try clear c35
            try clear c35b0
            try clear c36
            try clear c36b0
            try clear hcz30_0 hcz30_1 hcz30_2 hcz30_3 hcz30_4 hcz30_5 hfz30_0 hfz30_1 hfz30_2 hfz30_3 hfz30_4 hfz30_5
            try clear hcz8_0 hcz8_1 hcz8_2 hcz8_3 hcz8_4 hcz8_5 hfz8_0 hfz8_1 hfz8_2 hfz8_3 hfz8_4 hfz8_5
            try clear p1
            try clear p10
            try clear p12
            try clear p2
            try clear p6
            try clear q1
            try clear q10
            try clear q12
            obtain ⟨kq, x0_30, x866002_30, rfl, HA, HJ30, BK862, BK865, HB⟩ := hcut
            cases kq with
            | zero => exact absurd HA.out (by simp [impl_ReadEntry.j2])
            | succ kj30 =>
             have H := HA.out
             clear HA
             simp only [impl_ReadEntry.j2] at H
             by_cases c39 : (wrap64 (bt a0 0)) = 1
             ·rw [if_pos c39] at H
              have c39b0 : ((wrap64 (bt a0 0)) == 1) = true := beq_iff_eq.mpr c39
              have c39b1 : ((wrap64 (bt a0 0)) != 1) = false := bne_eq_false_iff_eq.mpr c39
              clear c39
              replace H := Option.bind_eq_some_iff.mp H
              obtain ⟨⟨t866, t867, t870⟩, A400, H⟩ := H
              replace H : (if t870 = true then ((impl_entryOk.f kj30 (wrap64 (bt a0 0)) (⟨#[]⟩ : ByteArray) x866002_30 (wrap64 (t864)) t866 t867 a1).bind fun t872 => (if t872 = true then (some ((wrap64 (bt a0 0)), (⟨#[]⟩ : ByteArray), x866002_30, (wrap64 (t864)), t866, t867, true)) else (some (0, (⟨#[]⟩ : ByteArray), (⟨#[]⟩ : ByteArray), 0, (⟨#[]⟩ : ByteArray), ([] : List ByteArray), false)))) else (some (0, (⟨#[]⟩ : ByteArray), (⟨#[]⟩ : ByteArray), 0, (⟨#[]⟩ : ByteArray), ([] : List ByteArray), false))) = some (r1, r2, r3, r4, r5, r6, r7) := H
              have A40 := Aside0.mk A400
              clear A400
              by_cases c41 : t870 = true
              ·subst c41
               have H1 : ((impl_entryOk.f kj30 (wrap64 (bt a0 0)) (⟨#[]⟩ : ByteArray) x866002_30 (wrap64 (t864)) t866 t867 a1).bind fun t872 => (if t872 = true then (some ((wrap64 (bt a0 0)), (⟨#[]⟩ : ByteArray), x866002_30, (wrap64 (t864)), t866, t867, true)) else (some (0, (⟨#[]⟩ : ByteArray), (⟨#[]⟩ : ByteArray), 0, (⟨#[]⟩ : ByteArray), ([] : List ByteArray), false)))) = some (r1, r2, r3, r4, r5, r6, r7) := by rw [if_pos rfl] at H; exact H
               clear H
               have H := H1
               clear H1
               replace H := Option.bind_eq_some_iff.mp H
               obtain ⟨t872, A420, H⟩ := H
               replace H : (if t872 = true then (some ((wrap64 (bt a0 0)), (⟨#[]⟩ : ByteArray), x866002_30, (wrap64 (t864)), t866, t867, true)) else (some (0, (⟨#[]⟩ : ByteArray), (⟨#[]⟩ : ByteArray), 0, (⟨#[]⟩ : ByteArray), ([] : List ByteArray), false))) = some (r1, r2, r3, r4, r5, r6, r7) := H
               have A42 := Aside0.mk A420
               clear A420
               by_cases c43 : t872 = true
               ·subst c43
                have H1 : (some ((wrap64 (bt a0 0)), (⟨#[]⟩ : ByteArray), x866002_30, (wrap64 (t864)), t866, t867, true)) = some (r1, r2, r3, r4, r5, r6, r7) := by rw [if_pos rfl] at H; exact H
                clear H
                have H := H1
                clear H1
                simp only [Option.some.injEq, Prod.mk.injEq] at H
                obtain ⟨rfl, rfl, rfl, rfl, rfl, rfl, rfl⟩ := H
                have hnb44 := NB865_862.out
                have hnc44 := NB862_865.out
                have hcz45_0 : wc.cell? ⟨gb865, 0, none⟩ = some (.int .i64 (wrap64 (bt a0 0))) := (blk_cell BK865.out 0).trans rfl
                have hcz45_1 : wc.cell? ⟨gb865, 1, none⟩ = some (.string (⟨#[]⟩ : ByteArray)) := (blk_cell BK865.out 1).trans rfl
                have hcz45_2 : wc.cell? ⟨gb865, 2, none⟩ = some (.string x866002_30) := (blk_cell BK865.out 2).trans rfl
                have hcz45_3 : wc.cell? ⟨gb865, 3, none⟩ = some (.int .i64 (wrap64 (t864))) := (blk_cell BK865.out 3).trans rfl
                have hcz45_4 : wc.cell? ⟨gb865, 4, none⟩ = some (.string (⟨#[]⟩ : ByteArray)) := (blk_cell BK865.out 4).trans rfl
                have hcz45_5 : wc.cell? ⟨gb865, 5, none⟩ = some (.slice none 0 0) := (blk_cell BK865.out 5).trans rfl
                have hfz45_0 := blk_frozen BK865.out 0
                have hfz45_1 := blk_frozen BK865.out 1
                have hfz45_2 := blk_frozen BK865.out 2
                have hfz45_3 := blk_frozen BK865.out 3
                have hfz45_4 := blk_frozen BK865.out 4
                have hfz45_5 := blk_frozen BK865.out 5
                go_wp2_with (first | ((with_reducible refine gate_callee (f := 28) rfl ?_); refine gl__ (some 52) Try.func28 #[.string x0_30, .int .i64 a1] ?_; (with_reducible refine (impl_ReadThing.calls kj30 x0_30 a1 t866 t867 true _ A40.out).mono ?_); rintro e w46 ⟨v868, rfl, ho0, hb⟩; refine ⟨_, rfl, ?_⟩; have HO869 := am__ (Kd.R_lower ho0 (below_size (bel__))); replace BK862 := am__ (blb__ BK862.out hb); replace BK865 := am__ (blb__ BK865.out hb); replace HB := am__ (below_step (bel__) hb); clear hb; (try clear ho0)) | ((with_reducible refine gate_dst (N := 8) rfl ?_); refine be__ 8 #[.string (⟨#[]⟩ : ByteArray), .slice none 0 0] 38 ?_; intro gb871 hg w47 hbox hb; replace HO869 := am__ (Kd.R_below (rr__ HO869.out) hb); have BK871 := am__ (hbox); have GW871 := am__ ((bsz__ hg bel__ : w.heap.size ≤ gb871)); have GE871 := am__ ((bsz__ hg bel__ : w.heap.size ≤ gb871)); replace HB := am__ (below_step (bel__) hb); have NB862_871 := am__ ((nlt__ hg (blk_lt (g := gb862) (o := .cells #[.int .i64 0, .string (⟨#[]⟩ : ByteArray), .string (⟨#[]⟩ : ByteArray), .int .i64 0, .string (⟨#[]⟩ : ByteArray), .slice none 0 0] 63 (0, 0)) (blk__ BK862.out)) : gb862 ≠ gb871)); have NB871_862 := am__ ((ngt__ hg (blk_lt (g := gb862) (o := .cells #[.int .i64 0, .string (⟨#[]⟩ : ByteArray), .string (⟨#[]⟩ : ByteArray), .int .i64 0, .string (⟨#[]⟩ : ByteArray), .slice none 0 0] 63 (0, 0)) (blk__ BK862.out)) : gb871 ≠ gb862)); replace BK862 := am__ (blb__ BK862.out hb); have NB865_871 := am__ ((nlt__ hg (blk_lt (g := gb865) (o := .cells #[.int .i64 (wrap64 (bt a0 0)), .string (⟨#[]⟩ : ByteArray), .string x866002_30, .int .i64 (wrap64 (t864)), .string (⟨#[]⟩ : ByteArray), .slice none 0 0] 63 (0, 0)) (blk__ BK865.out)) : gb865 ≠ gb871)); have NB871_865 := am__ ((ngt__ hg (blk_lt (g := gb865) (o := .cells #[.int .i64 (wrap64 (bt a0 0)), .string (⟨#[]⟩ : ByteArray), .string x866002_30, .int .i64 (wrap64 (t864)), .string (⟨#[]⟩ : ByteArray), .slice none 0 0] 63 (0, 0)) (blk__ BK865.out)) : gb871 ≠ gb865)); replace BK865 := am__ (blb__ BK865.out hb); clear hb hbox hg; have hnb48 := NB871_862.out; have hnc48 := NB862_871.out; have hnb49 := NB871_865.out; have hnc49 := NB865_871.out; obtain ⟨hcz50_0, hcz50_1, hfz50_0, hfz50_1⟩ := bk2__ BK871.out; obtain ⟨Ao51, co51, eo51⟩ := Kd.R_slice HO869.out; subst eo51; obtain ⟨hcz52_0, hcz52_1, hcz52_2, hcz52_3, hcz52_4, hcz52_5, hfz52_0, hfz52_1, hfz52_2, hfz52_3, hfz52_4, hfz52_5⟩ := bk6__ BK865.out) | ((with_reducible refine gate_callee (f := 75) rfl ?_); refine gl__ (some 64) Try.func75 #[.agg #[.int .i64 (wrap64 (bt a0 0)), .string (⟨#[]⟩ : ByteArray), .string x866002_30, .int .i64 (wrap64 (t864)), .string t866, .slice Ao51 t867.length co51], .int .i64 a1] ?_; (with_reducible refine (impl_entryOk.calls kj30 (wrap64 (bt a0 0)) (⟨#[]⟩ : ByteArray) x866002_30 (wrap64 (t864)) t866 _ _ t867 a1 true _ ?side1 ?side2 A42.out).mono ?_); (case side1 => refine (Kd.R_reads' (e := 9) (base := w.heap.size) (ok := fun k_ => True) (n := t867.length) (c := co51) ?_).2.2; exact (by refine rps__ ?_; exact (Kd.R_mono (Kd.R_mono (Kd.R_far (p := ⟨gb865, 5, none⟩) (Kd.R_far (p := ⟨gb865, 4, none⟩) (Kd.R_far (p := ⟨gb871, 1, none⟩) (Kd.R_far (p := ⟨gb871, 0, none⟩) (Kd.R_types (Kd.R_types HO869.out BK871.out (by decide)) BK865.out (by decide)) (fun _ hk => hk.1.2) (.string t866)) (fun _ hk => hk.1.2) (.slice Ao51 t867.length co51)) h2__ (.string t866)) h2__ (.slice Ao51 t867.length co51)) h1__) h1__))); (case side2 => exact (Kd.R_reads' HO869.out).2.1); rintro e w53 ⟨rfl, hb⟩; refine ⟨_, rfl, ?_⟩; replace HO869 := am__ (Kd.R_below (by refine rps__ ?_; exact (Kd.R_mono (Kd.R_mono (Kd.R_far (p := ⟨gb865, 5, none⟩) (Kd.R_far (p := ⟨gb865, 4, none⟩) (Kd.R_far (p := ⟨gb871, 1, none⟩) (Kd.R_far (p := ⟨gb871, 0, none⟩) (Kd.R_types (Kd.R_types HO869.out BK871.out (by decide)) BK865.out (by decide)) (fun _ hk => hk.1.2) (.string t866)) (fun _ hk => hk.1.2) (.slice Ao51 t867.length co51)) h2__ (.string t866)) h2__ (.slice Ao51 t867.length co51)) h1__) h1__)) hb); replace BK862 := am__ (blk_below (g := gb862) (o := .cells #[.int .i64 0, .string (⟨#[]⟩ : ByteArray), .string (⟨#[]⟩ : ByteArray), .int .i64 0, .string (⟨#[]⟩ : ByteArray), .slice none 0 0] 63 (0, 0)) (blf4__ BK862.out) hb); replace BK865 := am__ (blk_below (g := gb865) (o := .cells #[.int .i64 (wrap64 (bt a0 0)), .string (⟨#[]⟩ : ByteArray), .string x866002_30, .int .i64 (wrap64 (t864)), .string t866, .slice Ao51 t867.length co51] 63 (0, 0)) (bpu__ BK865.out) hb); replace BK871 := am__ (blk_below (g := gb871) (o := .cells #[.string t866, .slice Ao51 t867.length co51] 38 (0, 0)) (bpu__ BK871.out) hb); replace HB := am__ (below_step (bel__) hb); clear hb; obtain ⟨hcz54_0, hcz54_1, hcz54_2, hcz54_3, hcz54_4, hcz54_5, hfz54_0, hfz54_1, hfz54_2, hfz54_3, hfz54_4, hfz54_5⟩ := bk6__ BK865.out; obtain ⟨hcz55_0, hcz55_1, hcz55_2, hcz55_3, hcz55_4, hcz55_5, hfz55_0, hfz55_1, hfz55_2, hfz55_3, hfz55_4, hfz55_5⟩ := bk6__ BK862.out))
                refine bodyPost_ret (results_ct rfl _ _ gb862 63 #[.int .i64 (wrap64 (bt a0 0)), .string (⟨#[]⟩ : ByteArray), .string x866002_30, .int .i64 (wrap64 (t864)), .string t866, .slice Ao51 t867.length co51] (0, 0) _ rfl (bpu__ BK862.out) Try.underlying63 rfl (by kernel_rfl)) rfl ?_
                exact ⟨_, by first | rfl | (simp [errW_none, errW_some] <;> rfl) | (simp [*, errW_none, errW_some] <;> rfl), by refine rps__ ?_; exact Kd.R_mono (Kd.R_far (p := ⟨gb862, 5, none⟩) (Kd.R_far (p := ⟨gb862, 4, none⟩) (Kd.R_far (p := ⟨gb862, 3, none⟩) (Kd.R_far (p := ⟨gb862, 2, none⟩) (Kd.R_far (p := ⟨gb862, 1, none⟩) (Kd.R_far (p := ⟨gb862, 0, none⟩) (Kd.R_types HO869.out BK862.out (by decide)) h2__ (.int .i64 (wrap64 (bt a0 0)))) h2__ (.string (⟨#[]⟩ : ByteArray))) h2__ (.string x866002_30)) h2__ (.int .i64 (wrap64 (t864)))) h2__ (.string t866)) h2__ (.slice Ao51 t867.length co51)) (fun _ hk => trivial), bel__⟩
               ·replace c43 := Bool.eq_false_iff.mpr c43
                subst c43
                have H1 : (some (0, (⟨#[]⟩ : ByteArray), (⟨#[]⟩ : ByteArray), 0, (⟨#[]⟩ : ByteArray), ([] : List ByteArray), false)) = some (r1, r2, r3, r4, r5, r6, r7) := by rw [if_neg (show ¬ (false = true) by decide)] at H; exact H
                clear H
                have H := H1
                clear H1
                simp only [Option.some.injEq, Prod.mk.injEq] at H
                obtain ⟨rfl, rfl, rfl, rfl, rfl, rfl, rfl⟩ := H
                have hnb56 := NB865_862.out
                have hnc56 := NB862_865.out
                have hcz57_0 : wc.cell? ⟨gb865, 0, none⟩ = some (.int .i64 (wrap64 (bt a0 0))) := (blk_cell BK865.out 0).trans rfl
                have hcz57_1 : wc.cell? ⟨gb865, 1, none⟩ = some (.string (⟨#[]⟩ : ByteArray)) := (blk_cell BK865.out 1).trans rfl
                have hcz57_2 : wc.cell? ⟨gb865, 2, none⟩ = some (.string x866002_30) := (blk_cell BK865.out 2).trans rfl
                have hcz57_3 : wc.cell? ⟨gb865, 3, none⟩ = some (.int .i64 (wrap64 (t864))) := (blk_cell BK865.out 3).trans rfl
                have hcz57_4 : wc.cell? ⟨gb865, 4, none⟩ = some (.string (⟨#[]⟩ : ByteArray)) := (blk_cell BK865.out 4).trans rfl
                have hcz57_5 : wc.cell? ⟨gb865, 5, none⟩ = some (.slice none 0 0) := (blk_cell BK865.out 5).trans rfl
                have hfz57_0 := blk_frozen BK865.out 0
                have hfz57_1 := blk_frozen BK865.out 1
                have hfz57_2 := blk_frozen BK865.out 2
                have hfz57_3 := blk_frozen BK865.out 3
                have hfz57_4 := blk_frozen BK865.out 4
                have hfz57_5 := blk_frozen BK865.out 5
                go_wp2_with (first | ((with_reducible refine gate_callee (f := 28) rfl ?_); refine gl__ (some 52) Try.func28 #[.string x0_30, .int .i64 a1] ?_; (with_reducible refine (impl_ReadThing.calls kj30 x0_30 a1 t866 t867 true _ A40.out).mono ?_); rintro e w58 ⟨v868, rfl, ho0, hb⟩; refine ⟨_, rfl, ?_⟩; have HO869 := am__ (Kd.R_lower ho0 (below_size (bel__))); replace BK862 := am__ (blb__ BK862.out hb); replace BK865 := am__ (blb__ BK865.out hb); replace HB := am__ (below_step (bel__) hb); clear hb; (try clear ho0)) | ((with_reducible refine gate_dst (N := 8) rfl ?_); refine be__ 8 #[.string (⟨#[]⟩ : ByteArray), .slice none 0 0] 38 ?_; intro gb871 hg w59 hbox hb; replace HO869 := am__ (Kd.R_below (rr__ HO869.out) hb); have BK871 := am__ (hbox); have GW871 := am__ ((bsz__ hg bel__ : w.heap.size ≤ gb871)); have GE871 := am__ ((bsz__ hg bel__ : w.heap.size ≤ gb871)); replace HB := am__ (below_step (bel__) hb); have NB862_871 := am__ ((nlt__ hg (blk_lt (g := gb862) (o := .cells #[.int .i64 0, .string (⟨#[]⟩ : ByteArray), .string (⟨#[]⟩ : ByteArray), .int .i64 0, .string (⟨#[]⟩ : ByteArray), .slice none 0 0] 63 (0, 0)) (blk__ BK862.out)) : gb862 ≠ gb871)); have NB871_862 := am__ ((ngt__ hg (blk_lt (g := gb862) (o := .cells #[.int .i64 0, .string (⟨#[]⟩ : ByteArray), .string (⟨#[]⟩ : ByteArray), .int .i64 0, .string (⟨#[]⟩ : ByteArray), .slice none 0 0] 63 (0, 0)) (blk__ BK862.out)) : gb871 ≠ gb862)); replace BK862 := am__ (blb__ BK862.out hb); have NB865_871 := am__ ((nlt__ hg (blk_lt (g := gb865) (o := .cells #[.int .i64 (wrap64 (bt a0 0)), .string (⟨#[]⟩ : ByteArray), .string x866002_30, .int .i64 (wrap64 (t864)), .string (⟨#[]⟩ : ByteArray), .slice none 0 0] 63 (0, 0)) (blk__ BK865.out)) : gb865 ≠ gb871)); have NB871_865 := am__ ((ngt__ hg (blk_lt (g := gb865) (o := .cells #[.int .i64 (wrap64 (bt a0 0)), .string (⟨#[]⟩ : ByteArray), .string x866002_30, .int .i64 (wrap64 (t864)), .string (⟨#[]⟩ : ByteArray), .slice none 0 0] 63 (0, 0)) (blk__ BK865.out)) : gb871 ≠ gb865)); replace BK865 := am__ (blb__ BK865.out hb); clear hb hbox hg; have hnb60 := NB871_862.out; have hnc60 := NB862_871.out; have hnb61 := NB871_865.out; have hnc61 := NB865_871.out; obtain ⟨hcz62_0, hcz62_1, hfz62_0, hfz62_1⟩ := bk2__ BK871.out; obtain ⟨Ao63, co63, eo63⟩ := Kd.R_slice HO869.out; subst eo63; obtain ⟨hcz64_0, hcz64_1, hcz64_2, hcz64_3, hcz64_4, hcz64_5, hfz64_0, hfz64_1, hfz64_2, hfz64_3, hfz64_4, hfz64_5⟩ := bk6__ BK865.out) | ((with_reducible refine gate_callee (f := 75) rfl ?_); refine gl__ (some 64) Try.func75 #[.agg #[.int .i64 (wrap64 (bt a0 0)), .string (⟨#[]⟩ : ByteArray), .string x866002_30, .int .i64 (wrap64 (t864)), .string t866, .slice Ao63 t867.length co63], .int .i64 a1] ?_; (with_reducible refine (impl_entryOk.calls kj30 (wrap64 (bt a0 0)) (⟨#[]⟩ : ByteArray) x866002_30 (wrap64 (t864)) t866 _ _ t867 a1 false _ ?side1 ?side2 A42.out).mono ?_); (case side1 => refine (Kd.R_reads' (e := 9) (base := w.heap.size) (ok := fun k_ => True) (n := t867.length) (c := co63) ?_).2.2; exact (by refine rps__ ?_; exact (Kd.R_mono (Kd.R_mono (Kd.R_far (p := ⟨gb865, 5, none⟩) (Kd.R_far (p := ⟨gb865, 4, none⟩) (Kd.R_far (p := ⟨gb871, 1, none⟩) (Kd.R_far (p := ⟨gb871, 0, none⟩) (Kd.R_types (Kd.R_types HO869.out BK871.out (by decide)) BK865.out (by decide)) (fun _ hk => hk.1.2) (.string t866)) (fun _ hk => hk.1.2) (.slice Ao63 t867.length co63)) h2__ (.string t866)) h2__ (.slice Ao63 t867.length co63)) h1__) h1__))); (case side2 => exact (Kd.R_reads' HO869.out).2.1); rintro e w65 ⟨rfl, hb⟩; refine ⟨_, rfl, ?_⟩; replace HO869 := am__ (Kd.R_below (by refine rps__ ?_; exact (Kd.R_mono (Kd.R_mono (Kd.R_far (p := ⟨gb865, 5, none⟩) (Kd.R_far (p := ⟨gb865, 4, none⟩) (Kd.R_far (p := ⟨gb871, 1, none⟩) (Kd.R_far (p := ⟨gb871, 0, none⟩) (Kd.R_types (Kd.R_types HO869.out BK871.out (by decide)) BK865.out (by decide)) (fun _ hk => hk.1.2) (.string t866)) (fun _ hk => hk.1.2) (.slice Ao63 t867.length co63)) h2__ (.string t866)) h2__ (.slice Ao63 t867.length co63)) h1__) h1__)) hb); replace BK862 := am__ (blk_below (g := gb862) (o := .cells #[.int .i64 0, .string (⟨#[]⟩ : ByteArray), .string (⟨#[]⟩ : ByteArray), .int .i64 0, .string (⟨#[]⟩ : ByteArray), .slice none 0 0] 63 (0, 0)) (blf4__ BK862.out) hb); replace BK865 := am__ (blk_below (g := gb865) (o := .cells #[.int .i64 (wrap64 (bt a0 0)), .string (⟨#[]⟩ : ByteArray), .string x866002_30, .int .i64 (wrap64 (t864)), .string t866, .slice Ao63 t867.length co63] 63 (0, 0)) (bpu__ BK865.out) hb); replace BK871 := am__ (blk_below (g := gb871) (o := .cells #[.string t866, .slice Ao63 t867.length co63] 38 (0, 0)) (bpu__ BK871.out) hb); replace HB := am__ (below_step (bel__) hb); clear hb; obtain ⟨hcz66_0, hcz66_1, hcz66_2, hcz66_3, hcz66_4, hcz66_5, hfz66_0, hfz66_1, hfz66_2, hfz66_3, hfz66_4, hfz66_5⟩ := bk6__ BK862.out))
                refine bodyPost_ret (results_ct rfl _ _ gb862 63 #[.int .i64 0, .string (⟨#[]⟩ : ByteArray), .string (⟨#[]⟩ : ByteArray), .int .i64 0, .string (⟨#[]⟩ : ByteArray), .slice none 0 0] (0, 0) _ rfl (bpu__ BK862.out) Try.underlying63 rfl (by kernel_rfl)) rfl ?_
                exact ⟨_, by first | rfl | (simp [errW_none, errW_some] <;> rfl) | (simp [*, errW_none, errW_some] <;> rfl), by first | exact Kd.R_nil _ _ _ _ _ | exact Kd.N_nil _ _ _ _ _ | exact Kd.V_nil _ _ _ _ _ | exact Kd.Q_nil _ _ _ _ _ | exact Kd.S_nil _ _ _ _ _, bel__⟩
              ·replace c41 := Bool.eq_false_iff.mpr c41
               subst c41
               have H1 : (some (0, (⟨#[]⟩ : ByteArray), (⟨#[]⟩ : ByteArray), 0, (⟨#[]⟩ : ByteArray), ([] : List ByteArray), false)) = some (r1, r2, r3, r4, r5, r6, r7) := by rw [if_neg (show ¬ (false = true) by decide)] at H; exact H
               clear H
               have H := H1
               clear H1
               simp only [Option.some.injEq, Prod.mk.injEq] at H
               obtain ⟨rfl, rfl, rfl, rfl, rfl, rfl, rfl⟩ := H
               have hnb67 := NB865_862.out
               have hnc67 := NB862_865.out
               have hcz68_0 : wc.cell? ⟨gb865, 0, none⟩ = some (.int .i64 (wrap64 (bt a0 0))) := (blk_cell BK865.out 0).trans rfl
               have hcz68_1 : wc.cell? ⟨gb865, 1, none⟩ = some (.string (⟨#[]⟩ : ByteArray)) := (blk_cell BK865.out 1).trans rfl
               have hcz68_2 : wc.cell? ⟨gb865, 2, none⟩ = some (.string x866002_30) := (blk_cell BK865.out 2).trans rfl
               have hcz68_3 : wc.cell? ⟨gb865, 3, none⟩ = some (.int .i64 (wrap64 (t864))) := (blk_cell BK865.out 3).trans rfl
               have hcz68_4 : wc.cell? ⟨gb865, 4, none⟩ = some (.string (⟨#[]⟩ : ByteArray)) := (blk_cell BK865.out 4).trans rfl
               have hcz68_5 : wc.cell? ⟨gb865, 5, none⟩ = some (.slice none 0 0) := (blk_cell BK865.out 5).trans rfl
               have hfz68_0 := blk_frozen BK865.out 0
               have hfz68_1 := blk_frozen BK865.out 1
               have hfz68_2 := blk_frozen BK865.out 2
               have hfz68_3 := blk_frozen BK865.out 3
               have hfz68_4 := blk_frozen BK865.out 4
               have hfz68_5 := blk_frozen BK865.out 5
               go_wp2_with (first | ((with_reducible refine gate_callee (f := 28) rfl ?_); refine gl__ (some 52) Try.func28 #[.string x0_30, .int .i64 a1] ?_; (with_reducible refine (impl_ReadThing.calls kj30 x0_30 a1 t866 t867 false _ A40.out).mono ?_); rintro e w69 ⟨v868, rfl, ho0, hb⟩; refine ⟨_, rfl, ?_⟩; have HO869 := am__ (Kd.R_lower ho0 (below_size (bel__))); replace BK862 := am__ (blb__ BK862.out hb); replace BK865 := am__ (blb__ BK865.out hb); replace HB := am__ (below_step (bel__) hb); clear hb; (try clear ho0)) | ((with_reducible refine gate_dst (N := 8) rfl ?_); refine be__ 8 #[.string (⟨#[]⟩ : ByteArray), .slice none 0 0] 38 ?_; intro gb871 hg w70 hbox hb; replace HO869 := am__ (Kd.R_below (rr__ HO869.out) hb); have BK871 := am__ (hbox); have GW871 := am__ ((bsz__ hg bel__ : w.heap.size ≤ gb871)); have GE871 := am__ ((bsz__ hg bel__ : w.heap.size ≤ gb871)); replace HB := am__ (below_step (bel__) hb); have NB862_871 := am__ ((nlt__ hg (blk_lt (g := gb862) (o := .cells #[.int .i64 0, .string (⟨#[]⟩ : ByteArray), .string (⟨#[]⟩ : ByteArray), .int .i64 0, .string (⟨#[]⟩ : ByteArray), .slice none 0 0] 63 (0, 0)) (blk__ BK862.out)) : gb862 ≠ gb871)); have NB871_862 := am__ ((ngt__ hg (blk_lt (g := gb862) (o := .cells #[.int .i64 0, .string (⟨#[]⟩ : ByteArray), .string (⟨#[]⟩ : ByteArray), .int .i64 0, .string (⟨#[]⟩ : ByteArray), .slice none 0 0] 63 (0, 0)) (blk__ BK862.out)) : gb871 ≠ gb862)); replace BK862 := am__ (blb__ BK862.out hb); have NB865_871 := am__ ((nlt__ hg (blk_lt (g := gb865) (o := .cells #[.int .i64 (wrap64 (bt a0 0)), .string (⟨#[]⟩ : ByteArray), .string x866002_30, .int .i64 (wrap64 (t864)), .string (⟨#[]⟩ : ByteArray), .slice none 0 0] 63 (0, 0)) (blk__ BK865.out)) : gb865 ≠ gb871)); have NB871_865 := am__ ((ngt__ hg (blk_lt (g := gb865) (o := .cells #[.int .i64 (wrap64 (bt a0 0)), .string (⟨#[]⟩ : ByteArray), .string x866002_30, .int .i64 (wrap64 (t864)), .string (⟨#[]⟩ : ByteArray), .slice none 0 0] 63 (0, 0)) (blk__ BK865.out)) : gb871 ≠ gb865)); replace BK865 := am__ (blb__ BK865.out hb); clear hb hbox hg; have hnb71 := NB871_862.out; have hnc71 := NB862_871.out; have hnb72 := NB871_865.out; have hnc72 := NB865_871.out; obtain ⟨hcz73_0, hcz73_1, hfz73_0, hfz73_1⟩ := bk2__ BK871.out; obtain ⟨Ao74, co74, eo74⟩ := Kd.R_slice HO869.out; subst eo74; obtain ⟨hcz75_0, hcz75_1, hcz75_2, hcz75_3, hcz75_4, hcz75_5, hfz75_0, hfz75_1, hfz75_2, hfz75_3, hfz75_4, hfz75_5⟩ := bk6__ BK862.out))
               refine bodyPost_ret (results_ct rfl _ _ gb862 63 #[.int .i64 0, .string (⟨#[]⟩ : ByteArray), .string (⟨#[]⟩ : ByteArray), .int .i64 0, .string (⟨#[]⟩ : ByteArray), .slice none 0 0] (0, 0) _ rfl (bpu__ BK862.out) Try.underlying63 rfl (by kernel_rfl)) rfl ?_
               exact ⟨_, by first | rfl | (simp [errW_none, errW_some] <;> rfl) | (simp [*, errW_none, errW_some] <;> rfl), by first | exact Kd.R_nil _ _ _ _ _ | exact Kd.N_nil _ _ _ _ _ | exact Kd.V_nil _ _ _ _ _ | exact Kd.Q_nil _ _ _ _ _ | exact Kd.S_nil _ _ _ _ _, bel__⟩
             ·rw [if_neg c39] at H
              have c39b0 : ((wrap64 (bt a0 0)) == 1) = false := beq_eq_false_iff_ne.mpr c39
              have c39b1 : ((wrap64 (bt a0 0)) != 1) = true := bne_iff_ne.mpr c39
              replace H := Option.bind_eq_some_iff.mp H
              obtain ⟨t873, A760, H⟩ := H
              replace H : (if t873 = true then (some ((wrap64 (bt a0 0)), x0_30, x866002_30, (wrap64 (t864)), (⟨#[]⟩ : ByteArray), ([] : List ByteArray), true)) else (some (0, (⟨#[]⟩ : ByteArray), (⟨#[]⟩ : ByteArray), 0, (⟨#[]⟩ : ByteArray), ([] : List ByteArray), false))) = some (r1, r2, r3, r4, r5, r6, r7) := H
              have A76 := Aside0.mk A760
              clear A760
              by_cases c77 : t873 = true
              ·subst c77
               have H1 : (some ((wrap64 (bt a0 0)), x0_30, x866002_30, (wrap64 (t864)), (⟨#[]⟩ : ByteArray), ([] : List ByteArray), true)) = some (r1, r2, r3, r4, r5, r6, r7) := by rw [if_pos rfl] at H; exact H
               clear H
               have H := H1
               clear H1
               simp only [Option.some.injEq, Prod.mk.injEq] at H
               obtain ⟨rfl, rfl, rfl, rfl, rfl, rfl, rfl⟩ := H
               have hnb78 := NB865_862.out
               have hnc78 := NB862_865.out
               have hcz79_0 : wc.cell? ⟨gb865, 0, none⟩ = some (.int .i64 (wrap64 (bt a0 0))) := (blk_cell BK865.out 0).trans rfl
               have hcz79_1 : wc.cell? ⟨gb865, 1, none⟩ = some (.string (⟨#[]⟩ : ByteArray)) := (blk_cell BK865.out 1).trans rfl
               have hcz79_2 : wc.cell? ⟨gb865, 2, none⟩ = some (.string x866002_30) := (blk_cell BK865.out 2).trans rfl
               have hcz79_3 : wc.cell? ⟨gb865, 3, none⟩ = some (.int .i64 (wrap64 (t864))) := (blk_cell BK865.out 3).trans rfl
               have hcz79_4 : wc.cell? ⟨gb865, 4, none⟩ = some (.string (⟨#[]⟩ : ByteArray)) := (blk_cell BK865.out 4).trans rfl
               have hcz79_5 : wc.cell? ⟨gb865, 5, none⟩ = some (.slice none 0 0) := (blk_cell BK865.out 5).trans rfl
               have hfz79_0 := blk_frozen BK865.out 0
               have hfz79_1 := blk_frozen BK865.out 1
               have hfz79_2 := blk_frozen BK865.out 2
               have hfz79_3 := blk_frozen BK865.out 3
               have hfz79_4 := blk_frozen BK865.out 4
               have hfz79_5 := blk_frozen BK865.out 5
               go_wp2_with (first | ((with_reducible refine gate_callee (f := 75) rfl ?_); refine gl__ (some 64) Try.func75 #[.agg #[.int .i64 (wrap64 (bt a0 0)), .string x0_30, .string x866002_30, .int .i64 (wrap64 (t864)), .string (⟨#[]⟩ : ByteArray), .slice none 0 0], .int .i64 a1] ?_; (refine (impl_entryOk.calls kj30 (wrap64 (bt a0 0)) x0_30 x866002_30 (wrap64 (t864)) (⟨#[]⟩ : ByteArray) _ _ ([] : List ByteArray) a1 true _ ?side1 ?side2 A76.out).mono ?_); (case side1 => exact Kd.C_nil _ _); (case side2 => exact Nat.le_refl _); rintro e w80 ⟨rfl, hb⟩; refine ⟨_, rfl, ?_⟩; replace BK862 := am__ (blk_below (g := gb862) (o := .cells #[.int .i64 0, .string (⟨#[]⟩ : ByteArray), .string (⟨#[]⟩ : ByteArray), .int .i64 0, .string (⟨#[]⟩ : ByteArray), .slice none 0 0] 63 (0, 0)) (blf1__ BK862.out) hb); replace BK865 := am__ (blk_below (g := gb865) (o := .cells #[.int .i64 (wrap64 (bt a0 0)), .string x0_30, .string x866002_30, .int .i64 (wrap64 (t864)), .string (⟨#[]⟩ : ByteArray), .slice none 0 0] 63 (0, 0)) (bpu__ BK865.out) hb); replace HB := am__ (below_step (bel__) hb); clear hb; obtain ⟨hcz81_0, hcz81_1, hcz81_2, hcz81_3, hcz81_4, hcz81_5, hfz81_0, hfz81_1, hfz81_2, hfz81_3, hfz81_4, hfz81_5⟩ := bk6__ BK865.out; obtain ⟨hcz82_0, hcz82_1, hcz82_2, hcz82_3, hcz82_4, hcz82_5, hfz82_0, hfz82_1, hfz82_2, hfz82_3, hfz82_4, hfz82_5⟩ := bk6__ BK862.out))
               refine bodyPost_ret (results_ct rfl _ _ gb862 63 #[.int .i64 (wrap64 (bt a0 0)), .string x0_30, .string x866002_30, .int .i64 (wrap64 (t864)), .string (⟨#[]⟩ : ByteArray), .slice none 0 0] (0, 0) _ rfl (bpu__ BK862.out) Try.underlying63 rfl (by kernel_rfl)) rfl ?_
               exact ⟨_, by first | rfl | (simp [errW_none, errW_some] <;> rfl) | (simp [*, errW_none, errW_some] <;> rfl), by first | exact Kd.R_nil _ _ _ _ _ | exact Kd.N_nil _ _ _ _ _ | exact Kd.V_nil _ _ _ _ _ | exact Kd.Q_nil _ _ _ _ _ | exact Kd.S_nil _ _ _ _ _, bel__⟩
              ·replace c77 := Bool.eq_false_iff.mpr c77
               subst c77
               have H1 : (some (0, (⟨#[]⟩ : ByteArray), (⟨#[]⟩ : ByteArray), 0, (⟨#[]⟩ : ByteArray), ([] : List ByteArray), false)) = some (r1, r2, r3, r4, r5, r6, r7) := by rw [if_neg (show ¬ (false = true) by decide)] at H; exact H
               clear H
               have H := H1
               clear H1
               simp only [Option.some.injEq, Prod.mk.injEq] at H
               obtain ⟨rfl, rfl, rfl, rfl, rfl, rfl, rfl⟩ := H
               have hnb83 := NB865_862.out
               have hnc83 := NB862_865.out
               have hcz84_0 : wc.cell? ⟨gb865, 0, none⟩ = some (.int .i64 (wrap64 (bt a0 0))) := (blk_cell BK865.out 0).trans rfl
               have hcz84_1 : wc.cell? ⟨gb865, 1, none⟩ = some (.string (⟨#[]⟩ : ByteArray)) := (blk_cell BK865.out 1).trans rfl
               have hcz84_2 : wc.cell? ⟨gb865, 2, none⟩ = some (.string x866002_30) := (blk_cell BK865.out 2).trans rfl
               have hcz84_3 : wc.cell? ⟨gb865, 3, none⟩ = some (.int .i64 (wrap64 (t864))) := (blk_cell BK865.out 3).trans rfl
               have hcz84_4 : wc.cell? ⟨gb865, 4, none⟩ = some (.string (⟨#[]⟩ : ByteArray)) := (blk_cell BK865.out 4).trans rfl
               have hcz84_5 : wc.cell? ⟨gb865, 5, none⟩ = some (.slice none 0 0) := (blk_cell BK865.out 5).trans rfl
               have hfz84_0 := blk_frozen BK865.out 0
               have hfz84_1 := blk_frozen BK865.out 1
               have hfz84_2 := blk_frozen BK865.out 2
               have hfz84_3 := blk_frozen BK865.out 3
               have hfz84_4 := blk_frozen BK865.out 4
               have hfz84_5 := blk_frozen BK865.out 5
               go_wp2_with (first | ((with_reducible refine gate_callee (f := 75) rfl ?_); refine gl__ (some 64) Try.func75 #[.agg #[.int .i64 (wrap64 (bt a0 0)), .string x0_30, .string x866002_30, .int .i64 (wrap64 (t864)), .string (⟨#[]⟩ : ByteArray), .slice none 0 0], .int .i64 a1] ?_; (refine (impl_entryOk.calls kj30 (wrap64 (bt a0 0)) x0_30 x866002_30 (wrap64 (t864)) (⟨#[]⟩ : ByteArray) _ _ ([] : List ByteArray) a1 false _ ?side1 ?side2 A76.out).mono ?_); (case side1 => exact Kd.C_nil _ _); (case side2 => exact Nat.le_refl _); rintro e w85 ⟨rfl, hb⟩; refine ⟨_, rfl, ?_⟩; replace BK862 := am__ (blk_below (g := gb862) (o := .cells #[.int .i64 0, .string (⟨#[]⟩ : ByteArray), .string (⟨#[]⟩ : ByteArray), .int .i64 0, .string (⟨#[]⟩ : ByteArray), .slice none 0 0] 63 (0, 0)) (blf1__ BK862.out) hb); replace BK865 := am__ (blk_below (g := gb865) (o := .cells #[.int .i64 (wrap64 (bt a0 0)), .string x0_30, .string x866002_30, .int .i64 (wrap64 (t864)), .string (⟨#[]⟩ : ByteArray), .slice none 0 0] 63 (0, 0)) (bpu__ BK865.out) hb); replace HB := am__ (below_step (bel__) hb); clear hb; obtain ⟨hcz86_0, hcz86_1, hcz86_2, hcz86_3, hcz86_4, hcz86_5, hfz86_0, hfz86_1, hfz86_2, hfz86_3, hfz86_4, hfz86_5⟩ := bk6__ BK862.out))
               refine bodyPost_ret (results_ct rfl _ _ gb862 63 #[.int .i64 0, .string (⟨#[]⟩ : ByteArray), .string (⟨#[]⟩ : ByteArray), .int .i64 0, .string (⟨#[]⟩ : ByteArray), .slice none 0 0] (0, 0) _ rfl (bpu__ BK862.out) Try.underlying63 rfl (by kernel_rfl)) rfl ?_
               exact ⟨_, by first | rfl | (simp [errW_none, errW_some] <;> rfl) | (simp [*, errW_none, errW_some] <;> rfl), by first | exact Kd.R_nil _ _ _ _ _ | exact Kd.N_nil _ _ _ _ _ | exact Kd.V_nil _ _ _ _ _ | exact Kd.Q_nil _ _ _ _ _ | exact Kd.S_nil _ _ _ _ _, bel__⟩
       ·rw [if_neg c14] at H
        exact absurd H (by simp)
      ·rw [if_neg c13] at H
       exact absurd H (by simp)
     ·rw [if_neg c11] at H
      exact absurd H (by simp)
    ·rw [if_neg c9] at H
     exact absurd H (by simp)
end Go.Proofs.Ytpnblgbkjbpeoaa.P

namespace Go.Proofs.Ytpnblgbkjbpeoaa.P
open Go.RowKit Go.Proofs.YtpnblgbkjbpeoaaW.PrintWords Go.Proofs.YtpnblgbkjbpeoaaW.PrintLast Go.Proofs.YtpnblgbkjbpeoaaW.PrintMore
attribute [local go_sem] max2_int min2_int max_two min_two max_three min_three max_four min_four   -- for this text's walks alone
set_option linter.unusedVariables false
set_option linter.unusedSimpArgs false
/-- A state of type 104 at block g of W; what its slices lead to came in by w0. -/
def IsS104 (w0 W : World) (g : Nat) (f0 : List Int) (f1 : Int) : Prop := ∃ A0 c0, W.heap[g]? = some (.cells #[.slice A0 f0.length c0, .int .i64 f1] 104 (0, 0)) ∧ w0.heap.size ≤ g ∧ Kd.C (Kd.int .u8) w0 A0 f0.length f0
theorem IsS104.grown {w0 W : World} {g : Nat} {f0 : List Int} {f1 : Int} {W1 : World} {row : Option Nat} (h : IsS104 w0 W g f0 f1) (hw : W.grownBy W1 row) (hne : some g ≠ row) : IsS104 w0 W1 g f0 f1 := by
 obtain ⟨A0, c0, hb, hg, hr0⟩ := h
 exact ⟨A0, c0, blk_grown hb hw hne, hg, hr0⟩
theorem IsS104.kept {w0 W : World} {g : Nat} {f0 : List Int} {f1 : Int} {W1 : World} {S : Nat → Prop} (h : IsS104 w0 W g f0 f1) (hk : Kept W W1 S) (hne : ¬ S g) : IsS104 w0 W1 g f0 f1 := by
 obtain ⟨A0, c0, hb, hg, hr0⟩ := h
 exact ⟨A0, c0, blk_kept hb hk hne, hg, hr0⟩
theorem IsS104.below {w0 W : World} {g : Nat} {f0 : List Int} {f1 : Int} {W1 : World} (h : IsS104 w0 W g f0 f1) (hw : Below W.heap.size W W1) : IsS104 w0 W1 g f0 f1 := h.grown (grown_of_below hw none) (by simp)
theorem IsS104.alloc {w0 W : World} {g : Nat} {f0 : List Int} {f1 : Int} (h : IsS104 w0 W g f0 f1) (o : Obj) : IsS104 w0 (W.alloc o) g f0 f1 := h.below (below_alloc (Below.refl _ _) o)
theorem IsS104.drewN {w0 W : World} {g : Nat} {f0 : List Int} {f1 : Int} (h : IsS104 w0 W g f0 f1) (m : Nat) : IsS104 w0 (W.drewN m) g f0 f1 := h
theorem IsS104.drew {w0 W : World} {g : Nat} {f0 : List Int} {f1 : Int} (h : IsS104 w0 W g f0 f1) : IsS104 w0 W.drew g f0 f1 := h
theorem IsS104.at_ {w0 W : World} {g : Nat} {f0 : List Int} {f1 : Int} {w' : World} {m : Nat} (hq : W.drewN m = w') (h : IsS104 w0 W g f0 f1) : IsS104 w0 w' g f0 f1 := by subst hq; exact IsS104.drewN h m
theorem IsS104.apart {w0 W : World} {g : Nat} {f0 : List Int} {f1 : Int} {α : Type} {d : Kd α} {e : Nat} {base : Nat} {ok : Nat → Prop} {v : Value} {xs : List α} (h : IsS104 w0 W g f0 f1) (ho : d.R e W base ok v xs) (ht : ∀ q, q ∈ e :: d.E → q ≠ 104) : d.R e W base (fun k => ok k ∧ k ≠ g) v xs := by
 obtain ⟨A0, c0, hb, hg, hr0⟩ := h
 exact Kd.R_types ho hb ht
theorem IsS104.own_ne {w0 W : World} {g : Nat} {f0 : List Int} {f1 : Int} {α : Type} {d : Kd α} {e : Nat} {base : Nat} {ok : Nat → Prop} {v : Value} {xs : List α} (h : IsS104 w0 W g f0 f1) (ho : d.R e W base ok v xs) (ht : e ≠ 104) : some g ≠ v.ownBlock := by
 obtain ⟨A0, c0, hb, hg, hr0⟩ := h
 exact Kd.R_ne ho hb ht
theorem IsS104.lt {w0 W : World} {g : Nat} {f0 : List Int} {f1 : Int} (h : IsS104 w0 W g f0 f1) : g < W.heap.size := by
 obtain ⟨A0, c0, hb, hg, hr0⟩ := h
 exact blk_lt hb
theorem IsS104.ge {w0 W : World} {g : Nat} {f0 : List Int} {f1 : Int} (h : IsS104 w0 W g f0 f1) : w0.heap.size ≤ g := by
 obtain ⟨A0, c0, hb, hg, hr0⟩ := h
 exact hg
theorem IsS104.ne_blk {w0 W : World} {g : Nat} {f0 : List Int} {f1 : Int} {a : Nat} {cs : Array Value} {t : TypeId} {fr : Nat × Nat} (h : IsS104 w0 W g f0 f1) (hb2 : W.heap[a]? = some (.cells cs t fr)) (ht : t ≠ 104) : g ≠ a := by
 obtain ⟨A0, c0, hb, hg, hr0⟩ := h
 rintro rfl
 rw [hb] at hb2
 injection hb2 with hb2
 injection hb2 with _ ht2
 exact ht ht2.symm
theorem IsS104.far {w0 W : World} {g : Nat} {f0 : List Int} {f1 : Int} {p : Addr} (h : IsS104 w0 W g f0 f1) (hne : g ≠ p.block) (u : Value) : IsS104 w0 (W.setCell p u) g f0 f1 := by
 obtain ⟨A0, c0, hb, hg, hr0⟩ := h
 exact ⟨A0, c0, blk_far hb hne u, hg, hr0⟩
theorem cellS104_0 {W : World} {g : Nat} {A0 : Option Addr} {c0 : Nat} {f0 : List Int} {f1 : Int} (h : W.heap[g]? = some (.cells #[.slice A0 f0.length c0, .int .i64 f1] 104 (0, 0))) : W.cell? ⟨g, 0, none⟩ = some (.slice A0 f0.length c0) := (blk_cell h 0).trans rfl
theorem cellS104_1 {W : World} {g : Nat} {A0 : Option Addr} {c0 : Nat} {f0 : List Int} {f1 : Int} (h : W.heap[g]? = some (.cells #[.slice A0 f0.length c0, .int .i64 f1] 104 (0, 0))) : W.cell? ⟨g, 1, none⟩ = some (.int .i64 f1) := (blk_cell h 1).trans rfl
theorem IsS104.set_1 {w0 W : World} {g : Nat} {f0 : List Int} {f1 : Int} (h : IsS104 w0 W g f0 f1) (x : Int) : IsS104 w0 (W.setCell ⟨g, 1, none⟩ (.int .i64 x)) g f0 x := by
 obtain ⟨A0, c0, hb, hg, hr0⟩ := h
 exact ⟨A0, c0, by simpa using blk_set hb 1 (.int .i64 x), hg, hr0⟩
/-! ### spec_l1Open: function 69 -/
def spec_l1Open.f (l0 : List Int) : Option (List Int × Int) := if (l0.length : Int) > 2000 then (if 2000 ≤ (l0.length : Int) then (some (l0.take 2000, 0)) else (none)) else (some (l0, 0))
set_option maxHeartbeats 8000000 in
set_option maxRecDepth 100000 in
theorem spec_l1Open.calls (A0 : Option Addr) (c0 : Nat) (l0 : List Int) (r1 : List Int) (r2 : Int) (w0 w : World) (hB : Below w0.heap.size w0 w) (hr0 : Kd.C (Kd.int .u8) w0 A0 l0.length l0) (hc0 : l0.length ≤ c0) (h : spec_l1Open.f l0 = some (r1, r2)) :
  Calls Try.prog 69 #[.slice A0 l0.length c0] w fun e w' => ∃ g_ : Nat, e = .returned (.pointer (some ⟨g_, 0, none⟩)) ∧ IsS104 w0 w' g_ r1 r2 ∧ Below w0.heap.size w0 w' ∧ Below w.heap.size w w' := by
 have hu104 := Try.underlying104
 have HR0 := Aside0.mk hr0
 have HC0 := Aside0.mk hc0
 clear hr0 hc0
 have HBW := am__ (Below.refl w.heap.size w)
 have HW0 := Aside0.mk hB.size
 have HB := Aside0.mk hB
 clear hB
 have H : (if (l0.length : Int) > 2000 then (if 2000 ≤ (l0.length : Int) then (some (l0.take 2000, 0)) else (none)) else (some (l0, 0))) = some (r1, r2) := h
 clear h
 by_cases c2 : (l0.length : Int) > 2000
 ·rw [if_pos c2] at H
  have c2b0 : decide (2000 < (l0.length : Int)) = true := decide_eq_true c2
  have c2b1 : decide (2000 < l0.length) = true := decide_eq_true (by omega)
  clear c2
  by_cases c3 : 2000 ≤ (l0.length : Int)
  ·rw [if_pos c3] at H
   have c3b0 := eq_true c3
   have c3b1 : decide (2000 ≤ (l0.length : Int)) = true := decide_eq_true c3
   clear c3
   simp only [Option.some.injEq, Prod.mk.injEq] at H
   obtain ⟨rfl, rfl⟩ := H
   obtain ⟨i04, hi04, _, hsz4, _⟩ := info_parts info5
   obtain ⟨hcut4, hA4, hC4⟩ := print_take_of (P := Try.prog) (Value.int .u8) 0 52 5 .i64 Try.underlying52 hi04 hsz4 A0 c0 l0 2000 (by omega) (of_decide_eq_true (by first | (with_reducible assumption) | assumption)) HC0.out
   have HR595 := am__ (Kd.C_of_reads (h1 := fun _ => rfl) (hA4 _ (Kd.reads_of_C HR0.out)))
   have HC595 := Aside0.mk hC4
   clear hA4 hC4 hi04 hsz4
   go_enter Try.func69, Try.ntmps69
   go_wp2_with (first | ((with_reducible refine gate_dst (N := 10) rfl ?_); refine be__ 10 #[.slice A0 (l0.take 2000).length c0, .int .i64 0] 104 ?_; intro gb596 hg w5 hbox hb; have BK596 := am__ (hbox); have GW596 := am__ ((by rw [hg]; exact (below_size (by repeat (first | (with_reducible first | exact HBW.out | apply below_alloc | apply pw_below_drewN | apply below_drew1) | exact HBW.out))) : w.heap.size ≤ gb596)); have GE596 := am__ ((Nat.le_trans HW0.out (by rw [hg]; exact (below_size (by repeat (first | (with_reducible first | exact HBW.out | apply below_alloc | apply pw_below_drewN | apply below_drew1) | exact HBW.out))) : w.heap.size ≤ gb596) : w0.heap.size ≤ gb596)); replace HBW := am__ (below_step HBW.out hb); replace HB := am__ (below_step (bel__) hb); clear hb hbox hg))
   go_ret
   exact ⟨_, rfl, (show IsS104 w0 _ gb596 (l0.take 2000) 0 from ⟨_, _, blk__ BK596.out, GE596.out, HR595.out⟩), bel__, by repeat (first | (with_reducible first | exact HBW.out | apply below_alloc | apply pw_below_drewN | apply below_drew1 | refine below_set ?_ GW596.out) | exact HBW.out)⟩
  ·rw [if_neg c3] at H
   exact absurd H (by simp)
 ·rw [if_neg c2] at H
  have c2b0 : decide (2000 < (l0.length : Int)) = false := decide_eq_false c2
  have c2b1 : decide (2000 < l0.length) = false := decide_eq_false (by omega)
  clear c2
  simp only [Option.some.injEq, Prod.mk.injEq] at H
  obtain ⟨rfl, rfl⟩ := H
  go_enter Try.func69, Try.ntmps69
  go_wp2_with (first | ((with_reducible refine gate_dst (N := 10) rfl ?_); refine be__ 10 #[.slice A0 l0.length c0, .int .i64 0] 104 ?_; intro gb597 hg w6 hbox hb; have BK597 := am__ (hbox); have GW597 := am__ ((by rw [hg]; exact (below_size (by repeat (first | (with_reducible first | exact HBW.out | apply below_alloc | apply pw_below_drewN | apply below_drew1) | exact HBW.out))) : w.heap.size ≤ gb597)); have GE597 := am__ ((Nat.le_trans HW0.out (by rw [hg]; exact (below_size (by repeat (first | (with_reducible first | exact HBW.out | apply below_alloc | apply pw_below_drewN | apply below_drew1) | exact HBW.out))) : w.heap.size ≤ gb597) : w0.heap.size ≤ gb597)); replace HBW := am__ (below_step HBW.out hb); replace HB := am__ (below_step (bel__) hb); clear hb hbox hg))
  go_ret
  exact ⟨_, rfl, (show IsS104 w0 _ gb597 l0 0 from ⟨_, _, blk__ BK597.out, GE597.out, HR0.out⟩), bel__, by repeat (first | (with_reducible first | exact HBW.out | apply below_alloc | apply pw_below_drewN | apply below_drew1 | refine below_set ?_ GW597.out) | exact HBW.out)⟩
end Go.Proofs.Ytpnblgbkjbpeoaa.P

namespace Go.Proofs.Ytpnblgbkjbpeoaa.P
open Go.RowKit Go.Proofs.YtpnblgbkjbpeoaaW.PrintWords Go.Proofs.YtpnblgbkjbpeoaaW.PrintLast Go.Proofs.YtpnblgbkjbpeoaaW.PrintMore
attribute [local go_sem] max2_int min2_int max_two min_two max_three min_three max_four min_four   -- for this text's walks alone
set_option linter.unusedVariables false
set_option linter.unusedSimpArgs false
/-! ### spec_l1Rd_pick: function 71 -/
def spec_l1Rd_pick.j0 : Nat → Int → Bool → List Int → Int → Option (Int × Int)
 | 0, _, _, _, _ => none
 | k + 1, x1, x24, x1000, x1001 => if x24 = true then (some (0, x1001)) else (if (wrap64 (x1001 - 1)) < (x1000.length : Int) then (if 0 ≤ (wrap64 (x1001 - 1)) then (if x1 = 0 then (none) else (some (Int.tmod (wrap64 (rd x1000 (wrap64 (x1001 - 1)))) x1, x1001))) else (none)) else (if (x1000.length : Int) = 0 then (none) else (if 0 ≤ (Int.tmod (wrap64 (x1001 - 1)) (x1000.length : Int)) then (if (Int.tmod (wrap64 (x1001 - 1)) (x1000.length : Int)) < (x1000.length : Int) then (if 0 ≤ (Int.tmod (wrap64 ((wrap64 ((wrap64 (x1001 - 1)) * 7)) + 3)) (x1000.length : Int)) then (if (Int.tmod (wrap64 ((wrap64 ((wrap64 (x1001 - 1)) * 7)) + 3)) (x1000.length : Int)) < (x1000.length : Int) then (if x1 = 0 then (none) else (some (Int.tmod (Go.bits .xor .i64 (wrap64 ((wrap64 ((wrap64 ((wrap64 ((wrap64 (rd x1000 (Int.tmod (wrap64 (x1001 - 1)) (x1000.length : Int)))) * 131)) + (wrap64 ((wrap64 (rd x1000 (Int.tmod (wrap64 ((wrap64 ((wrap64 (x1001 - 1)) * 7)) + 3)) (x1000.length : Int)))) * 1117)))) + (wrap64 ((wrap64 (x1001 - 1)) * 29)))) + (wrap64 ((wrap64 (Int.tdiv (wrap64 (x1001 - 1)) (x1000.length : Int))) * 53)))) (wrap64 (Int.tdiv (wrap64 ((wrap64 ((wrap64 ((wrap64 ((wrap64 (rd x1000 (Int.tmod (wrap64 (x1001 - 1)) (x1000.length : Int)))) * 131)) + (wrap64 ((wrap64 (rd x1000 (Int.tmod (wrap64 ((wrap64 ((wrap64 (x1001 - 1)) * 7)) + 3)) (x1000.length : Int)))) * 1117)))) + (wrap64 ((wrap64 (x1001 - 1)) * 29)))) + (wrap64 ((wrap64 (Int.tdiv (wrap64 (x1001 - 1)) (x1000.length : Int))) * 53)))) 64))) x1, x1001))) else (none)) else (none)) else (none)) else (none))))
def spec_l1Rd_pick.f (k : Nat) (s0_0 : List Int) (s0_1 : Int) (a1 : Int) : Option (Int × Int) := if a1 < 1 then (spec_l1Rd_pick.j0 k a1 true s0_0 (wrap64 (s0_1 + 1))) else (spec_l1Rd_pick.j0 k a1 ((s0_0.length : Int) == 0) s0_0 (wrap64 (s0_1 + 1)))
set_option maxHeartbeats 8000000 in
set_option maxRecDepth 100000 in
theorem spec_l1Rd_pick.calls (k : Nat) (g : Nat) (s0_0 : List Int) (s0_1 : Int) (a1 : Int) (r1 : Int) (r2 : Int) (w0 w : World) (hI : IsS104 w0 w g s0_0 s0_1) (hB : Below w0.heap.size w0 w) (h : spec_l1Rd_pick.f k s0_0 s0_1 a1 = some (r1, r2)) :
  Calls Try.prog 71 #[.pointer (some ⟨g, 0, none⟩), .int .i64 a1] w fun e w' => e = .returned (.int .i64 r1) ∧ IsS104 w0 w' g s0_0 r2 ∧ Below w0.heap.size w0 w' ∧ KeepBut w w' g none := by
 have HI0 := Aside0.mk hI
 have HK := am__ (KeepBut.refl w g none)
 have HL := Aside0.mk hB.size
 clear hI
 have HW0 := Aside0.mk hB.size
 have HB := Aside0.mk hB
 clear hB
 have H : (if a1 < 1 then (spec_l1Rd_pick.j0 k a1 true s0_0 (wrap64 (s0_1 + 1))) else (spec_l1Rd_pick.j0 k a1 ((s0_0.length : Int) == 0) s0_0 (wrap64 (s0_1 + 1)))) = some (r1, r2) := h
 clear h
 have HC3 := Aside0.mk H
 clear H
 obtain ⟨ASz4_0, cSz4_0, HGz4, hgz4, HSz4_0⟩ := HI0.out
 have hcz4_0 := cellS104_0 HGz4
 have hcz4_1 := cellS104_1 HGz4
 have hfz4_1 := blk_frozen HGz4 1
 clear HGz4 hgz4
 go_enter Try.func71, Try.ntmps71
 go_upto_region 2 with (fail)
 repeat (go_quiet (fail); go_upto_region 2 with (fail))
 go_cut [24] (fun v24 wc => ∃ (kq : Nat) (x24_2 : Bool), v24 = .bool x24_2 ∧ Aside0 (spec_l1Rd_pick.j0 kq a1 x24_2 s0_0 (wrap64 (s0_1 + 1)) = some (r1, r2)) ∧ Aside0 (kq ≤ k) ∧ Aside0 (IsS104 w0 wc g s0_0 (wrap64 (s0_1 + 1))) ∧ Aside0 (KeepBut w wc g none) ∧ Aside0 (Below w0.heap.size w0 wc))
 case first =>
  have H := HC3.out
  clear HC3
  by_cases c5 : a1 < 1
  ·rw [if_pos c5] at H
   have c5b0 : decide (a1 < 1) = true := decide_eq_true c5
   clear c5
   (first | rw [c5b0] | (simp only [i64_w, i32_w]; rw [c5b0]) | skip)
   have H' := Aside0.mk H
   clear H
   go_wp2
   repeat (go_quiet (fail); try go_wp2)
   go_meet
   case rel => exact ⟨_, (true), (rf__), H', ⟨by first | omega | exact Nat.le_refl _⟩, ⟨hhi0__iss104⟩, ⟨kee__⟩, ⟨b0_l__⟩⟩
  ·rw [if_neg c5] at H
   have c5b0 : decide (a1 < 1) = false := decide_eq_false c5
   clear c5
   (first | rw [c5b0] | (simp only [i64_w, i32_w]; rw [c5b0]) | skip)
   have H' := Aside0.mk H
   clear H
   obtain ⟨ASz6_0, cSz6_0, HGz6, hgz6, HSz6_0⟩ := HI0.out
   have hcz6_0 := cellS104_0 HGz6
   have hcz6_1 := cellS104_1 HGz6
   have hfz6_1 := blk_frozen HGz6 1
   clear HGz6 hgz6
   go_wp2
   repeat (go_quiet (fail); try go_wp2)
   go_meet
   case rel => exact ⟨_, (((s0_0.length : Int) == 0)), (rf__), H', ⟨by first | omega | exact Nat.le_refl _⟩, ⟨hhi0__iss104⟩, ⟨kee__⟩, ⟨b0_l__⟩⟩
 case rest =>
  clear HC3
  try clear p2
  try clear c5
  try clear c5b0
  try clear p6
  try clear hcz4_0 hcz4_1 hfz4_1
  try clear hcz6_0 hcz6_1 hfz6_1
  obtain ⟨kq, x24_2, rfl, HA, HJ2, HI0, HK, HB⟩ := hcut
  cases kq with
  | zero => exact absurd HA.out (by simp [spec_l1Rd_pick.j0])
  | succ kj2 =>
   have H := HA.out
   clear HA
   simp only [spec_l1Rd_pick.j0] at H
   by_cases c7 : x24_2 = true
   ·subst c7
    have H1 : (some (0, (wrap64 (s0_1 + 1)))) = some (r1, r2) := by rw [if_pos rfl] at H; exact H
    clear H
    have H := H1
    clear H1
    simp only [Option.some.injEq, Prod.mk.injEq] at H
    obtain ⟨rfl, rfl⟩ := H
    go_wp2
    repeat (go_quiet (fail); try go_wp2)
    go_ret
    exact ⟨by first | rfl | (simp [errW_none, errW_some] <;> rfl) | (simp [*, errW_none, errW_some] <;> rfl), hhi0__iss104, by repeat (first | (with_reducible first | exact HB.out | apply below_alloc | apply pw_below_drewN | apply below_drew1 | refine below_set ?_ (IsS104.ge HI0.out)) | exact HB.out), kee__⟩
   ·replace c7 := Bool.eq_false_iff.mpr c7
    subst c7
    have H1 : (if (wrap64 ((wrap64 (s0_1 + 1)) - 1)) < (s0_0.length : Int) then (if 0 ≤ (wrap64 ((wrap64 (s0_1 + 1)) - 1)) then (if a1 = 0 then (none) else (some (Int.tmod (wrap64 (rd s0_0 (wrap64 ((wrap64 (s0_1 + 1)) - 1)))) a1, (wrap64 (s0_1 + 1))))) else (none)) else (if (s0_0.length : Int) = 0 then (none) else (if 0 ≤ (Int.tmod (wrap64 ((wrap64 (s0_1 + 1)) - 1)) (s0_0.length : Int)) then (if (Int.tmod (wrap64 ((wrap64 (s0_1 + 1)) - 1)) (s0_0.length : Int)) < (s0_0.length : Int) then (if 0 ≤ (Int.tmod (wrap64 ((wrap64 ((wrap64 ((wrap64 (s0_1 + 1)) - 1)) * 7)) + 3)) (s0_0.length : Int)) then (if (Int.tmod (wrap64 ((wrap64 ((wrap64 ((wrap64 (s0_1 + 1)) - 1)) * 7)) + 3)) (s0_0.length : Int)) < (s0_0.length : Int) then (if a1 = 0 then (none) else (some (Int.tmod (Go.bits .xor .i64 (wrap64 ((wrap64 ((wrap64 ((wrap64 ((wrap64 (rd s0_0 (Int.tmod (wrap64 ((wrap64 (s0_1 + 1)) - 1)) (s0_0.length : Int)))) * 131)) + (wrap64 ((wrap64 (rd s0_0 (Int.tmod (wrap64 ((wrap64 ((wrap64 ((wrap64 (s0_1 + 1)) - 1)) * 7)) + 3)) (s0_0.length : Int)))) * 1117)))) + (wrap64 ((wrap64 ((wrap64 (s0_1 + 1)) - 1)) * 29)))) + (wrap64 ((wrap64 (Int.tdiv (wrap64 ((wrap64 (s0_1 + 1)) - 1)) (s0_0.length : Int))) * 53)))) (wrap64 (Int.tdiv (wrap64 ((wrap64 ((wrap64 ((wrap64 ((wrap64 (rd s0_0 (Int.tmod (wrap64 ((wrap64 (s0_1 + 1)) - 1)) (s0_0.length : Int)))) * 131)) + (wrap64 ((wrap64 (rd s0_0 (Int.tmod (wrap64 ((wrap64 ((wrap64 ((wrap64 (s0_1 + 1)) - 1)) * 7)) + 3)) (s0_0.length : Int)))) * 1117)))) + (wrap64 ((wrap64 ((wrap64 (s0_1 + 1)) - 1)) * 29)))) + (wrap64 ((wrap64 (Int.tdiv (wrap64 ((wrap64 (s0_1 + 1)) - 1)) (s0_0.length : Int))) * 53)))) 64))) a1, (wrap64 (s0_1 + 1))))) else (none)) else (none)) else (none)) else (none)))) = some (r1, r2) := by rw [if_neg (show ¬ (false = true) by decide)] at H; exact H
    clear H
    have H := H1
    clear H1
    by_cases c8 : (wrap64 ((wrap64 (s0_1 + 1)) - 1)) < (s0_0.length : Int)
    ·rw [if_pos c8] at H
     have c8b0 : decide ((wrap64 ((wrap64 (s0_1 + 1)) - 1)) < (s0_0.length : Int)) = true := decide_eq_true c8
     clear c8
     obtain ⟨ji9, hji9⟩ : ∃ j_ : Int, (wrap64 ((wrap64 (s0_1 + 1)) - 1)) = j_ := ⟨_, rfl⟩
     replace H : (if 0 ≤ (ji9) then (if a1 = 0 then (none) else (some (Int.tmod (wrap64 (rd s0_0 (ji9))) a1, (wrap64 (s0_1 + 1))))) else (none)) = some (r1, r2) := by first | (rw [hji9] at H; exact H) | (simp only [hji9] at H ⊢; exact H)
     (try rw [hji9] at c8b0)
     have hji9w : (IntKind.i64.wrap ((wrap64 (s0_1 + 1)) - 1)) = ji9 := (i64_w _).trans hji9
     by_cases c10 : 0 ≤ (ji9)
     ·rw [if_pos c10] at H
      have c10b0 : decide (0 ≤ (ji9)) = true := decide_eq_true c10
      clear c10
      by_cases c11 : a1 = 0
      ·rw [if_pos c11] at H
       exact absurd H (by simp)
      ·rw [if_neg c11] at H
       have c11b0 : (a1 == 0) = false := beq_eq_false_iff_ne.mpr c11
       have c11b1 : (a1 != 0) = true := bne_iff_ne.mpr c11
       simp only [Option.some.injEq, Prod.mk.injEq] at H
       obtain ⟨rfl, rfl⟩ := H
       obtain ⟨ASz12_0, cSz12_0, HGz12, hgz12, HSz12_0⟩ := HI0.out
       have hcz12_0 := cellS104_0 HGz12
       have hcz12_1 := cellS104_1 HGz12
       have hfz12_1 := blk_frozen HGz12 1
       clear HGz12 hgz12
       have p598 : 0 ≤ ((ji9) : Int) := of_decide_eq_true (by first | (with_reducible assumption) | assumption)
       have q598 : (ji9) < (s0_0.length : Int) := of_decide_eq_true (by first | (with_reducible assumption) | assumption)
       obtain ⟨ad598, e598, hx598_0⟩ := Kd.at_int HSz12_0 (ji9) p598 q598
       cases e598
       replace hx598_0 := pw_cell_below HB.out hx598_0
       replace p598 := eq_true p598
       replace q598 := eq_true q598
       go_wp2
       repeat (go_quiet (fail); try go_wp2)
       go_ret
       exact ⟨by first | rfl | (simp [errW_none, errW_some] <;> rfl) | (simp only [← hji9]; first | rfl | (simp [errW_none, errW_some] <;> rfl)) | (simp [*, errW_none, errW_some] <;> rfl), hhi0__iss104, by repeat (first | (with_reducible first | exact HB.out | apply below_alloc | apply pw_below_drewN | apply below_drew1 | refine below_set ?_ (IsS104.ge HI0.out)) | exact HB.out), kee__⟩
     ·rw [if_neg c10] at H
      exact absurd H (by simp)
    ·rw [if_neg c8] at H
     have c8b0 : decide ((wrap64 ((wrap64 (s0_1 + 1)) - 1)) < (s0_0.length : Int)) = false := decide_eq_false c8
     clear c8
     by_cases c13 : (s0_0.length : Int) = 0
     ·rw [if_pos c13] at H
      exact absurd H (by simp)
     ·rw [if_neg c13] at H
      have c13b0 : ((s0_0.length : Int) == 0) = false := beq_eq_false_iff_ne.mpr c13
      have c13b1 : ((s0_0.length : Int) != 0) = true := bne_iff_ne.mpr c13
      have c13b2 : ¬ (s0_0 = []) := fun h_ => c13 (by rw [h_]; rfl)
      obtain ⟨ji14, hji14⟩ : ∃ j_ : Int, (Int.tmod (wrap64 ((wrap64 (s0_1 + 1)) - 1)) (s0_0.length : Int)) = j_ := ⟨_, rfl⟩
      replace H : (if 0 ≤ (ji14) then (if (ji14) < (s0_0.length : Int) then (if 0 ≤ (Int.tmod (wrap64 ((wrap64 ((wrap64 ((wrap64 (s0_1 + 1)) - 1)) * 7)) + 3)) (s0_0.length : Int)) then (if (Int.tmod (wrap64 ((wrap64 ((wrap64 ((wrap64 (s0_1 + 1)) - 1)) * 7)) + 3)) (s0_0.length : Int)) < (s0_0.length : Int) then (if a1 = 0 then (none) else (some (Int.tmod (Go.bits .xor .i64 (wrap64 ((wrap64 ((wrap64 ((wrap64 ((wrap64 (rd s0_0 (ji14))) * 131)) + (wrap64 ((wrap64 (rd s0_0 (Int.tmod (wrap64 ((wrap64 ((wrap64 ((wrap64 (s0_1 + 1)) - 1)) * 7)) + 3)) (s0_0.length : Int)))) * 1117)))) + (wrap64 ((wrap64 ((wrap64 (s0_1 + 1)) - 1)) * 29)))) + (wrap64 ((wrap64 (Int.tdiv (wrap64 ((wrap64 (s0_1 + 1)) - 1)) (s0_0.length : Int))) * 53)))) (wrap64 (Int.tdiv (wrap64 ((wrap64 ((wrap64 ((wrap64 ((wrap64 (rd s0_0 (ji14))) * 131)) + (wrap64 ((wrap64 (rd s0_0 (Int.tmod (wrap64 ((wrap64 ((wrap64 ((wrap64 (s0_1 + 1)) - 1)) * 7)) + 3)) (s0_0.length : Int)))) * 1117)))) + (wrap64 ((wrap64 ((wrap64 (s0_1 + 1)) - 1)) * 29)))) + (wrap64 ((wrap64 (Int.tdiv (wrap64 ((wrap64 (s0_1 + 1)) - 1)) (s0_0.length : Int))) * 53)))) 64))) a1, (wrap64 (s0_1 + 1))))) else (none)) else (none)) else (none)) else (none)) = some (r1, r2) := by first | (rw [hji14] at H; exact H) | (simp only [hji14] at H ⊢; exact H)
      by_cases c15 : 0 ≤ (ji14)
      ·rw [if_pos c15] at H
       have c15b0 : decide (0 ≤ (ji14)) = true := decide_eq_true c15
       clear c15
       by_cases c16 : (ji14) < (s0_0.length : Int)
       ·rw [if_pos c16] at H
        have c16b0 : decide ((ji14) < (s0_0.length : Int)) = true := decide_eq_true c16
        clear c16
        obtain ⟨ji17, hji17⟩ : ∃ j_ : Int, (Int.tmod (wrap64 ((wrap64 ((wrap64 ((wrap64 (s0_1 + 1)) - 1)) * 7)) + 3)) (s0_0.length : Int)) = j_ := ⟨_, rfl⟩
        replace H : (if 0 ≤ (ji17) then (if (ji17) < (s0_0.length : Int) then (if a1 = 0 then (none) else (some (Int.tmod (Go.bits .xor .i64 (wrap64 ((wrap64 ((wrap64 ((wrap64 ((wrap64 (rd s0_0 (ji14))) * 131)) + (wrap64 ((wrap64 (rd s0_0 (ji17))) * 1117)))) + (wrap64 ((wrap64 ((wrap64 (s0_1 + 1)) - 1)) * 29)))) + (wrap64 ((wrap64 (Int.tdiv (wrap64 ((wrap64 (s0_1 + 1)) - 1)) (s0_0.length : Int))) * 53)))) (wrap64 (Int.tdiv (wrap64 ((wrap64 ((wrap64 ((wrap64 ((wrap64 (rd s0_0 (ji14))) * 131)) + (wrap64 ((wrap64 (rd s0_0 (ji17))) * 1117)))) + (wrap64 ((wrap64 ((wrap64 (s0_1 + 1)) - 1)) * 29)))) + (wrap64 ((wrap64 (Int.tdiv (wrap64 ((wrap64 (s0_1 + 1)) - 1)) (s0_0.length : Int))) * 53)))) 64))) a1, (wrap64 (s0_1 + 1))))) else (none)) else (none)) = some (r1, r2) := by first | (rw [hji17] at H; exact H) | (simp only [hji17] at H ⊢; exact H)
        by_cases c18 : 0 ≤ (ji17)
        ·rw [if_pos c18] at H
         have c18b0 : decide (0 ≤ (ji17)) = true := decide_eq_true c18
         clear c18
         by_cases c19 : (ji17) < (s0_0.length : Int)
         ·rw [if_pos c19] at H
          have c19b0 : decide ((ji17) < (s0_0.length : Int)) = true := decide_eq_true c19
          clear c19
          by_cases c20 : a1 = 0
          ·rw [if_pos c20] at H
           exact absurd H (by simp)
          ·rw [if_neg c20] at H
           have c20b0 : (a1 == 0) = false := beq_eq_false_iff_ne.mpr c20
           have c20b1 : (a1 != 0) = true := bne_iff_ne.mpr c20
           simp only [Option.some.injEq, Prod.mk.injEq] at H
           obtain ⟨rfl, rfl⟩ := H
           obtain ⟨ASz21_0, cSz21_0, HGz21, hgz21, HSz21_0⟩ := HI0.out
           have hcz21_0 := cellS104_0 HGz21
           have hcz21_1 := cellS104_1 HGz21
           have hfz21_1 := blk_frozen HGz21 1
           clear HGz21 hgz21
           have p599 : 0 ≤ ((ji14) : Int) := of_decide_eq_true (by first | (with_reducible assumption) | assumption)
           have q599 : (ji14) < (s0_0.length : Int) := of_decide_eq_true (by first | (with_reducible assumption) | assumption)
           obtain ⟨ad599, e599, hx599_0⟩ := Kd.at_int HSz21_0 (ji14) p599 q599
           cases e599
           replace hx599_0 := pw_cell_below HB.out hx599_0
           replace p599 := eq_true p599
           replace q599 := eq_true q599
           have p600 : 0 ≤ ((ji17) : Int) := of_decide_eq_true (by first | (with_reducible assumption) | assumption)
           have q600 : (ji17) < (s0_0.length : Int) := of_decide_eq_true (by first | (with_reducible assumption) | assumption)
           obtain ⟨ad600, e600, hx600_0⟩ := Kd.at_int HSz21_0 (ji17) p600 q600
           obtain rfl : ad599 = ad600 := (by injection e600)
           replace hx600_0 := pw_cell_below HB.out hx600_0
           replace p600 := eq_true p600
           replace q600 := eq_true q600
           go_wp2
           repeat (go_quiet (fail); try go_wp2)
           go_ret
           exact ⟨by first | rfl | (simp [errW_none, errW_some] <;> rfl) | (simp only [← hji14, ← hji17]; first | rfl | (simp [errW_none, errW_some] <;> rfl)) | (simp [*, errW_none, errW_some] <;> rfl), hhi0__iss104, by repeat (first | (with_reducible first | exact HB.out | apply below_alloc | apply pw_below_drewN | apply below_drew1 | refine below_set ?_ (IsS104.ge HI0.out)) | exact HB.out), kee__⟩
         ·rw [if_neg c19] at H
          exact absurd H (by simp)
        ·rw [if_neg c18] at H
         exact absurd H (by simp)
       ·rw [if_neg c16] at H
        exact absurd H (by simp)
      ·rw [if_neg c15] at H
       exact absurd H (by simp)
end Go.Proofs.Ytpnblgbkjbpeoaa.P

namespace Go.Proofs.Ytpnblgbkjbpeoaa.P
open Go.RowKit Go.Proofs.YtpnblgbkjbpeoaaW.PrintWords Go.Proofs.YtpnblgbkjbpeoaaW.PrintLast Go.Proofs.YtpnblgbkjbpeoaaW.PrintMore
attribute [local go_sem] max2_int min2_int max_two min_two max_three min_three max_four min_four   -- for this text's walks alone
set_option linter.unusedVariables false
set_option linter.unusedSimpArgs false
/-! ### spec_l1DrawWidth: function 78 -/
def spec_l1DrawWidth.f (k : Nat) (s0_0 : List Int) (s0_1 : Int) : Option (Int × Int) := (spec_l1Rd_pick.f k s0_0 s0_1 8).bind fun bt915 => (if bt915.1 < 2 then (some (1, bt915.2)) else (if bt915.1 = 2 then (some (2, bt915.2)) else (some (8, bt915.2))))
set_option maxHeartbeats 8000000 in
set_option maxRecDepth 100000 in
theorem spec_l1DrawWidth.calls (k : Nat) (g : Nat) (s0_0 : List Int) (s0_1 : Int) (r1 : Int) (r2 : Int) (w0 w : World) (hI : IsS104 w0 w g s0_0 s0_1) (hB : Below w0.heap.size w0 w) (h : spec_l1DrawWidth.f k s0_0 s0_1 = some (r1, r2)) :
  Calls Try.prog 78 #[.pointer (some ⟨g, 0, none⟩)] w fun e w' => e = .returned (.int .i64 r1) ∧ IsS104 w0 w' g s0_0 r2 ∧ Below w0.heap.size w0 w' ∧ KeepBut w w' g none := by
 have HI0 := Aside0.mk hI
 have HK := am__ (KeepBut.refl w g none)
 have HL := Aside0.mk hB.size
 clear hI
 have HW0 := Aside0.mk hB.size
 have HB := Aside0.mk hB
 clear hB
 have H : ((spec_l1Rd_pick.f k s0_0 s0_1 8).bind fun bt915 => (if bt915.1 < 2 then (some (1, bt915.2)) else (if bt915.1 = 2 then (some (2, bt915.2)) else (some (8, bt915.2))))) = some (r1, r2) := h
 clear h
 replace H := Option.bind_eq_some_iff.mp H
 obtain ⟨⟨t915, t916⟩, A20, H⟩ := H
 replace H : (if t915 < 2 then (some (1, t916)) else (if t915 = 2 then (some (2, t916)) else (some (8, t916)))) = some (r1, r2) := H
 have A2 := Aside0.mk A20
 clear A20
 by_cases c3 : t915 < 2
 ·rw [if_pos c3] at H
  have c3b0 : decide (t915 < 2) = true := decide_eq_true c3
  clear c3
  simp only [Option.some.injEq, Prod.mk.injEq] at H
  obtain ⟨rfl, rfl⟩ := H
  go_enter Try.func78, Try.ntmps78
  go_wp2_with (first | ((with_reducible refine gate_callee (f := 71) rfl ?_); refine gl__ (some 5) Try.func71 #[.pointer (some ⟨g, 0, none⟩), .int .i64 8] ?_; (with_reducible refine (spec_l1Rd_pick.calls k g s0_0 s0_1 8 t915 t916 w0 _ hhi0__iss104 b0_l__ A2.out).mono ?_); rintro e w4 ⟨rfl, hi, hb, hk⟩; refine ⟨_, rfl, ?_⟩; replace HK := am__ (KeepBut.trans (kee__) hk (.inl rfl)); replace HB := am__ (hb); replace HI0 := am__ (hi); clear hi hb hk))
  go_ret
  exact ⟨by first | rfl | (simp [errW_none, errW_some] <;> rfl) | (simp [*, errW_none, errW_some] <;> rfl), hhi0__iss104, by repeat (first | (with_reducible first | exact HB.out | apply below_alloc | apply pw_below_drewN | apply below_drew1 | refine below_set ?_ (IsS104.ge HI0.out)) | exact HB.out), kee__⟩
 ·rw [if_neg c3] at H
  have c3b0 : decide (t915 < 2) = false := decide_eq_false c3
  clear c3
  by_cases c5 : t915 = 2
  ·rw [if_pos c5] at H
   have c5b0 : (t915 == 2) = true := beq_iff_eq.mpr c5
   have c5b1 : (t915 != 2) = false := bne_eq_false_iff_eq.mpr c5
   clear c5
   simp only [Option.some.injEq, Prod.mk.injEq] at H
   obtain ⟨rfl, rfl⟩ := H
   go_enter Try.func78, Try.ntmps78
   go_wp2_with (first | ((with_reducible refine gate_callee (f := 71) rfl ?_); refine gl__ (some 5) Try.func71 #[.pointer (some ⟨g, 0, none⟩), .int .i64 8] ?_; (with_reducible refine (spec_l1Rd_pick.calls k g s0_0 s0_1 8 t915 t916 w0 _ hhi0__iss104 b0_l__ A2.out).mono ?_); rintro e w6 ⟨rfl, hi, hb, hk⟩; refine ⟨_, rfl, ?_⟩; replace HK := am__ (KeepBut.trans (kee__) hk (.inl rfl)); replace HB := am__ (hb); replace HI0 := am__ (hi); clear hi hb hk))
   go_ret
   exact ⟨by first | rfl | (simp [errW_none, errW_some] <;> rfl) | (simp [*, errW_none, errW_some] <;> rfl), hhi0__iss104, by repeat (first | (with_reducible first | exact HB.out | apply below_alloc | apply pw_below_drewN | apply below_drew1 | refine below_set ?_ (IsS104.ge HI0.out)) | exact HB.out), kee__⟩
  ·rw [if_neg c5] at H
   have c5b0 : (t915 == 2) = false := beq_eq_false_iff_ne.mpr c5
   have c5b1 : (t915 != 2) = true := bne_iff_ne.mpr c5
   simp only [Option.some.injEq, Prod.mk.injEq] at H
   obtain ⟨rfl, rfl⟩ := H
   go_enter Try.func78, Try.ntmps78
   go_wp2_with (first | ((with_reducible refine gate_callee (f := 71) rfl ?_); refine gl__ (some 5) Try.func71 #[.pointer (some ⟨g, 0, none⟩), .int .i64 8] ?_; (with_reducible refine (spec_l1Rd_pick.calls k g s0_0 s0_1 8 t915 t916 w0 _ hhi0__iss104 b0_l__ A2.out).mono ?_); rintro e w7 ⟨rfl, hi, hb, hk⟩; refine ⟨_, rfl, ?_⟩; replace HK := am__ (KeepBut.trans (kee__) hk (.inl rfl)); replace HB := am__ (hb); replace HI0 := am__ (hi); clear hi hb hk))
   go_ret
   exact ⟨by first | rfl | (simp [errW_none, errW_some] <;> rfl) | (simp [*, errW_none, errW_some] <;> rfl), hhi0__iss104, by repeat (first | (with_reducible first | exact HB.out | apply below_alloc | apply pw_below_drewN | apply below_drew1 | refine below_set ?_ (IsS104.ge HI0.out)) | exact HB.out), kee__⟩
end Go.Proofs.Ytpnblgbkjbpeoaa.P

namespace Go.Proofs.Ytpnblgbkjbpeoaa.P
open Go.RowKit Go.Proofs.YtpnblgbkjbpeoaaW.PrintWords Go.Proofs.YtpnblgbkjbpeoaaW.PrintLast Go.Proofs.YtpnblgbkjbpeoaaW.PrintMore
attribute [local go_sem] max2_int min2_int max_two min_two max_three min_three max_four min_four   -- for this text's walks alone
set_option linter.unusedVariables false
set_option linter.unusedSimpArgs false
/-! ### spec_Sum: function 15 -/
mutual
def spec_Sum.l0 : Nat → ByteArray → Int → Int → Int → Option (ByteArray)
 | 0, _, _, _, _ => none
 | k + 1, x0, x1, x5, x6 => if x6 < (x0.size : Int) then (if 0 ≤ x6 then (spec_Sum.l0 k x0 x1 (IntKind.u64.wrap ((Go.bits .xor .u64 x5 (IntKind.u64.wrap (bt x0 x6))) * 1099511628211)) (wrap64 (x6 + 1))) else (none)) else (spec_Sum.l1 k x1 x5 (([] : List Int)) 0)
def spec_Sum.l1 : Nat → Int → Int → List Int → Int → Option (ByteArray)
 | 0, _, _, _, _ => none
 | k + 1, x1, x5, x7, x8 => if x8 < x1 then ((some (([(Int.tmod x5 256) % 256] : List Int) : List Int)).bind fun y105 => (if y105.length + x7.length < 140737488355328 then (spec_Sum.l1 k x1 (IntKind.u64.wrap (Int.tdiv x5 256)) (y105 ++ x7) (wrap64 (x8 + 1))) else (none))) else (some (strOfNums x7))
end
def spec_Sum.f (k : Nat) (a0 : ByteArray) (a1 : Int) : Option (ByteArray) := (spec_l1Width.f a1).bind fun t101 => (if t101 = true then (spec_Sum.l0 k a0 a1 14695981039346656037 0) else (some (⟨#[]⟩ : ByteArray)))
set_option maxHeartbeats 8000000 in
set_option maxRecDepth 100000 in
theorem spec_Sum.calls (k : Nat) (a0 : ByteArray) (a1 : Int) (r : ByteArray) (w : World) (h : spec_Sum.f k a0 a1 = some r) :
  Calls Try.prog 15 #[.string a0, .int .i64 a1] w fun e w' => e = .returned (.string r) ∧ Below w.heap.size w w' := by
 have HB := am__ (Below.refl w.heap.size w)
 have H : ((spec_l1Width.f a1).bind fun t101 => (if t101 = true then (spec_Sum.l0 k a0 a1 14695981039346656037 0) else (some (⟨#[]⟩ : ByteArray)))) = some r := h
 clear h
 replace H := Option.bind_eq_some_iff.mp H
 obtain ⟨t101, A30, H⟩ := H
 replace H : (if t101 = true then (spec_Sum.l0 k a0 a1 14695981039346656037 0) else (some (⟨#[]⟩ : ByteArray))) = some r := H
 have A3 := Aside0.mk A30
 clear A30
 by_cases c4 : t101 = true
 ·subst c4
  have H1 : (spec_Sum.l0 k a0 a1 14695981039346656037 0) = some r := by rw [if_pos rfl] at H; exact H
  clear H
  have H := H1
  clear H1
  have H' := Aside0.mk H
  clear H
  go_enter Try.func15, Try.ntmps15
  go_wp2_with (first | ((with_reducible refine gate_callee (f := 56) rfl ?_); refine gl__ (some 10) Try.func56 #[.int .i64 a1] ?_; (with_reducible refine (spec_l1Width.calls a1 true _ A3.out).mono ?_); rintro e w' ⟨rfl, ⟨nd, rfl⟩⟩; refine ⟨_, rfl, ?_⟩))
  go_loopg [5, 6] k (fun kq v5 v6 w' => ∃ (x5_1 : Int) (x6_1 : Int), v5 = .int .u64 x5_1 ∧ v6 = .int .i64 x6_1 ∧ Aside0 (spec_Sum.l0 kq a0 a1 x5_1 x6_1 = some r) ∧ Aside0 (kq ≤ k) ∧ Aside0 (Below w.heap.size w w'))
  case atStart => exact ⟨(14695981039346656037), (0), (rf__), (rf__), H', ⟨Nat.le_refl _⟩, ⟨bel__⟩⟩
  case round =>
   clear H'
   try clear c1
   try clear p2
   try clear c4
   obtain ⟨x5_1, x6_1, rfl, rfl, HA, HK1, HB⟩ := hrel
   cases gk with
   | zero => exact absurd HA.out (by simp [spec_Sum.l0])
   | succ k1 =>
    have H := HA.out
    clear HA
    simp only [spec_Sum.l0] at H
    by_cases c5 : x6_1 < (a0.size : Int)
    ·rw [if_pos c5] at H
     have c5b0 : decide (x6_1 < (a0.size : Int)) = true := decide_eq_true c5
     clear c5
     by_cases c6 : 0 ≤ x6_1
     ·rw [if_pos c6] at H
      have c6b0 : decide (0 ≤ x6_1) = true := decide_eq_true c6
      clear c6
      have H' := Aside0.mk H
      clear H
      have p7 : 0 ≤ (x6_1 : Int) := of_decide_eq_true (by first | (with_reducible assumption) | assumption)
      have q7 : x6_1 < (a0.size : Int) := of_decide_eq_true (by first | (with_reducible assumption) | assumption)
      have hx7 := bt_at a0 x6_1
      replace p7 := eq_true p7
      replace q7 := eq_true q7
      go_wp2
      go_roundg k1
      case measure => have := HK1.out; omega
      case rel => exact ⟨(IntKind.u64.wrap ((Go.bits .xor .u64 x5_1 (IntKind.u64.wrap (bt a0 x6_1))) * 1099511628211)), (wrap64 (x6_1 + 1)), (rf__), (rf__), H', ⟨by have := HK1.out; omega⟩, ⟨bel__⟩⟩
     ·rw [if_neg c6] at H
      exact absurd H (by simp)
    ·rw [if_neg c5] at H
     have c5b0 : decide (x6_1 < (a0.size : Int)) = false := decide_eq_false c5
     clear c5
     obtain ⟨y102, hy102⟩ : ∃ y_ : List Int, y_ = (([] : List Int)) := ⟨_, rfl⟩
     replace H : (spec_Sum.l1 k1 a1 x5_1 y102 0) = some r := by first | (rw [hy102]; with_reducible exact H) | (have H2_ := (Option.bind_some _ _).symm.trans H; rw [hy102]; with_reducible exact H2_) | (have H2_ := (Option.bind_some _ _).symm.trans H; with_reducible exact H2_) | with_reducible exact H | (rw [hy102]; exact H) | exact H
     have Ny102 := Aside0.mk hy102
     clear hy102
     have H' := Aside0.mk H
     clear H
     go_wp2_with (first | ((with_reducible refine gate_dst (N := 25) rfl ?_); refine Kd.R_lit (Kd.int .u8) _ 5 ?hg (N := 25) ?hd (xs := ([] : List Int)) (inner := []) (ok := fun _ => True) (okp := fun _ => True) ?hr ?hp (fun _ hk => hk) trivial (Below.refl _ _) (Nat.le_refl _) (by simp) ?_; (case hd => rfl); (case hg => rfl); (case hr => first | (go_simp; done) | (go_simp; rfl)); (case hp => exact (Reps.none _ _)); intro v103 w8 ho9 hb hg_ hnew_; clear hg_ hnew_; (first | rw [← Ny102.out] at ho9 | (simp only [Int.reduceToNat] at ho9; rw [← Ny102.out] at ho9)); have HO104 := am__ (Kd.R_lower ho9 (below_size (bel__))); replace HB := am__ (below_step (bel__) hb); clear hb ho9))
     go_loopg [5, 7, 8] k1 (fun kq v5 v7 v8 w' => ∃ (x5_2 : Int) (x7_2 : List Int) (x8_2 : Int), v5 = .int .u64 x5_2 ∧ v8 = .int .i64 x8_2 ∧ Aside0 (spec_Sum.l1 kq a1 x5_2 x7_2 x8_2 = some r) ∧ Aside0 (kq ≤ k1) ∧ Aside0 (Kd.R (Kd.int .u8) 5 w' w.heap.size (fun _ => True) v7 x7_2) ∧ Aside0 (Below w.heap.size w w'))
     case atStart => exact ⟨(x5_1), (y102), (0), (rf__), (rf__), H', ⟨Nat.le_refl _⟩, ⟨rr__ HO104.out⟩, ⟨bel__⟩⟩
     case round =>
      clear H'
      try clear c1
      try clear p2
      try clear c4
      try clear c5
      try clear c5b0
      try clear c6
      try clear c6b0
      try clear p6
      try clear p7
      try clear q7
      try clear hx7
      try clear p2
      try clear p7
      try clear q7
      obtain ⟨x5_2, x7_2, x8_2, rfl, rfl, HA, HK2, HO_7, HB⟩ := hrel
      cases gk with
      | zero => exact absurd HA.out (by simp [spec_Sum.l1])
      | succ k2 =>
       have H := HA.out
       clear HA
       simp only [spec_Sum.l1] at H
       by_cases c10 : x8_2 < a1
       ·rw [if_pos c10] at H
        have c10b0 : decide (x8_2 < a1) = true := decide_eq_true c10
        clear c10
        obtain ⟨y105, hy105⟩ : ∃ y_ : List Int, y_ = (([(Int.tmod x5_2 256) % 256] : List Int)) := ⟨_, rfl⟩
        replace H : (if y105.length + x7_2.length < 140737488355328 then (spec_Sum.l1 k2 a1 (IntKind.u64.wrap (Int.tdiv x5_2 256)) (y105 ++ x7_2) (wrap64 (x8_2 + 1))) else (none)) = some r := by first | (rw [hy105]; with_reducible exact H) | (have H2_ := (Option.bind_some _ _).symm.trans H; rw [hy105]; with_reducible exact H2_) | (have H2_ := (Option.bind_some _ _).symm.trans H; with_reducible exact H2_) | with_reducible exact H | (rw [hy105]; exact H) | exact H
        have Ny105 := Aside0.mk hy105
        clear hy105
        by_cases c11 : y105.length + x7_2.length < 140737488355328
        ·rw [if_pos c11] at H
         have LMc11 := Aside0.mk c11
         clear c11
         obtain ⟨y108, hy108⟩ : ∃ y_ : List Int, y_ = (y105 ++ x7_2) := ⟨_, rfl⟩
         replace H : (spec_Sum.l1 k2 a1 (IntKind.u64.wrap (Int.tdiv x5_2 256)) y108 (wrap64 (x8_2 + 1))) = some r := by first | (rw [hy108]; with_reducible exact H) | (have H2_ := (Option.bind_some _ _).symm.trans H; rw [hy108]; with_reducible exact H2_) | (have H2_ := (Option.bind_some _ _).symm.trans H; with_reducible exact H2_) | with_reducible exact H | (rw [hy108]; exact H) | exact H
         have Ny108 := Aside0.mk hy108
         clear hy108
         have H' := Aside0.mk H
         clear H
         go_wp2_with (first | ((with_reducible refine gate_dst (N := 34) rfl ?_); refine Kd.R_lit (Kd.int .u8) _ 5 ?hg (N := 34) ?hd (xs := ([(Int.tmod x5_2 256) % 256] : List Int)) (inner := [.int .u8 ((Int.tmod x5_2 256) % 256)]) (ok := fun _ => True) (okp := fun _ => True) ?hr ?hp (fun _ hk => hk) trivial (Below.refl _ _) (Nat.le_refl _) (by simp) ?_; (case hd => rfl); (case hg => rfl); (case hr => first | (go_simp; done) | (go_simp; rfl)); (case hp => exact (Reps.one (show Kd.M (Kd.int .u8) _ _ _ ((Int.tmod x5_2 256) % 256) [.int .u8 ((Int.tmod x5_2 256) % 256)] from rfl) (Reps.none _ _))); intro v106 w12 ho13 hb hg_ hnew_; clear hg_ hnew_; (first | rw [← Ny105.out] at ho13 | (simp only [Int.reduceToNat] at ho13; rw [← Ny105.out] at ho13)); have HO107 := am__ (Kd.R_lower (Kd.R_new' ho13 (Kd.R_lt (rr__ HO_7.out))) (below_size (bel__))); replace HO_7 := am__ (Kd.R_elder' (rr__ HO_7.out) (Kd.R_base ho13) hb); replace HB := am__ (below_step (bel__) hb); clear hb ho13; obtain ⟨Ao15, co15, eo15⟩ := Kd.R_slice HO_7.out; subst eo15) | ((with_reducible refine gate_builtin (b := .append) (xs := #[.tmp 34, .tmp 35]) rfl ?_); at_builtin; refine Kd.R_append_rows (Kd.int .u8) (w0 := w) w.heap.size rfl (.tmp 34) (.tmp 35) 52 5 (.int .u8 0) 1 rfl Try.underlying52 info5 rfl (by decide) (by omega) v106 y105 x7_2 _ _ _ (fun k_ => some k_ ≠ (ob__ Ao15 x7_2.length co15)) (fun _ => False) rfl rfl ?aO ?aR (fun _ _ h => h) (fun _ h => h.elim) ?aF ?aB ?aS ?aL ?_; (case aR => repeat (first | exact (Kd.R_reads' HO_7.out).2.2 | (with_reducible refine Kd.C_alloc ?_ _) | (with_reducible refine Kd.C_drewN ?_ _) | (with_reducible refine Kd.C_drew ?_))); (case aB => exact (bel__)); (case aF => exact (fun k_ hk => Kd.fresh' (Kd.R_lt (rr__ HO_7.out)) k_ hk)); (case aO => exact (by refine rps__ ?_; exact Kd.R_mono HO107.out h2__)); (case aS => exact (below_size (bel__))); (case aL => have := LMc11.out; omega); intro v109 w14 ho hb hg hat; rw [← Ny108.out] at ho; have n0_ := am__ (Kd.R_after (ok := (fun _ => True)) (rr__ HO_7.out) hg hat); have n1_ := am__ (hb); have n2_ := am__ (ho); clear HO_7; clear HB; clear HO107; have HO_7 := n0_; have HB := n1_; have HO110 := n2_; clear n0_ n1_ n2_; clear ho hb hg hat))
         go_roundg k2
         case measure => have := HK1.out; have := HK2.out; omega
         case rel => exact ⟨(IntKind.u64.wrap (Int.tdiv x5_2 256)), (y108), (wrap64 (x8_2 + 1)), (rf__), (rf__), H', ⟨by have := HK1.out; have := HK2.out; omega⟩, ⟨by refine rps__ ?_; exact Kd.R_mono HO110.out (fun _ hk => trivial)⟩, ⟨bel__⟩⟩
        ·rw [if_neg c11] at H
         exact absurd H (by simp)
       ·rw [if_neg c10] at H
        have c10b0 : decide (x8_2 < a1) = false := decide_eq_false c10
        clear c10
        obtain rfl := Option.some.inj H
        have hcv16 := own_string (P := Try.prog) Try.underlying52 Try.underlying5 Try.underlying9 (Kd.own_of_R HO_7.out)
        go_wp2
        go_ret
        exact ⟨by first | rfl | (simp [errW_none, errW_some] <;> rfl) | (simp [*, errW_none, errW_some] <;> rfl), bel__⟩
 ·replace c4 := Bool.eq_false_iff.mpr c4
  subst c4
  have H1 : (some (⟨#[]⟩ : ByteArray)) = some r := by rw [if_neg (show ¬ (false = true) by decide)] at H; exact H
  clear H
  have H := H1
  clear H1
  obtain rfl := Option.some.inj H
  go_enter Try.func15, Try.ntmps15
  go_wp2_with (first | ((with_reducible refine gate_callee (f := 56) rfl ?_); refine gl__ (some 10) Try.func56 #[.int .i64 a1] ?_; (with_reducible refine (spec_l1Width.calls a1 false _ A3.out).mono ?_); rintro e w' ⟨rfl, ⟨nd, rfl⟩⟩; refine ⟨_, rfl, ?_⟩))
  go_ret
  exact ⟨by first | rfl | (simp [errW_none, errW_some] <;> rfl) | (simp [*, errW_none, errW_some] <;> rfl), bel__⟩
end Go.Proofs.Ytpnblgbkjbpeoaa.P

namespace Go.Proofs.Ytpnblgbkjbpeoaa.P
open Go.RowKit Go.Proofs.YtpnblgbkjbpeoaaW.PrintWords Go.Proofs.YtpnblgbkjbpeoaaW.PrintLast Go.Proofs.YtpnblgbkjbpeoaaW.PrintMore
attribute [local go_sem] max2_int min2_int max_two min_two max_three min_three max_four min_four   -- for this text's walks alone
set_option linter.unusedVariables false
set_option linter.unusedSimpArgs false
/-! ### spec_l1Text: function 73 -/
def spec_l1Text.l0 : Nat → Int → List Int → Int → List Int → Int → Option (ByteArray × Int)
 | 0, _, _, _, _, _ => none
 | k + 1, x3, x4, x5, x1000, x1001 => if x5 ≤ x3 then ((spec_l1Rd_pick.f k x1000 x1001 6).bind fun bt608 => (if x4.length < 140737488355328 then (spec_l1Text.l0 k x3 (x4 ++ [(wrap64 (97 + bt608.1)) % 256]) (wrap64 (x5 + 1)) x1000 bt608.2) else (none))) else (some (strOfNums x4, x1001))
def spec_l1Text.f (k : Nat) (s0_0 : List Int) (s0_1 : Int) : Option (ByteArray × Int) := (spec_l1Rd_pick.f k s0_0 s0_1 9).bind fun bt601 => (if bt601.1 = 0 then (some ((⟨#[]⟩ : ByteArray), bt601.2)) else (if bt601.1 = 1 then (some ((⟨#[97, 32, 98]⟩ : ByteArray), bt601.2)) else (if bt601.1 = 2 then (some ((⟨#[37, 45, 10]⟩ : ByteArray), bt601.2)) else (if bt601.1 = 3 then (some ((⟨#[255, 0]⟩ : ByteArray), bt601.2)) else ((spec_l1Rd_pick.f k s0_0 bt601.2 4).bind fun bt603 => (spec_l1Text.l0 k bt603.1 (([] : List Int)) 0 s0_0 bt603.2))))))
set_option maxHeartbeats 8000000 in
set_option maxRecDepth 100000 in
theorem spec_l1Text.calls (k : Nat) (g : Nat) (s0_0 : List Int) (s0_1 : Int) (r1 : ByteArray) (r2 : Int) (w0 w : World) (hI : IsS104 w0 w g s0_0 s0_1) (hB : Below w0.heap.size w0 w) (h : spec_l1Text.f k s0_0 s0_1 = some (r1, r2)) :
  Calls Try.prog 73 #[.pointer (some ⟨g, 0, none⟩)] w fun e w' => e = .returned (.string r1) ∧ IsS104 w0 w' g s0_0 r2 ∧ Below w0.heap.size w0 w' ∧ KeepBut w w' g none := by
 have HI0 := Aside0.mk hI
 have HK := am__ (KeepBut.refl w g none)
 have HL := Aside0.mk hB.size
 clear hI
 have HW0 := Aside0.mk hB.size
 have HB := Aside0.mk hB
 clear hB
 have H : ((spec_l1Rd_pick.f k s0_0 s0_1 9).bind fun bt601 => (if bt601.1 = 0 then (some ((⟨#[]⟩ : ByteArray), bt601.2)) else (if bt601.1 = 1 then (some ((⟨#[97, 32, 98]⟩ : ByteArray), bt601.2)) else (if bt601.1 = 2 then (some ((⟨#[37, 45, 10]⟩ : ByteArray), bt601.2)) else (if bt601.1 = 3 then (some ((⟨#[255, 0]⟩ : ByteArray), bt601.2)) else ((spec_l1Rd_pick.f k s0_0 bt601.2 4).bind fun bt603 => (spec_l1Text.l0 k bt603.1 (([] : List Int)) 0 s0_0 bt603.2))))))) = some (r1, r2) := h
 clear h
 replace H := Option.bind_eq_some_iff.mp H
 obtain ⟨⟨t601, t602⟩, A20, H⟩ := H
 replace H : (if t601 = 0 then (some ((⟨#[]⟩ : ByteArray), t602)) else (if t601 = 1 then (some ((⟨#[97, 32, 98]⟩ : ByteArray), t602)) else (if t601 = 2 then (some ((⟨#[37, 45, 10]⟩ : ByteArray), t602)) else (if t601 = 3 then (some ((⟨#[255, 0]⟩ : ByteArray), t602)) else ((spec_l1Rd_pick.f k s0_0 t602 4).bind fun bt603 => (spec_l1Text.l0 k bt603.1 (([] : List Int)) 0 s0_0 bt603.2)))))) = some (r1, r2) := H
 have A2 := Aside0.mk A20
 clear A20
 by_cases c3 : t601 = 0
 ·rw [if_pos c3] at H
  have c3b0 : (t601 == 0) = true := beq_iff_eq.mpr c3
  have c3b1 : (t601 != 0) = false := bne_eq_false_iff_eq.mpr c3
  clear c3
  simp only [Option.some.injEq, Prod.mk.injEq] at H
  obtain ⟨rfl, rfl⟩ := H
  go_enter Try.func73, Try.ntmps73
  go_wp2_with (first | ((with_reducible refine gate_callee (f := 71) rfl ?_); refine gl__ (some 7) Try.func71 #[.pointer (some ⟨g, 0, none⟩), .int .i64 9] ?_; (with_reducible refine (spec_l1Rd_pick.calls k g s0_0 s0_1 9 t601 t602 w0 _ hhi0__iss104 b0_l__ A2.out).mono ?_); rintro e w4 ⟨rfl, hi, hb, hk⟩; refine ⟨_, rfl, ?_⟩; replace HK := am__ (KeepBut.trans (kee__) hk (.inl rfl)); replace HB := am__ (hb); replace HI0 := am__ (hi); clear hi hb hk))
  go_ret
  exact ⟨by first | rfl | (simp [errW_none, errW_some] <;> rfl) | (simp [*, errW_none, errW_some] <;> rfl), hhi0__iss104, by repeat (first | (with_reducible first | exact HB.out | apply below_alloc | apply pw_below_drewN | apply below_drew1 | refine below_set ?_ (IsS104.ge HI0.out)) | exact HB.out), kee__⟩
 ·rw [if_neg c3] at H
  have c3b0 : (t601 == 0) = false := beq_eq_false_iff_ne.mpr c3
  have c3b1 : (t601 != 0) = true := bne_iff_ne.mpr c3
  by_cases c5 : t601 = 1
  ·rw [if_pos c5] at H
   have c5b0 : (t601 == 1) = true := beq_iff_eq.mpr c5
   have c5b1 : (t601 != 1) = false := bne_eq_false_iff_eq.mpr c5
   clear c5
   simp only [Option.some.injEq, Prod.mk.injEq] at H
   obtain ⟨rfl, rfl⟩ := H
   go_enter Try.func73, Try.ntmps73
   go_wp2_with (first | ((with_reducible refine gate_callee (f := 71) rfl ?_); refine gl__ (some 7) Try.func71 #[.pointer (some ⟨g, 0, none⟩), .int .i64 9] ?_; (with_reducible refine (spec_l1Rd_pick.calls k g s0_0 s0_1 9 t601 t602 w0 _ hhi0__iss104 b0_l__ A2.out).mono ?_); rintro e w6 ⟨rfl, hi, hb, hk⟩; refine ⟨_, rfl, ?_⟩; replace HK := am__ (KeepBut.trans (kee__) hk (.inl rfl)); replace HB := am__ (hb); replace HI0 := am__ (hi); clear hi hb hk))
   go_ret
   exact ⟨by first | rfl | (simp [errW_none, errW_some] <;> rfl) | (simp [*, errW_none, errW_some] <;> rfl), hhi0__iss104, by repeat (first | (with_reducible first | exact HB.out | apply below_alloc | apply pw_below_drewN | apply below_drew1 | refine below_set ?_ (IsS104.ge HI0.out)) | exact HB.out), kee__⟩
  ·rw [if_neg c5] at H
   have c5b0 : (t601 == 1) = false := beq_eq_false_iff_ne.mpr c5
   have c5b1 : (t601 != 1) = true := bne_iff_ne.mpr c5
   by_cases c7 : t601 = 2
   ·rw [if_pos c7] at H
    have c7b0 : (t601 == 2) = true := beq_iff_eq.mpr c7
    have c7b1 : (t601 != 2) = false := bne_eq_false_iff_eq.mpr c7
    clear c7
    simp only [Option.some.injEq, Prod.mk.injEq] at H
    obtain ⟨rfl, rfl⟩ := H
    go_enter Try.func73, Try.ntmps73
    go_wp2_with (first | ((with_reducible refine gate_callee (f := 71) rfl ?_); refine gl__ (some 7) Try.func71 #[.pointer (some ⟨g, 0, none⟩), .int .i64 9] ?_; (with_reducible refine (spec_l1Rd_pick.calls k g s0_0 s0_1 9 t601 t602 w0 _ hhi0__iss104 b0_l__ A2.out).mono ?_); rintro e w8 ⟨rfl, hi, hb, hk⟩; refine ⟨_, rfl, ?_⟩; replace HK := am__ (KeepBut.trans (kee__) hk (.inl rfl)); replace HB := am__ (hb); replace HI0 := am__ (hi); clear hi hb hk))
    go_ret
    exact ⟨by first | rfl | (simp [errW_none, errW_some] <;> rfl) | (simp [*, errW_none, errW_some] <;> rfl), hhi0__iss104, by repeat (first | (with_reducible first | exact HB.out | apply below_alloc | apply pw_below_drewN | apply below_drew1 | refine below_set ?_ (IsS104.ge HI0.out)) | exact HB.out), kee__⟩
   ·rw [if_neg c7] at H
    have c7b0 : (t601 == 2) = false := beq_eq_false_iff_ne.mpr c7
    have c7b1 : (t601 != 2) = true := bne_iff_ne.mpr c7
    by_cases c9 : t601 = 3
    ·rw [if_pos c9] at H
     have c9b0 : (t601 == 3) = true := beq_iff_eq.mpr c9
     have c9b1 : (t601 != 3) = false := bne_eq_false_iff_eq.mpr c9
     clear c9
     simp only [Option.some.injEq, Prod.mk.injEq] at H
     obtain ⟨rfl, rfl⟩ := H
     go_enter Try.func73, Try.ntmps73
     go_wp2_with (first | ((with_reducible refine gate_callee (f := 71) rfl ?_); refine gl__ (some 7) Try.func71 #[.pointer (some ⟨g, 0, none⟩), .int .i64 9] ?_; (with_reducible refine (spec_l1Rd_pick.calls k g s0_0 s0_1 9 t601 t602 w0 _ hhi0__iss104 b0_l__ A2.out).mono ?_); rintro e w10 ⟨rfl, hi, hb, hk⟩; refine ⟨_, rfl, ?_⟩; replace HK := am__ (KeepBut.trans (kee__) hk (.inl rfl)); replace HB := am__ (hb); replace HI0 := am__ (hi); clear hi hb hk))
     go_ret
     exact ⟨by first | rfl | (simp [errW_none, errW_some] <;> rfl) | (simp [*, errW_none, errW_some] <;> rfl), hhi0__iss104, by repeat (first | (with_reducible first | exact HB.out | apply below_alloc | apply pw_below_drewN | apply below_drew1 | refine below_set ?_ (IsS104.ge HI0.out)) | exact HB.out), kee__⟩
    ·rw [if_neg c9] at H
     have c9b0 : (t601 == 3) = false := beq_eq_false_iff_ne.mpr c9
     have c9b1 : (t601 != 3) = true := bne_iff_ne.mpr c9
     replace H := Option.bind_eq_some_iff.mp H
     obtain ⟨⟨t603, t604⟩, A110, H⟩ := H
     replace H : (spec_l1Text.l0 k t603 (([] : List Int)) 0 s0_0 t604) = some (r1, r2) := H
     have A11 := Aside0.mk A110
     clear A110
     obtain ⟨y605, hy605⟩ : ∃ y_ : List Int, y_ = (([] : List Int)) := ⟨_, rfl⟩
     replace H : (spec_l1Text.l0 k t603 y605 0 s0_0 t604) = some (r1, r2) := by first | (rw [hy605]; with_reducible exact H) | (have H2_ := (Option.bind_some _ _).symm.trans H; rw [hy605]; with_reducible exact H2_) | (have H2_ := (Option.bind_some _ _).symm.trans H; with_reducible exact H2_) | with_reducible exact H | (rw [hy605]; exact H) | exact H
     have Ny605 := Aside0.mk hy605
     clear hy605
     have H' := Aside0.mk H
     clear H
     go_enter Try.func73, Try.ntmps73
     go_wp2_with (first | ((with_reducible refine gate_callee (f := 71) rfl ?_); refine gl__ (some 7) Try.func71 #[.pointer (some ⟨g, 0, none⟩), .int .i64 9] ?_; (with_reducible refine (spec_l1Rd_pick.calls k g s0_0 s0_1 9 t601 t602 w0 _ hhi0__iss104 b0_l__ A2.out).mono ?_); rintro e w12 ⟨rfl, hi, hb, hk⟩; refine ⟨_, rfl, ?_⟩; replace HK := am__ (KeepBut.trans (kee__) hk (.inl rfl)); replace HB := am__ (hb); replace HI0 := am__ (hi); clear hi hb hk) | ((with_reducible refine gate_callee (f := 71) rfl ?_); refine gl__ (some 17) Try.func71 #[.pointer (some ⟨g, 0, none⟩), .int .i64 4] ?_; (with_reducible refine (spec_l1Rd_pick.calls k g s0_0 t602 4 t603 t604 w0 _ hhi0__iss104 b0_l__ A11.out).mono ?_); rintro e w13 ⟨rfl, hi, hb, hk⟩; refine ⟨_, rfl, ?_⟩; replace HK := am__ (KeepBut.trans (kee__) hk (.inl rfl)); replace HB := am__ (hb); replace HI0 := am__ (hi); clear hi hb hk) | ((with_reducible refine gate_dst (N := 18) rfl ?_); refine Kd.R_lit (Kd.int .u8) _ 5 ?hg (N := 18) ?hd (xs := ([] : List Int)) (inner := []) (ok := fun _ => True) (okp := fun _ => True) ?hr ?hp (fun _ hk => hk) trivial (Below.refl _ _) (Nat.le_refl _) (by simp) ?_; (case hd => rfl); (case hg => rfl); (case hr => first | (go_simp; done) | (go_simp; rfl)); (case hp => exact (Reps.none _ _)); intro v606 w14 ho15 hb hg_ hnew_; clear hg_ hnew_; (first | rw [← Ny605.out] at ho15 | (simp only [Int.reduceToNat] at ho15; rw [← Ny605.out] at ho15)); have HO607 := am__ (Kd.R_lower ho15 (keep_size (w := w) (g := g) (row := none) (kee__))); replace HK := am__ (KeepBut.trans (kee__) (KeepBut.of_below hb g none) (.inl rfl)); replace HB := am__ (below_step (b0_l__) hb); replace HI0 := am__ (IsS104.below (hhi0__iss104) hb); clear hb ho15))
     go_loopg [4, 5] k (fun kq v4 v5 w' => ∃ (x4_1 : List Int) (x5_1 : Int) (x1001_1 : Int), v5 = .int .i64 x5_1 ∧ Aside0 (spec_l1Text.l0 kq t603 x4_1 x5_1 s0_0 x1001_1 = some (r1, r2)) ∧ Aside0 (kq ≤ k) ∧ Aside0 (Kd.R (Kd.int .u8) 5 w' w.heap.size (fun _ => True) v4 x4_1) ∧ Aside0 (IsS104 w0 w' g s0_0 x1001_1) ∧ Aside0 (KeepBut w w' g none) ∧ Aside0 (Below w0.heap.size w0 w'))
     case atStart => exact ⟨(y605), (0), (t604), (rf__), H', ⟨Nat.le_refl _⟩, ⟨rr__ HO607.out⟩, ⟨hhi0__iss104⟩, ⟨kee__⟩, ⟨b0_l__⟩⟩
     case round =>
      clear H'
      try clear p2
      try clear c3
      try clear c3b0
      try clear c3b1
      try clear c5
      try clear c5b0
      try clear c5b1
      try clear c7
      try clear c7b0
      try clear c7b1
      try clear c9
      try clear c9b0
      try clear c9b1
      obtain ⟨x4_1, x5_1, x1001_1, rfl, HA, HK1, HO_4, HI0, HK, HB⟩ := hrel
      cases gk with
      | zero => exact absurd HA.out (by simp [spec_l1Text.l0])
      | succ k1 =>
       have H := HA.out
       clear HA
       simp only [spec_l1Text.l0] at H
       by_cases c16 : x5_1 ≤ t603
       ·rw [if_pos c16] at H
        have c16b0 : decide (x5_1 ≤ t603) = true := decide_eq_true c16
        clear c16
        replace H := Option.bind_eq_some_iff.mp H
        obtain ⟨⟨t608, t609⟩, A170, H⟩ := H
        replace H : (if x4_1.length < 140737488355328 then (spec_l1Text.l0 k1 t603 (x4_1 ++ [(wrap64 (97 + t608)) % 256]) (wrap64 (x5_1 + 1)) s0_0 t609) else (none)) = some (r1, r2) := H
        have A17 := Aside0.mk A170
        clear A170
        by_cases c18 : x4_1.length < 140737488355328
        ·rw [if_pos c18] at H
         have LMc18 := Aside0.mk c18
         clear c18
         obtain ⟨y610, hy610⟩ : ∃ y_ : List Int, y_ = (x4_1 ++ [(wrap64 (97 + t608)) % 256]) := ⟨_, rfl⟩
         replace H : (spec_l1Text.l0 k1 t603 y610 (wrap64 (x5_1 + 1)) s0_0 t609) = some (r1, r2) := by first | (rw [hy610]; with_reducible exact H) | (have H2_ := (Option.bind_some _ _).symm.trans H; rw [hy610]; with_reducible exact H2_) | (have H2_ := (Option.bind_some _ _).symm.trans H; with_reducible exact H2_) | with_reducible exact H | (rw [hy610]; exact H) | exact H
         have Ny610 := Aside0.mk hy610
         clear hy610
         have H' := Aside0.mk H
         clear H
         go_wp2_with (first | ((with_reducible refine gate_callee (f := 71) rfl ?_); refine gl__ (some 26) Try.func71 #[.pointer (some ⟨g, 0, none⟩), .int .i64 6] ?_; (with_reducible refine (spec_l1Rd_pick.calls k1 g s0_0 x1001_1 6 t608 t609 w0 _ hhi0__iss104 b0_l__ A17.out).mono ?_); rintro e w19 ⟨rfl, hi, hb, hk⟩; refine ⟨_, rfl, ?_⟩; replace HO_4 := am__ (Kd.R_mono (Kd.R_keep (IsS104.apart (show IsS104 w0 _ g s0_0 x1001_1 from hhi0__iss104) (rr__ HO_4.out) (by decide)) hk h2__) h1__); replace HK := am__ (KeepBut.trans (kee__) hk (.inl rfl)); replace HB := am__ (hb); replace HI0 := am__ (hi); clear hi hb hk) | ((with_reducible refine gate_builtin (b := .append) (xs := #[.tmp 24, .tmp 29]) rfl ?_); at_builtin; refine Kd.R_append (Kd.int .u8) w.heap.size rfl (.tmp 24) (.tmp 29) 52 5 (.int .u8 0) 1 rfl Try.underlying52 info5 rfl (by decide) (by omega) u4 x4_1 ((wrap64 (97 + t608)) % 256) [.int .u8 ((wrap64 (97 + t608)) % 256)] (fun _ => True) (fun _ => False) rfl rfl ?aP (fun _ hk => hk.elim) ?aF ?aO (Below.refl _ _) ?aS ?aL ?_; (case aP => exact rfl); (case aF => exact (fun _ _ => trivial)); (case aO => exact (rr__ HO_4.out)); (case aS => exact (keep_size (w := w) (g := g) (row := none) (kee__))); (case aL => have := LMc18.out; omega); intro v611 w20 ho hb hg hat; rw [← Ny610.out] at ho; have n0_ := am__ (IsS104.grown (hhi0__iss104) hg (IsS104.own_ne HI0.out HO_4.out (by decide))); have n1_ := am__ (below_weaken (b0_l__) HL.out hb); have n2_ := am__ (KeepBut.trans (kee__) (KeepBut.of_grown hg g) (Kd.R_base2 HO_4.out)); have n3_ := am__ (ho); clear HI0; clear HB; clear HK; clear HO_4; have HI0 := n0_; have HB := n1_; have HK := n2_; have HO612 := n3_; clear n0_ n1_ n2_ n3_; clear ho hb hg hat))
         go_roundg k1
         case measure => have := HK1.out; omega
         case rel => exact ⟨(y610), (wrap64 (x5_1 + 1)), (t609), (rf__), H', ⟨by have := HK1.out; omega⟩, ⟨rr__ HO612.out⟩, ⟨hhi0__iss104⟩, ⟨kee__⟩, ⟨b0_l__⟩⟩
        ·rw [if_neg c18] at H
         exact absurd H (by simp)
       ·rw [if_neg c16] at H
        have c16b0 : decide (x5_1 ≤ t603) = false := decide_eq_false c16
        clear c16
        simp only [Option.some.injEq, Prod.mk.injEq] at H
        obtain ⟨rfl, rfl⟩ := H
        have hcv21 := own_string (P := Try.prog) Try.underlying52 Try.underlying5 Try.underlying9 (Kd.own_of_R HO_4.out)
        go_wp2
        go_ret
        exact ⟨by first | rfl | (simp [errW_none, errW_some] <;> rfl) | (simp [*, errW_none, errW_some] <;> rfl), hhi0__iss104, by repeat (first | (with_reducible first | exact HB.out | apply below_alloc | apply pw_below_drewN | apply below_drew1 | refine below_set ?_ (IsS104.ge HI0.out)) | exact HB.out), kee__⟩
end Go.Proofs.Ytpnblgbkjbpeoaa.P

namespace Go.Proofs.Ytpnblgbkjbpeoaa.P
open Go.RowKit Go.Proofs.YtpnblgbkjbpeoaaW.PrintWords Go.Proofs.YtpnblgbkjbpeoaaW.PrintLast Go.Proofs.YtpnblgbkjbpeoaaW.PrintMore
attribute [local go_sem] max2_int min2_int max_two min_two max_three min_three max_four min_four   -- for this text's walks alone
set_option linter.unusedVariables false
set_option linter.unusedSimpArgs false
/-! ### spec_l1Sorted: function 91 -/
mutual
def spec_l1Sorted.l0 : Nat → List ByteArray → List ByteArray → Int → Option (List ByteArray)
 | 0, _, _, _ => none
 | k + 1, x0, x3, x4 => if x4 < (x0.length : Int) then (spec_l1Sorted.l1 k x0 x3 x4 0) else (some x3)
def spec_l1Sorted.l1 : Nat → List ByteArray → List ByteArray → Int → Int → Option (List ByteArray)
 | 0, _, _, _, _ => none
 | k + 1, x0, x3, x4, x5 => if x5 < (x3.length : Int) then (if 0 ≤ x5 then (if 0 ≤ x4 then (if x4 < (x0.length : Int) then (spec_l1Sorted.j2 k x0 x3 x4 x5 (Op.bytesLess ((rdOf ByteArray.empty x3 x5).toList) ((rdOf ByteArray.empty x0 x4).toList))) else (none)) else (none)) else (none)) else (spec_l1Sorted.j2 k x0 x3 x4 x5 false)
def spec_l1Sorted.j2 : Nat → List ByteArray → List ByteArray → Int → Int → Bool → Option (List ByteArray)
 | 0, _, _, _, _, _ => none
 | k + 1, x0, x3, x4, x5, x28 => if x28 = true then (spec_l1Sorted.l1 k x0 x3 x4 (wrap64 (x5 + 1))) else (if x5 < (x3.length : Int) then (if 0 ≤ x5 then (if 0 ≤ x4 then (if x4 < (x0.length : Int) then (spec_l1Sorted.j3 k x0 x3 x4 x5 ((rdOf ByteArray.empty x3 x5).toList == (rdOf ByteArray.empty x0 x4).toList)) else (none)) else (none)) else (none)) else (spec_l1Sorted.j3 k x0 x3 x4 x5 false))
def spec_l1Sorted.j3 : Nat → List ByteArray → List ByteArray → Int → Int → Bool → Option (List ByteArray)
 | 0, _, _, _, _, _ => none
 | k + 1, x0, x3, x4, x5, x45 => if x45 = true then (spec_l1Sorted.l0 k x0 x3 (wrap64 (x4 + 1))) else ((some (([] : List ByteArray) : List ByteArray)).bind fun y924 => (if 0 ≤ x5 then (if x5 ≤ (x3.length : Int) then ((some (x3.take (x5 : Int).toNat : List ByteArray)).bind fun y927 => (if y924.length + y927.length < 8796093022208 then ((some (y924 ++ y927 : List ByteArray)).bind fun y931 => (if 0 ≤ x4 then (if x4 < (x0.length : Int) then (if y931.length < 8796093022208 then ((some (y931 ++ [rdOf ByteArray.empty x0 x4] : List ByteArray)).bind fun y935 => ((some (x3.drop (x5 : Int).toNat : List ByteArray)).bind fun y938 => (if y935.length + y938.length < 8796093022208 then (spec_l1Sorted.l0 k x0 (y935 ++ y938) (wrap64 (x4 + 1))) else (none)))) else (none)) else (none)) else (none))) else (none))) else (none)) else (none)))
end
def spec_l1Sorted.f (k : Nat) (l0 : List ByteArray) : Option (List ByteArray) := spec_l1Sorted.l0 k l0 (([] : List ByteArray)) 0
def spec_l1Sorted.T6 : Bool × List (List Nat × List Nat) := (true, [([], []), ([], []), ([1], [1]), ([0, 2], [0, 2]), ([3], [3]), ([4], [4]), ([4], [4]), ([5, 6, 4], [4, 5, 6]), ([7, 4], [4, 7]), ([4], [4]), ([4], [4]), ([9, 10, 4], [4, 9, 10]), ([11, 4], [4, 11]), ([8, 12, 4], [4, 8, 12]), ([4, 13], [4, 13])])
def spec_l1Sorted.B6 : List Nat := [0, 0, 2, 7, 15, 31, 31, 127, 255, 31, 31, 1567, 3615, 8191, 16383]
theorem spec_l1Sorted.tab6 : rtab .any (opsOf Try.f91 6) = spec_l1Sorted.T6 := by kernel_rfl
theorem spec_l1Sorted.bits6 : waitsOk spec_l1Sorted.T6.2 spec_l1Sorted.B6 = true := by kernel_rfl
def spec_l1Sorted.T8 : Bool × List (List Nat × List Nat) := (true, [([], []), ([], []), ([1], [1]), ([0, 2], [0, 2]), ([3], [3]), ([4], [4]), ([4], [4]), ([5, 6, 4], [4, 5, 6]), ([7, 4], [4, 7]), ([4], [4]), ([4], [4]), ([9, 10, 4], [4, 9, 10]), ([11, 4], [4, 11]), ([8, 12, 4], [4, 8, 12]), ([4, 13], [4, 13])])
def spec_l1Sorted.B8 : List Nat := [0, 0, 2, 7, 15, 31, 31, 127, 255, 31, 31, 1567, 3615, 8191, 16383]
theorem spec_l1Sorted.tab8 : rtab .any (opsOf Try.f91 8) = spec_l1Sorted.T8 := by kernel_rfl
theorem spec_l1Sorted.bits8 : waitsOk spec_l1Sorted.T8.2 spec_l1Sorted.B8 = true := by kernel_rfl
def spec_l1Sorted.T10 : Bool × List (List Nat × List Nat) := (true, [([], []), ([], []), ([], []), ([1, 2], [1, 2]), ([3], [3]), ([4], [4]), ([0, 5], [0, 5]), ([], []), ([], []), ([7, 8], [7, 8]), ([6, 9, 6], [6, 9]), ([10, 10, 0, 1, 2, 3, 4, 5, 6, 7, 8, 9, 10], [0, 10])])
def spec_l1Sorted.B10 : List Nat := [0, 0, 0, 6, 14, 30, 63, 0, 0, 384, 1023, 2047]
theorem spec_l1Sorted.tab10 : rtab .any (opsOf Try.f91 10) = spec_l1Sorted.T10 := by kernel_rfl
theorem spec_l1Sorted.bits10 : waitsOk spec_l1Sorted.T10.2 spec_l1Sorted.B10 = true := by kernel_rfl
set_option maxHeartbeats 8000000 in
set_option maxRecDepth 100000 in
theorem spec_l1Sorted.calls (k : Nat) (A0 : Option Addr) (c0 : Nat) (l0 : List ByteArray) (r : List ByteArray) (w : World) (hr0 : Kd.C Kd.string w A0 l0.length l0) (hc0 : l0.length ≤ c0) (h : spec_l1Sorted.f k l0 = some r) :
  Calls Try.prog 91 #[.slice A0 l0.length c0] w fun e w' => ∃ v0_ : Value, e = .returned (v0_) ∧ Kd.R Kd.string 9 w' w.heap.size (fun _ => True) v0_ r ∧ Below w.heap.size w w' := by
 have HR0 := Aside0.mk hr0
 have HC0 := Aside0.mk hc0
 clear hr0 hc0
 have HB := am__ (Below.refl w.heap.size w)
 have H : (spec_l1Sorted.l0 k l0 (([] : List ByteArray)) 0) = some r := h
 clear h
 obtain ⟨y917, hy917⟩ : ∃ y_ : List ByteArray, y_ = (([] : List ByteArray)) := ⟨_, rfl⟩
 replace H : (spec_l1Sorted.l0 k l0 y917 0) = some r := by first | (rw [hy917]; with_reducible exact H) | (have H2_ := (Option.bind_some _ _).symm.trans H; rw [hy917]; with_reducible exact H2_) | (have H2_ := (Option.bind_some _ _).symm.trans H; with_reducible exact H2_) | with_reducible exact H | (rw [hy917]; exact H) | exact H
 have Ny917 := Aside0.mk hy917
 clear hy917
 have H' := Aside0.mk H
 clear H
 go_enter Try.func91, Try.ntmps91
 go_wp2_with (first | ((with_reducible refine gate_dst (N := 7) rfl ?_); refine Kd.R_lit Kd.string _ 9 ?hg (N := 7) ?hd (xs := ([] : List ByteArray)) (inner := []) (ok := fun _ => True) (okp := fun _ => True) ?hr ?hp (fun _ hk => hk) trivial (Below.refl _ _) (Nat.le_refl _) (by simp) ?_; (case hd => rfl); (case hg => rfl); (case hr => first | (go_simp; done) | (go_simp; rfl)); (case hp => exact (Reps.none _ _)); intro v918 w2 ho3 hb hg_ hnew_; clear hg_ hnew_; (first | rw [← Ny917.out] at ho3 | (simp only [Int.reduceToNat] at ho3; rw [← Ny917.out] at ho3)); have HO919 := am__ (Kd.R_lower ho3 (below_size (bel__))); replace HB := am__ (below_step (bel__) hb); clear hb ho3))
 go_loopg [3, 4] k (fun kq v3 v4 w' => ∃ (x3_1 : List ByteArray) (x4_1 : Int), v4 = .int .i64 x4_1 ∧ Aside0 (spec_l1Sorted.l0 kq l0 x3_1 x4_1 = some r) ∧ Aside0 (kq ≤ k) ∧ Aside0 (Kd.R Kd.string 9 w' w.heap.size (fun _ => True) v3 x3_1) ∧ Aside0 (Below w.heap.size w w'))
 case atStart => exact ⟨(y917), (0), (rf__), H', ⟨Nat.le_refl _⟩, ⟨rr__ HO919.out⟩, ⟨bel__⟩⟩
 case round =>
  clear H'
  try clear p2
  obtain ⟨x3_1, x4_1, rfl, HA, HK1, HO_3, HB⟩ := hrel
  cases gk with
  | zero => exact absurd HA.out (by simp [spec_l1Sorted.l0])
  | succ k1 =>
   have H := HA.out
   clear HA
   simp only [spec_l1Sorted.l0] at H
   by_cases c4 : x4_1 < (l0.length : Int)
   ·rw [if_pos c4] at H
    have c4b0 : decide (x4_1 < (l0.length : Int)) = true := decide_eq_true c4
    clear c4
    have H' := Aside0.mk H
    clear H
    go_wp2
    go_loopg [5] k1 (fun kq v5 w' => ∃ (x5_2 : Int), v5 = .int .i64 x5_2 ∧ Aside0 (spec_l1Sorted.l1 kq l0 x3_1 x4_1 x5_2 = some r) ∧ Aside0 (kq ≤ k1) ∧ Aside0 (Kd.R Kd.string 9 w' w.heap.size (fun _ => True) u3 x3_1) ∧ Aside0 (Below w.heap.size w w'))
    case atStart => exact ⟨(0), (rf__), H', ⟨Nat.le_refl _⟩, ⟨rr__ HO_3.out⟩, ⟨bel__⟩⟩
    case round =>
     clear H'
     try clear p2
     try clear c4
     try clear c4b0
     try clear p2
     obtain ⟨x5_2, rfl, HA, HK2, HO_3, HB⟩ := hrel
     cases gk with
     | zero => exact absurd HA.out (by simp [spec_l1Sorted.l1])
     | succ k2 =>
      have H := HA.out
      clear HA
      simp only [spec_l1Sorted.l1] at H
      have HC5 := Aside0.mk H
      clear H
      go_upto_region 6 with (fail)
      go_cut [28] (fun v28 wc => ∃ (kq : Nat) (x28_4 : Bool), v28 = .bool x28_4 ∧ Aside0 (spec_l1Sorted.j2 kq l0 x3_1 x4_1 x5_2 x28_4 = some r) ∧ Aside0 (kq ≤ k2) ∧ Aside0 (Kd.R Kd.string 9 wc w.heap.size (fun _ => True) u3 x3_1) ∧ Aside0 (Below w.heap.size w wc))
      case first =>
       have H := HC5.out
       clear HC5
       by_cases c6 : x5_2 < (x3_1.length : Int)
       ·rw [if_pos c6] at H
        have c6b0 : decide (x5_2 < (x3_1.length : Int)) = true := decide_eq_true c6
        clear c6
        (first | rw [c6b0] | (simp only [i64_w, i32_w]; rw [c6b0]) | skip)
        by_cases c7 : 0 ≤ x5_2
        ·rw [if_pos c7] at H
         have c7b0 : decide (0 ≤ x5_2) = true := decide_eq_true c7
         clear c7
         by_cases c8 : 0 ≤ x4_1
         ·rw [if_pos c8] at H
          have c8b0 : decide (0 ≤ x4_1) = true := decide_eq_true c8
          clear c8
          by_cases c9 : x4_1 < (l0.length : Int)
          ·rw [if_pos c9] at H
           have c9b0 : decide (x4_1 < (l0.length : Int)) = true := decide_eq_true c9
           clear c9
           have H' := Aside0.mk H
           clear H
           try go_wp2
           have n0_ := am__ (Kd.R_drew HO_3.out)
           have n1_ := am__ (below_drew1 HB.out)
           clear HO_3
           clear HB
           have HO_3 := n0_
           have HB := n1_
           clear n0_ n1_
           obtain ⟨Ao11, co11, eo11⟩ := Kd.R_slice HO_3.out
           (first | subst eo11 | (injection eo11 with f1_ f2_ f3_; have f4_ := f1_.symm; have f5_ := f3_.symm; clear f1_ f2_ f3_; subst f4_; subst f5_))
           have p920 : 0 ≤ (x5_2 : Int) := of_decide_eq_true (by first | (with_reducible assumption) | assumption)
           have q920 : x5_2 < (x3_1.length : Int) := of_decide_eq_true (by first | (with_reducible assumption) | assumption)
           obtain ⟨ad920, e920, hx920_0⟩ := Kd.at_string (Kd.R_reads' HO_3.out).2.2 x5_2 p920 q920
           cases e920
           replace p920 := eq_true p920
           replace q920 := eq_true q920
           have p921 : 0 ≤ (x4_1 : Int) := of_decide_eq_true (by first | (with_reducible assumption) | assumption)
           have q921 : x4_1 < (l0.length : Int) := of_decide_eq_true (by first | (with_reducible assumption) | assumption)
           obtain ⟨ad921, e921, hx921_0⟩ := Kd.at_string HR0.out x4_1 p921 q921
           have hw921_0 := hx921_0
           cases e921
           try replace hx921_0 := (HB.out.cell (World.block_lt_of_cell? w _ hx921_0)).trans hx921_0
           replace p921 := eq_true p921
           replace q921 := eq_true q921
           refine start_ (n := 15) (S := fun w' => w'.cell? (ad920.add (x5_2).toNat) = some (.string (rdOf ByteArray.empty x3_1 x5_2)) ∧ w'.cell? (ad921.add (x4_1).toNat) = some (.string (rdOf ByteArray.empty l0 x4_1))) (ds := []) #[false, false, false, false, false, false, false, false, false, false, false, false, false, false, false] (by kernel_rfl) rfl rfl ⟨hx920_0, ((HB.out.cell (World.block_lt_of_cell? w _ hw921_0)).trans hw921_0)⟩ (fun hHeld => ?_); refine with_tabW spec_l1Sorted.tab6 spec_l1Sorted.bits6 (fun HT_ HW_ => ?_)
           generalize wr.drew = w10 at HO_3 HB hx920_0 hx921_0 hHeld ⊢
           refine pu__ (i := 0) (N := some 14) #[true, false, false, false, false, false, false, false, false, false, false, false, false, false, false] HT_.out ?_
           refine pu__ (i := 1) (N := some 15) #[true, true, false, false, false, false, false, false, false, false, false, false, false, false, false] HT_.out ?_
           refine pu__ (i := 2) (N := some 16) #[true, true, true, false, false, false, false, false, false, false, false, false, false, false, false] HT_.out ?_
           refine pu__ (i := 3) (N := some 17) #[true, true, true, true, false, false, false, false, false, false, false, false, false, false, false] HT_.out ?_
           refine pu__ (i := 4) (N := some 18) #[true, true, true, true, true, false, false, false, false, false, false, false, false, false, false] HT_.out ?_
           refine pu__ (i := 5) (N := some 19) #[true, true, true, true, true, true, false, false, false, false, false, false, false, false, false] HT_.out ?_
           refine pu__ (i := 6) (N := some 20) #[true, true, true, true, true, true, true, false, false, false, false, false, false, false, false] HT_.out ?_
           refine pu__ (i := 7) (N := some 21) #[true, true, true, true, true, true, true, true, false, false, false, false, false, false, false] HT_.out ?_
           refine pu__ (i := 9) (N := some 23) #[true, true, true, true, true, true, true, true, false, true, false, false, false, false, false] HT_.out ?_
           refine pu__ (i := 10) (N := some 24) #[true, true, true, true, true, true, true, true, false, true, true, false, false, false, false] HT_.out ?_
           refine pu__ (i := 11) (N := some 25) #[true, true, true, true, true, true, true, true, false, true, true, true, false, false, false] HT_.out ?_
           refine take_ (i := 8) (N := some 22) (v := ?_) (a' := ?_) #[true, true, true, true, true, true, true, true, true, true, true, true, false, false, false] rfl rfl (take_ofW HT_.out HW_.out (by kernel_rfl)) (fun _ _ _ h => h) (Or.inl ⟨by rfl, ?_⟩) hHeld ?_ ?_
           rotate_left
           ·rintro w' ⟨s0, s1⟩
            go_simp
            with_reducible rfl
           rotate_left
           ·simp only [Act.put, List.setIfInBounds_toArray, List.set_cons_zero, List.set_cons_succ, i64_w, i32_w]
            rfl
           refine take_ (i := 12) (N := some 26) (v := ?_) (a' := ?_) #[true, true, true, true, true, true, true, true, true, true, true, true, true, false, false] rfl rfl (take_ofW HT_.out HW_.out (by kernel_rfl)) (fun _ _ _ h => h) (Or.inl ⟨by rfl, ?_⟩) hHeld ?_ ?_
           rotate_left
           ·rintro w' ⟨s0, s1⟩
            go_simp
            with_reducible rfl
           rotate_left
           ·simp only [Act.put, List.setIfInBounds_toArray, List.set_cons_zero, List.set_cons_succ, i64_w, i32_w]
            rfl
           refine pu__ (i := 13) (N := some 27) #[true, true, true, true, true, true, true, true, true, true, true, true, true, true, false] HT_.out ?_
           refine pu__ (i := 14) (N := some 28) #[true, true, true, true, true, true, true, true, true, true, true, true, true, true, true] HT_.out ?_
           refine done_ (done_of HT_.out (by kernel_rfl)) ?_
           try go_wp2
           go_meet
           case rel => exact ⟨_, ((Op.bytesLess ((rdOf ByteArray.empty x3_1 x5_2).toList) ((rdOf ByteArray.empty l0 x4_1).toList))), (rf__), H', ⟨by have := HK1.out; have := HK2.out; first | omega | exact Nat.le_refl _⟩, ⟨rr__ HO_3.out⟩, ⟨bel__⟩⟩
          ·rw [if_neg c9] at H
           exact absurd H (by simp)
         ·rw [if_neg c8] at H
          exact absurd H (by simp)
        ·rw [if_neg c7] at H
         exact absurd H (by simp)
       ·rw [if_neg c6] at H
        have c6b0 : decide (x5_2 < (x3_1.length : Int)) = false := decide_eq_false c6
        clear c6
        (first | rw [c6b0] | (simp only [i64_w, i32_w]; rw [c6b0]) | skip)
        have H' := Aside0.mk H
        clear H
        try go_wp2
        have n0_ := am__ (Kd.R_drew HO_3.out)
        have n1_ := am__ (below_drew1 HB.out)
        clear HO_3
        clear HB
        have HO_3 := n0_
        have HB := n1_
        clear n0_ n1_
        obtain ⟨Ao13, co13, eo13⟩ := Kd.R_slice HO_3.out
        (first | subst eo13 | (injection eo13 with f1_ f2_ f3_; have f4_ := f1_.symm; have f5_ := f3_.symm; clear f1_ f2_ f3_; subst f4_; subst f5_))
        refine start_ (n := 15) (S := fun w' => True) (ds := []) #[false, false, false, false, false, false, false, false, false, false, false, false, false, false, false] (by kernel_rfl) rfl rfl trivial (fun hHeld => ?_); refine with_tabW spec_l1Sorted.tab6 spec_l1Sorted.bits6 (fun HT_ HW_ => ?_)
        generalize wr.drew = w12 at HO_3 HB hHeld ⊢
        refine pu__ (i := 0) (N := some 14) #[true, false, false, false, false, false, false, false, false, false, false, false, false, false, false] HT_.out ?_
        refine pu__ (i := 1) (N := some 15) #[true, true, false, false, false, false, false, false, false, false, false, false, false, false, false] HT_.out ?_
        refine pu__ (i := 2) (N := some 16) #[true, true, true, false, false, false, false, false, false, false, false, false, false, false, false] HT_.out ?_
        refine pu__ (i := 3) (N := some 17) #[true, true, true, true, false, false, false, false, false, false, false, false, false, false, false] HT_.out ?_
        refine pu__ (i := 4) (N := some 18) #[true, true, true, true, true, false, false, false, false, false, false, false, false, false, false] HT_.out ?_
        refine pure_ (i := 5) (N := some 19) (v := undef) (a' := ?_) #[true, true, true, true, true, true, false, false, false, false, false, false, false, false, false] rfl rfl (any_of HT_.out (by kernel_rfl)) (fun _ _ _ h => h) (Or.inr ⟨by rfl, rfl⟩) ?_ ?_
        rotate_left
        ·simp only [Act.put, List.setIfInBounds_toArray, List.set_cons_zero, List.set_cons_succ, i64_w, i32_w]
         rfl
        refine pure_ (i := 6) (N := some 20) (v := undef) (a' := ?_) #[true, true, true, true, true, true, true, false, false, false, false, false, false, false, false] rfl rfl (any_of HT_.out (by kernel_rfl)) (fun _ _ _ h => h) (Or.inr ⟨by rfl, rfl⟩) ?_ ?_
        rotate_left
        ·simp only [Act.put, List.setIfInBounds_toArray, List.set_cons_zero, List.set_cons_succ, i64_w, i32_w]
         rfl
        refine pure_ (i := 7) (N := some 21) (v := undef) (a' := ?_) #[true, true, true, true, true, true, true, true, false, false, false, false, false, false, false] rfl rfl (any_of HT_.out (by kernel_rfl)) (fun _ _ _ h => h) (Or.inr ⟨by rfl, rfl⟩) ?_ ?_
        rotate_left
        ·simp only [Act.put, List.setIfInBounds_toArray, List.set_cons_zero, List.set_cons_succ, i64_w, i32_w]
         rfl
        refine pure_ (i := 8) (N := some 22) (v := undef) (a' := ?_) #[true, true, true, true, true, true, true, true, true, false, false, false, false, false, false] rfl rfl (any_of HT_.out (by kernel_rfl)) (fun _ _ _ h => h) (Or.inr ⟨by rfl, rfl⟩) ?_ ?_
        rotate_left
        ·simp only [Act.put, List.setIfInBounds_toArray, List.set_cons_zero, List.set_cons_succ, i64_w, i32_w]
         rfl
        refine pure_ (i := 9) (N := some 23) (v := undef) (a' := ?_) #[true, true, true, true, true, true, true, true, true, true, false, false, false, false, false] rfl rfl (any_of HT_.out (by kernel_rfl)) (fun _ _ _ h => h) (Or.inr ⟨by rfl, rfl⟩) ?_ ?_
        rotate_left
        ·simp only [Act.put, List.setIfInBounds_toArray, List.set_cons_zero, List.set_cons_succ, i64_w, i32_w]
         rfl
        refine pure_ (i := 10) (N := some 24) (v := undef) (a' := ?_) #[true, true, true, true, true, true, true, true, true, true, true, false, false, false, false] rfl rfl (any_of HT_.out (by kernel_rfl)) (fun _ _ _ h => h) (Or.inr ⟨by rfl, rfl⟩) ?_ ?_
        rotate_left
        ·simp only [Act.put, List.setIfInBounds_toArray, List.set_cons_zero, List.set_cons_succ, i64_w, i32_w]
         rfl
        refine pure_ (i := 11) (N := some 25) (v := undef) (a' := ?_) #[true, true, true, true, true, true, true, true, true, true, true, true, false, false, false] rfl rfl (any_of HT_.out (by kernel_rfl)) (fun _ _ _ h => h) (Or.inr ⟨by rfl, rfl⟩) ?_ ?_
        rotate_left
        ·simp only [Act.put, List.setIfInBounds_toArray, List.set_cons_zero, List.set_cons_succ, i64_w, i32_w]
         rfl
        refine pure_ (i := 12) (N := some 26) (v := undef) (a' := ?_) #[true, true, true, true, true, true, true, true, true, true, true, true, true, false, false] rfl rfl (any_of HT_.out (by kernel_rfl)) (fun _ _ _ h => h) (Or.inr ⟨by rfl, rfl⟩) ?_ ?_
        rotate_left
        ·simp only [Act.put, List.setIfInBounds_toArray, List.set_cons_zero, List.set_cons_succ, i64_w, i32_w]
         rfl
        refine pure_ (i := 13) (N := some 27) (v := undef) (a' := ?_) #[true, true, true, true, true, true, true, true, true, true, true, true, true, true, false] rfl rfl (any_of HT_.out (by kernel_rfl)) (fun _ _ _ h => h) (Or.inr ⟨by rfl, rfl⟩) ?_ ?_
        rotate_left
        ·simp only [Act.put, List.setIfInBounds_toArray, List.set_cons_zero, List.set_cons_succ, i64_w, i32_w]
         rfl
        refine pu__ (i := 14) (N := some 28) #[true, true, true, true, true, true, true, true, true, true, true, true, true, true, true] HT_.out ?_
        refine done_ (done_of HT_.out (by kernel_rfl)) ?_
        try go_wp2
        go_meet
        case rel => exact ⟨_, (false), (rf__), H', ⟨by have := HK1.out; have := HK2.out; first | omega | exact Nat.le_refl _⟩, ⟨rr__ HO_3.out⟩, ⟨bel__⟩⟩
      case rest =>
       clear HC5
       try clear p2
       try clear c4
       try clear c4b0
       try clear c6
       try clear c6b0
       try clear c7
       try clear c7b0
       try clear c8
       try clear c8b0
       try clear c9
       try clear c9b0
       try clear p9
       try clear q9
       try clear hx9
       try clear hx920_0
       try clear hx921_0
       try clear p2
       try clear p920
       try clear p921
       try clear q920
       try clear q921
       obtain ⟨kq, x28_4, rfl, HA, HJ4, HO_3, HB⟩ := hcut
       cases kq with
       | zero => exact absurd HA.out (by simp [spec_l1Sorted.j2])
       | succ kj4 =>
        have H := HA.out
        clear HA
        simp only [spec_l1Sorted.j2] at H
        by_cases c14 : x28_4 = true
        ·subst c14
         have H1 : (spec_l1Sorted.l1 kj4 l0 x3_1 x4_1 (wrap64 (x5_2 + 1))) = some r := by rw [if_pos rfl] at H; exact H
         clear H
         have H := H1
         clear H1
         have H' := Aside0.mk H
         clear H
         go_wp2
         go_roundg kj4
         case measure => have := HK1.out; have := HK2.out; have := HJ4.out; omega
         case rel => exact ⟨(wrap64 (x5_2 + 1)), (rf__), H', ⟨by have := HK1.out; have := HK2.out; have := HJ4.out; omega⟩, ⟨rr__ HO_3.out⟩, ⟨bel__⟩⟩
        ·replace c14 := Bool.eq_false_iff.mpr c14
         subst c14
         have H1 : (if x5_2 < (x3_1.length : Int) then (if 0 ≤ x5_2 then (if 0 ≤ x4_1 then (if x4_1 < (l0.length : Int) then (spec_l1Sorted.j3 kj4 l0 x3_1 x4_1 x5_2 ((rdOf ByteArray.empty x3_1 x5_2).toList == (rdOf ByteArray.empty l0 x4_1).toList)) else (none)) else (none)) else (none)) else (spec_l1Sorted.j3 kj4 l0 x3_1 x4_1 x5_2 false)) = some r := by rw [if_neg (show ¬ (false = true) by decide)] at H; exact H
         clear H
         have H := H1
         clear H1
         have HC15 := Aside0.mk H
         clear H
         go_upto_region 8 with (fail)
         go_cut [45] (fun v45 wc => ∃ (kq : Nat) (x45_14 : Bool), v45 = .bool x45_14 ∧ Aside0 (spec_l1Sorted.j3 kq l0 x3_1 x4_1 x5_2 x45_14 = some r) ∧ Aside0 (kq ≤ kj4) ∧ Aside0 (Kd.R Kd.string 9 wc w.heap.size (fun _ => True) u3 x3_1) ∧ Aside0 (Below w.heap.size w wc))
         case first =>
          have H := HC15.out
          clear HC15
          by_cases c16 : x5_2 < (x3_1.length : Int)
          ·rw [if_pos c16] at H
           have c16b0 : decide (x5_2 < (x3_1.length : Int)) = true := decide_eq_true c16
           clear c16
           (first | rw [c16b0] | (simp only [i64_w, i32_w]; rw [c16b0]) | skip)
           by_cases c17 : 0 ≤ x5_2
           ·rw [if_pos c17] at H
            have c17b0 : decide (0 ≤ x5_2) = true := decide_eq_true c17
            clear c17
            by_cases c18 : 0 ≤ x4_1
            ·rw [if_pos c18] at H
             have c18b0 : decide (0 ≤ x4_1) = true := decide_eq_true c18
             clear c18
             by_cases c19 : x4_1 < (l0.length : Int)
             ·rw [if_pos c19] at H
              have c19b0 : decide (x4_1 < (l0.length : Int)) = true := decide_eq_true c19
              clear c19
              have H' := Aside0.mk H
              clear H
              try go_wp2
              have n0_ := am__ (Kd.R_drew HO_3.out)
              have n1_ := am__ (below_drew1 HB.out)
              clear HO_3
              clear HB
              have HO_3 := n0_
              have HB := n1_
              clear n0_ n1_
              obtain ⟨Ao21, co21, eo21⟩ := Kd.R_slice HO_3.out
              (first | subst eo21 | (injection eo21 with f1_ f2_ f3_; have f4_ := f1_.symm; have f5_ := f3_.symm; clear f1_ f2_ f3_; subst f4_; subst f5_))
              have p922 : 0 ≤ (x5_2 : Int) := of_decide_eq_true (by first | (with_reducible assumption) | assumption)
              have q922 : x5_2 < (x3_1.length : Int) := of_decide_eq_true (by first | (with_reducible assumption) | assumption)
              obtain ⟨ad922, e922, hx922_0⟩ := Kd.at_string (Kd.R_reads' HO_3.out).2.2 x5_2 p922 q922
              cases e922
              replace p922 := eq_true p922
              replace q922 := eq_true q922
              have p923 : 0 ≤ (x4_1 : Int) := of_decide_eq_true (by first | (with_reducible assumption) | assumption)
              have q923 : x4_1 < (l0.length : Int) := of_decide_eq_true (by first | (with_reducible assumption) | assumption)
              obtain ⟨ad923, e923, hx923_0⟩ := Kd.at_string HR0.out x4_1 p923 q923
              have hw923_0 := hx923_0
              cases e923
              try replace hx923_0 := (HB.out.cell (World.block_lt_of_cell? w _ hx923_0)).trans hx923_0
              replace p923 := eq_true p923
              replace q923 := eq_true q923
              refine start_ (n := 15) (S := fun w' => w'.cell? (ad922.add (x5_2).toNat) = some (.string (rdOf ByteArray.empty x3_1 x5_2)) ∧ w'.cell? (ad923.add (x4_1).toNat) = some (.string (rdOf ByteArray.empty l0 x4_1))) (ds := []) #[false, false, false, false, false, false, false, false, false, false, false, false, false, false, false] (by kernel_rfl) rfl rfl ⟨hx922_0, ((HB.out.cell (World.block_lt_of_cell? w _ hw923_0)).trans hw923_0)⟩ (fun hHeld => ?_); refine with_tabW spec_l1Sorted.tab8 spec_l1Sorted.bits8 (fun HT_ HW_ => ?_)
              generalize wc.drew = w20 at HO_3 HB hx922_0 hx923_0 hHeld ⊢
              refine pu__ (i := 0) (N := some 31) #[true, false, false, false, false, false, false, false, false, false, false, false, false, false, false] HT_.out ?_
              refine pu__ (i := 1) (N := some 32) #[true, true, false, false, false, false, false, false, false, false, false, false, false, false, false] HT_.out ?_
              refine pu__ (i := 2) (N := some 33) #[true, true, true, false, false, false, false, false, false, false, false, false, false, false, false] HT_.out ?_
              refine pu__ (i := 3) (N := some 34) #[true, true, true, true, false, false, false, false, false, false, false, false, false, false, false] HT_.out ?_
              refine pu__ (i := 4) (N := some 35) #[true, true, true, true, true, false, false, false, false, false, false, false, false, false, false] HT_.out ?_
              refine pu__ (i := 5) (N := some 36) #[true, true, true, true, true, true, false, false, false, false, false, false, false, false, false] HT_.out ?_
              refine pu__ (i := 6) (N := some 37) #[true, true, true, true, true, true, true, false, false, false, false, false, false, false, false] HT_.out ?_
              refine pu__ (i := 7) (N := some 38) #[true, true, true, true, true, true, true, true, false, false, false, false, false, false, false] HT_.out ?_
              refine pu__ (i := 9) (N := some 40) #[true, true, true, true, true, true, true, true, false, true, false, false, false, false, false] HT_.out ?_
              refine pu__ (i := 10) (N := some 41) #[true, true, true, true, true, true, true, true, false, true, true, false, false, false, false] HT_.out ?_
              refine pu__ (i := 11) (N := some 42) #[true, true, true, true, true, true, true, true, false, true, true, true, false, false, false] HT_.out ?_
              refine take_ (i := 8) (N := some 39) (v := ?_) (a' := ?_) #[true, true, true, true, true, true, true, true, true, true, true, true, false, false, false] rfl rfl (take_ofW HT_.out HW_.out (by kernel_rfl)) (fun _ _ _ h => h) (Or.inl ⟨by rfl, ?_⟩) hHeld ?_ ?_
              rotate_left
              ·rintro w' ⟨s0, s1⟩
               go_simp
               with_reducible rfl
              rotate_left
              ·simp only [Act.put, List.setIfInBounds_toArray, List.set_cons_zero, List.set_cons_succ, i64_w, i32_w]
               rfl
              refine take_ (i := 12) (N := some 43) (v := ?_) (a' := ?_) #[true, true, true, true, true, true, true, true, true, true, true, true, true, false, false] rfl rfl (take_ofW HT_.out HW_.out (by kernel_rfl)) (fun _ _ _ h => h) (Or.inl ⟨by rfl, ?_⟩) hHeld ?_ ?_
              rotate_left
              ·rintro w' ⟨s0, s1⟩
               go_simp
               with_reducible rfl
              rotate_left
              ·simp only [Act.put, List.setIfInBounds_toArray, List.set_cons_zero, List.set_cons_succ, i64_w, i32_w]
               rfl
              refine pu__ (i := 13) (N := some 44) #[true, true, true, true, true, true, true, true, true, true, true, true, true, true, false] HT_.out ?_
              refine pu__ (i := 14) (N := some 45) #[true, true, true, true, true, true, true, true, true, true, true, true, true, true, true] HT_.out ?_
              refine done_ (done_of HT_.out (by kernel_rfl)) ?_
              try go_wp2
              go_meet
              case rel => exact ⟨_, (((rdOf ByteArray.empty x3_1 x5_2).toList == (rdOf ByteArray.empty l0 x4_1).toList)), (rf__), H', ⟨by have := HK1.out; have := HK2.out; have := HJ4.out; first | omega | exact Nat.le_refl _⟩, ⟨rr__ HO_3.out⟩, ⟨bel__⟩⟩
             ·rw [if_neg c19] at H
              exact absurd H (by simp)
            ·rw [if_neg c18] at H
             exact absurd H (by simp)
           ·rw [if_neg c17] at H
            exact absurd H (by simp)
          ·rw [if_neg c16] at H
           have c16b0 : decide (x5_2 < (x3_1.length : Int)) = false := decide_eq_false c16
           clear c16
           (first | rw [c16b0] | (simp only [i64_w, i32_w]; rw [c16b0]) | skip)
           have H' := Aside0.mk H
           clear H
           try go_wp2
           have n0_ := am__ (Kd.R_drew HO_3.out)
           have n1_ := am__ (below_drew1 HB.out)
           clear HO_3
           clear HB
           have HO_3 := n0_
           have HB := n1_
           clear n0_ n1_
           obtain ⟨Ao23, co23, eo23⟩ := Kd.R_slice HO_3.out
           (first | subst eo23 | (injection eo23 with f1_ f2_ f3_; have f4_ := f1_.symm; have f5_ := f3_.symm; clear f1_ f2_ f3_; subst f4_; subst f5_))
           refine start_ (n := 15) (S := fun w' => True) (ds := []) #[false, false, false, false, false, false, false, false, false, false, false, false, false, false, false] (by kernel_rfl) rfl rfl trivial (fun hHeld => ?_); refine with_tabW spec_l1Sorted.tab8 spec_l1Sorted.bits8 (fun HT_ HW_ => ?_)
           generalize wc.drew = w22 at HO_3 HB hHeld ⊢
           refine pu__ (i := 0) (N := some 31) #[true, false, false, false, false, false, false, false, false, false, false, false, false, false, false] HT_.out ?_
           refine pu__ (i := 1) (N := some 32) #[true, true, false, false, false, false, false, false, false, false, false, false, false, false, false] HT_.out ?_
           refine pu__ (i := 2) (N := some 33) #[true, true, true, false, false, false, false, false, false, false, false, false, false, false, false] HT_.out ?_
           refine pu__ (i := 3) (N := some 34) #[true, true, true, true, false, false, false, false, false, false, false, false, false, false, false] HT_.out ?_
           refine pu__ (i := 4) (N := some 35) #[true, true, true, true, true, false, false, false, false, false, false, false, false, false, false] HT_.out ?_
           refine pure_ (i := 5) (N := some 36) (v := undef) (a' := ?_) #[true, true, true, true, true, true, false, false, false, false, false, false, false, false, false] rfl rfl (any_of HT_.out (by kernel_rfl)) (fun _ _ _ h => h) (Or.inr ⟨by rfl, rfl⟩) ?_ ?_
           rotate_left
           ·simp only [Act.put, List.setIfInBounds_toArray, List.set_cons_zero, List.set_cons_succ, i64_w, i32_w]
            rfl
           refine pure_ (i := 6) (N := some 37) (v := undef) (a' := ?_) #[true, true, true, true, true, true, true, false, false, false, false, false, false, false, false] rfl rfl (any_of HT_.out (by kernel_rfl)) (fun _ _ _ h => h) (Or.inr ⟨by rfl, rfl⟩) ?_ ?_
           rotate_left
           ·simp only [Act.put, List.setIfInBounds_toArray, List.set_cons_zero, List.set_cons_succ, i64_w, i32_w]
            rfl
           refine pure_ (i := 7) (N := some 38) (v := undef) (a' := ?_) #[true, true, true, true, true, true, true, true, false, false, false, false, false, false, false] rfl rfl (any_of HT_.out (by kernel_rfl)) (fun _ _ _ h => h) (Or.inr ⟨by rfl, rfl⟩) ?_ ?_
           rotate_left
           ·simp only [Act.put, List.setIfInBounds_toArray, List.set_cons_zero, List.set_cons_succ, i64_w, i32_w]
            rfl
           refine pure_ (i := 8) (N := some 39) (v := undef) (a' := ?_) #[true, true, true, true, true, true, true, true, true, false, false, false, false, false, false] rfl rfl (any_of HT_.out (by kernel_rfl)) (fun _ _ _ h => h) (Or.inr ⟨by rfl, rfl⟩) ?_ ?_
           rotate_left
           ·simp only [Act.put, List.setIfInBounds_toArray, List.set_cons_zero, List.set_cons_succ, i64_w, i32_w]
            rfl
           refine pure_ (i := 9) (N := some 40) (v := undef) (a' := ?_) #[true, true, true, true, true, true, true, true, true, true, false, false, false, false, false] rfl rfl (any_of HT_.out (by kernel_rfl)) (fun _ _ _ h => h) (Or.inr ⟨by rfl, rfl⟩) ?_ ?_
           rotate_left
           ·simp only [Act.put, List.setIfInBounds_toArray, List.set_cons_zero, List.set_cons_succ, i64_w, i32_w]
            rfl
           refine pure_ (i := 10) (N := some 41) (v := undef) (a' := ?_) #[true, true, true, true, true, true, true, true, true, true, true, false, false, false, false] rfl rfl (any_of HT_.out (by kernel_rfl)) (fun _ _ _ h => h) (Or.inr ⟨by rfl, rfl⟩) ?_ ?_
           rotate_left
           ·simp only [Act.put, List.setIfInBounds_toArray, List.set_cons_zero, List.set_cons_succ, i64_w, i32_w]
            rfl
           refine pure_ (i := 11) (N := some 42) (v := undef) (a' := ?_) #[true, true, true, true, true, true, true, true, true, true, true, true, false, false, false] rfl rfl (any_of HT_.out (by kernel_rfl)) (fun _ _ _ h => h) (Or.inr ⟨by rfl, rfl⟩) ?_ ?_
           rotate_left
           ·simp only [Act.put, List.setIfInBounds_toArray, List.set_cons_zero, List.set_cons_succ, i64_w, i32_w]
            rfl
           refine pure_ (i := 12) (N := some 43) (v := undef) (a' := ?_) #[true, true, true, true, true, true, true, true, true, true, true, true, true, false, false] rfl rfl (any_of HT_.out (by kernel_rfl)) (fun _ _ _ h => h) (Or.inr ⟨by rfl, rfl⟩) ?_ ?_
           rotate_left
           ·simp only [Act.put, List.setIfInBounds_toArray, List.set_cons_zero, List.set_cons_succ, i64_w, i32_w]
            rfl
           refine pure_ (i := 13) (N := some 44) (v := undef) (a' := ?_) #[true, true, true, true, true, true, true, true, true, true, true, true, true, true, false] rfl rfl (any_of HT_.out (by kernel_rfl)) (fun _ _ _ h => h) (Or.inr ⟨by rfl, rfl⟩) ?_ ?_
           rotate_left
           ·simp only [Act.put, List.setIfInBounds_toArray, List.set_cons_zero, List.set_cons_succ, i64_w, i32_w]
            rfl
           refine pu__ (i := 14) (N := some 45) #[true, true, true, true, true, true, true, true, true, true, true, true, true, true, true] HT_.out ?_
           refine done_ (done_of HT_.out (by kernel_rfl)) ?_
           try go_wp2
           go_meet
           case rel => exact ⟨_, (false), (rf__), H', ⟨by have := HK1.out; have := HK2.out; have := HJ4.out; first | omega | exact Nat.le_refl _⟩, ⟨rr__ HO_3.out⟩, ⟨bel__⟩⟩
         case rest =>
          clear HC15
          try clear c1
          try clear p2
          try clear c4
          try clear c4b0
          try clear c6
          try clear c6b0
          try clear p6
          try clear c7
          try clear c7b0
          try clear c8
          try clear c8b0
          try clear c9
          try clear c9b0
          try clear p9
          try clear q9
          try clear hx9
          try clear c14
          try clear c16
          try clear c16b0
          try clear c17
          try clear c17b0
          try clear c18
          try clear c18b0
          try clear c19
          try clear c19b0
          try clear hx920_0
          try clear hx921_0
          try clear hx922_0
          try clear hx923_0
          try clear p2
          try clear p9
          try clear p920
          try clear p921
          try clear p922
          try clear p923
          try clear q9
          try clear q920
          try clear q921
          try clear q922
          try clear q923
          obtain ⟨kq, x45_14, rfl, HA, HJ14, HO_3, HB⟩ := hcut
          cases kq with
          | zero => exact absurd HA.out (by simp [spec_l1Sorted.j3])
          | succ kj14 =>
           have H := HA.out
           clear HA
           simp only [spec_l1Sorted.j3] at H
           by_cases c24 : x45_14 = true
           ·subst c24
            have H1 : (spec_l1Sorted.l0 kj14 l0 x3_1 (wrap64 (x4_1 + 1))) = some r := by rw [if_pos rfl] at H; exact H
            clear H
            have H := H1
            clear H1
            have H' := Aside0.mk H
            clear H
            go_wp2
            go_roundg kj14
            case measure => have := HK1.out; have := HK2.out; have := HJ4.out; have := HJ14.out; omega
            case rel => exact ⟨(x3_1), (wrap64 (x4_1 + 1)), (rf__), H', ⟨by have := HK1.out; have := HK2.out; have := HJ4.out; have := HJ14.out; omega⟩, ⟨rr__ HO_3.out⟩, ⟨bel__⟩⟩
           ·replace c24 := Bool.eq_false_iff.mpr c24
            subst c24
            have H1 : ((some (([] : List ByteArray) : List ByteArray)).bind fun y924 => (if 0 ≤ x5_2 then (if x5_2 ≤ (x3_1.length : Int) then ((some (x3_1.take (x5_2 : Int).toNat : List ByteArray)).bind fun y927 => (if y924.length + y927.length < 8796093022208 then ((some (y924 ++ y927 : List ByteArray)).bind fun y931 => (if 0 ≤ x4_1 then (if x4_1 < (l0.length : Int) then (if y931.length < 8796093022208 then ((some (y931 ++ [rdOf ByteArray.empty l0 x4_1] : List ByteArray)).bind fun y935 => ((some (x3_1.drop (x5_2 : Int).toNat : List ByteArray)).bind fun y938 => (if y935.length + y938.length < 8796093022208 then (spec_l1Sorted.l0 kj14 l0 (y935 ++ y938) (wrap64 (x4_1 + 1))) else (none)))) else (none)) else (none)) else (none))) else (none))) else (none)) else (none))) = some r := by rw [if_neg (show ¬ (false = true) by decide)] at H; exact H
            clear H
            have H := H1
            clear H1
            obtain ⟨y924, hy924⟩ : ∃ y_ : List ByteArray, y_ = (([] : List ByteArray)) := ⟨_, rfl⟩
            replace H : (if 0 ≤ x5_2 then (if x5_2 ≤ (x3_1.length : Int) then ((some (x3_1.take (x5_2 : Int).toNat : List ByteArray)).bind fun y927 => (if y924.length + y927.length < 8796093022208 then ((some (y924 ++ y927 : List ByteArray)).bind fun y931 => (if 0 ≤ x4_1 then (if x4_1 < (l0.length : Int) then (if y931.length < 8796093022208 then ((some (y931 ++ [rdOf ByteArray.empty l0 x4_1] : List ByteArray)).bind fun y935 => ((some (x3_1.drop (x5_2 : Int).toNat : List ByteArray)).bind fun y938 => (if y935.length + y938.length < 8796093022208 then (spec_l1Sorted.l0 kj14 l0 (y935 ++ y938) (wrap64 (x4_1 + 1))) else (none)))) else (none)) else (none)) else (none))) else (none))) else (none)) else (none)) = some r := by first | (rw [hy924]; with_reducible exact H) | (have H2_ := (Option.bind_some _ _).symm.trans H; rw [hy924]; with_reducible exact H2_) | (have H2_ := (Option.bind_some _ _).symm.trans H; with_reducible exact H2_) | with_reducible exact H | (rw [hy924]; exact H) | exact H
            have Ny924 := Aside0.mk hy924
            clear hy924
            by_cases c25 : 0 ≤ x5_2
            ·rw [if_pos c25] at H
             have c25b0 := eq_true c25
             have c25b1 : decide (0 ≤ x5_2) = true := decide_eq_true c25
             clear c25
             by_cases c26 : x5_2 ≤ (x3_1.length : Int)
             ·rw [if_pos c26] at H
              have c26b0 := eq_true c26
              have c26b1 : decide (x5_2 ≤ (x3_1.length : Int)) = true := decide_eq_true c26
              clear c26
              obtain ⟨y927, hy927⟩ : ∃ y_ : List ByteArray, y_ = (x3_1.take (x5_2 : Int).toNat) := ⟨_, rfl⟩
              replace H : (if y924.length + y927.length < 8796093022208 then ((some (y924 ++ y927 : List ByteArray)).bind fun y931 => (if 0 ≤ x4_1 then (if x4_1 < (l0.length : Int) then (if y931.length < 8796093022208 then ((some (y931 ++ [rdOf ByteArray.empty l0 x4_1] : List ByteArray)).bind fun y935 => ((some (x3_1.drop (x5_2 : Int).toNat : List ByteArray)).bind fun y938 => (if y935.length + y938.length < 8796093022208 then (spec_l1Sorted.l0 kj14 l0 (y935 ++ y938) (wrap64 (x4_1 + 1))) else (none)))) else (none)) else (none)) else (none))) else (none)) = some r := by first | (rw [hy927]; with_reducible exact H) | (have H2_ := (Option.bind_some _ _).symm.trans H; rw [hy927]; with_reducible exact H2_) | (have H2_ := (Option.bind_some _ _).symm.trans H; with_reducible exact H2_) | with_reducible exact H | (rw [hy927]; exact H) | exact H
              have Ny927 := Aside0.mk hy927
              clear hy927
              by_cases c27 : y924.length + y927.length < 8796093022208
              ·rw [if_pos c27] at H
               have LMc27 := Aside0.mk c27
               clear c27
               obtain ⟨y931, hy931⟩ : ∃ y_ : List ByteArray, y_ = (y924 ++ y927) := ⟨_, rfl⟩
               replace H : (if 0 ≤ x4_1 then (if x4_1 < (l0.length : Int) then (if y931.length < 8796093022208 then ((some (y931 ++ [rdOf ByteArray.empty l0 x4_1] : List ByteArray)).bind fun y935 => ((some (x3_1.drop (x5_2 : Int).toNat : List ByteArray)).bind fun y938 => (if y935.length + y938.length < 8796093022208 then (spec_l1Sorted.l0 kj14 l0 (y935 ++ y938) (wrap64 (x4_1 + 1))) else (none)))) else (none)) else (none)) else (none)) = some r := by first | (rw [hy931]; with_reducible exact H) | (have H2_ := (Option.bind_some _ _).symm.trans H; rw [hy931]; with_reducible exact H2_) | (have H2_ := (Option.bind_some _ _).symm.trans H; with_reducible exact H2_) | with_reducible exact H | (rw [hy931]; exact H) | exact H
               have Ny931 := Aside0.mk hy931
               clear hy931
               by_cases c28 : 0 ≤ x4_1
               ·rw [if_pos c28] at H
                have c28b0 : decide (0 ≤ x4_1) = true := decide_eq_true c28
                clear c28
                by_cases c29 : x4_1 < (l0.length : Int)
                ·rw [if_pos c29] at H
                 have c29b0 : decide (x4_1 < (l0.length : Int)) = true := decide_eq_true c29
                 clear c29
                 by_cases c30 : y931.length < 8796093022208
                 ·rw [if_pos c30] at H
                  have LMc30 := Aside0.mk c30
                  clear c30
                  obtain ⟨y935, hy935⟩ : ∃ y_ : List ByteArray, y_ = (y931 ++ [rdOf ByteArray.empty l0 x4_1]) := ⟨_, rfl⟩
                  replace H : ((some (x3_1.drop (x5_2 : Int).toNat : List ByteArray)).bind fun y938 => (if y935.length + y938.length < 8796093022208 then (spec_l1Sorted.l0 kj14 l0 (y935 ++ y938) (wrap64 (x4_1 + 1))) else (none))) = some r := by first | (rw [hy935]; with_reducible exact H) | (have H2_ := (Option.bind_some _ _).symm.trans H; rw [hy935]; with_reducible exact H2_) | (have H2_ := (Option.bind_some _ _).symm.trans H; with_reducible exact H2_) | with_reducible exact H | (rw [hy935]; exact H) | exact H
                  have Ny935 := Aside0.mk hy935
                  clear hy935
                  have c31b0 := eq_true (of_decide_eq_true (by first | (with_reducible assumption) | assumption) : 0 ≤ x5_2)
                  have c32b0 := eq_true (of_decide_eq_true (by first | (with_reducible assumption) | assumption) : x5_2 ≤ (x3_1.length : Int))
                  obtain ⟨y938, hy938⟩ : ∃ y_ : List ByteArray, y_ = (x3_1.drop (x5_2 : Int).toNat) := ⟨_, rfl⟩
                  replace H : (if y935.length + y938.length < 8796093022208 then (spec_l1Sorted.l0 kj14 l0 (y935 ++ y938) (wrap64 (x4_1 + 1))) else (none)) = some r := by first | (rw [hy938]; with_reducible exact H) | (have H2_ := (Option.bind_some _ _).symm.trans H; rw [hy938]; with_reducible exact H2_) | (have H2_ := (Option.bind_some _ _).symm.trans H; with_reducible exact H2_) | with_reducible exact H | (rw [hy938]; exact H) | exact H
                  have Ny938 := Aside0.mk hy938
                  clear hy938
                  by_cases c33 : y935.length + y938.length < 8796093022208
                  ·rw [if_pos c33] at H
                   have LMc33 := Aside0.mk c33
                   clear c33
                   obtain ⟨y942, hy942⟩ : ∃ y_ : List ByteArray, y_ = (y935 ++ y938) := ⟨_, rfl⟩
                   replace H : (spec_l1Sorted.l0 kj14 l0 y942 (wrap64 (x4_1 + 1))) = some r := by first | (rw [hy942]; with_reducible exact H) | (have H2_ := (Option.bind_some _ _).symm.trans H; rw [hy942]; with_reducible exact H2_) | (have H2_ := (Option.bind_some _ _).symm.trans H; with_reducible exact H2_) | with_reducible exact H | (rw [hy942]; exact H) | exact H
                   have Ny942 := Aside0.mk hy942
                   clear hy942
                   have H' := Aside0.mk H
                   clear H
                   try go_wp2_with (first | ((with_reducible refine gate_dst (N := 46) rfl ?_); refine Kd.R_lit Kd.string _ 9 ?hg (N := 46) ?hd (xs := ([] : List ByteArray)) (inner := []) (ok := fun _ => True) (okp := fun _ => True) ?hr ?hp (fun _ hk => hk) trivial (Below.refl _ _) (Nat.le_refl _) (by simp) ?_; (case hd => rfl); (case hg => rfl); (case hr => first | (go_simp; done) | (go_simp; rfl)); (case hp => exact (Reps.none _ _)); intro v925 w34 ho35 hb hg_ hnew_; clear hg_ hnew_; (first | rw [← Ny924.out] at ho35 | (simp only [Int.reduceToNat] at ho35; rw [← Ny924.out] at ho35)); have HO926 := am__ (Kd.R_lower (Kd.R_new' ho35 (Kd.R_lt (rr__ HO_3.out))) (below_size (bel__))); replace HO_3 := am__ (Kd.R_elder' (rr__ HO_3.out) (Kd.R_base ho35) hb); replace HB := am__ (below_step (bel__) hb); clear hb ho35; obtain ⟨Ao37, co37, eo37⟩ := Kd.R_slice HO_3.out; subst eo37; have q36 : (x5_2 : Int) ≤ ((x3_1.length : Int) : Int) := of_decide_eq_true (by first | (with_reducible assumption) | assumption); obtain ⟨i036, hi036, _, hsz36, _⟩ := info_parts info9; have hroom36 : x3_1.length ≤ co37 := (Kd.R_reads' HO_3.out).2.1; have hC36 : Kd.C Kd.string _ Ao37 x3_1.length x3_1 := (Kd.R_reads' HO_3.out).2.2; have hcut36 := cut_to (P := Try.prog) 25 9 .i64 Try.underlying25 hi036 Ao37 x3_1.length co37 x5_2 (of_decide_eq_true (by first | (with_reducible assumption) | assumption)) q36 hroom36; have hr36 := Kd.C_take (m := (x5_2 : Int).toNat) hC36 (by omega); have hy36 : y927.length = (x5_2 : Int).toNat := (by rw [Ny927.out, List.length_take]; omega); rw [← Ny927.out] at hr36; rw [← hy36] at hcut36; have HR930 := Aside0.mk hr36; have HC930 := am__ (show y927.length ≤ co37 from by omega); clear hr36 hC36 hroom36 hi036 hsz36; have KY36 := Aside0.mk hy36; clear hy36; have KL36 := am__ (show (x5_2 : Int).toNat ≤ x3_1.length from by omega); replace q36 := eq_true q36) | ((with_reducible refine gate_builtin (b := .append) (xs := #[.tmp 46, .tmp 49]) rfl ?_); at_builtin; refine Kd.R_append_rows Kd.string (w0 := w) w.heap.size rfl (.tmp 46) (.tmp 49) 25 9 (.string ⟨#[]⟩) 16 rfl Try.underlying25 info9 rfl (by decide) (by omega) v925 y924 y927 _ _ _ (fun k_ => some k_ ≠ (ob__ Ao37 x3_1.length co37)) (fun _ => False) rfl rfl ?aO ?aR (fun _ _ h => h) (fun _ h => h.elim) ?aF ?aB ?aS ?aL ?_; (case aR => repeat (first | exact (by repeat (first | (with_reducible exact HR930.out) | (with_reducible refine Kd.C_alloc ?_ _) | (with_reducible refine Kd.C_drewN ?_ _) | (with_reducible refine Kd.C_drew ?_) | exact HR930.out)) | (with_reducible refine Kd.C_alloc ?_ _) | (with_reducible refine Kd.C_drewN ?_ _) | (with_reducible refine Kd.C_drew ?_))); (case aB => exact (bel__)); (case aF => exact (fun k_ hk => Kd.fresh' (Kd.R_lt (rr__ HO_3.out)) k_ hk)); (case aO => exact (by refine rps__ ?_; exact Kd.R_mono HO926.out h2__)); (case aS => exact (below_size (bel__))); (case aL => have := LMc27.out; omega); intro v932 w38 ho hb hg hat; rw [← Ny931.out] at ho; have n0_ := am__ (Kd.R_after (ok := (fun _ => True)) (rr__ HO_3.out) hg hat); have n1_ := am__ (hb); have n2_ := am__ ((show Kd.C Kd.string w38 Ao37 y927.length y927 from by rw [Ny927.out]; exact Kd.C_take (m := (x5_2 : Int).toNat) ((Kd.R_reads' (Kd.R_after (ok := (fun _ => True)) (rr__ HO_3.out) hg hat)).2.2) KL36.out)); have n3_ := am__ (ho); clear HO_3; clear HB; clear HR930; clear HO926; have HO_3 := n0_; have HB := n1_; have HR930 := n2_; have HO933 := n3_; clear n0_ n1_ n2_ n3_; clear ho hb hg hat))
                   have n0_ := am__ (Kd.R_drew HO_3.out)
                   have n1_ := am__ (Kd.R_drew HO933.out)
                   have n2_ := am__ (Kd.C_drew HR930.out)
                   have n3_ := am__ (below_drew1 HB.out)
                   clear HO_3
                   clear HO933
                   clear HR930
                   clear HB
                   have HO_3 := n0_
                   have HO933 := n1_
                   have HR930 := n2_
                   have HB := n3_
                   clear n0_ n1_ n2_ n3_
                   have p934 : 0 ≤ (x4_1 : Int) := of_decide_eq_true (by first | (with_reducible assumption) | assumption)
                   have q934 : x4_1 < (l0.length : Int) := of_decide_eq_true (by first | (with_reducible assumption) | assumption)
                   obtain ⟨ad934, e934, hx934_0⟩ := Kd.at_string HR0.out x4_1 p934 q934
                   have hw934_0 := hx934_0
                   cases e934
                   try replace hx934_0 := (HB.out.cell (World.block_lt_of_cell? w _ hx934_0)).trans hx934_0
                   replace p934 := eq_true p934
                   replace q934 := eq_true q934
                   have q40 : (x5_2 : Int) ≤ ((x3_1.length : Int) : Int) := of_decide_eq_true (by first | (with_reducible assumption) | assumption)
                   obtain ⟨i040, hi040, _, hsz40, _⟩ := info_parts info9
                   have hroom40 : x3_1.length ≤ co37 := (Kd.R_reads' HO_3.out).2.1
                   have hC40 : Kd.C Kd.string _ Ao37 x3_1.length x3_1 := (Kd.R_reads' HO_3.out).2.2
                   have q040 : (0 : Int) ≤ (x5_2 : Int) := of_decide_eq_true (by first | (with_reducible assumption) | assumption)
                   have hcut40 := cut_from (P := Try.prog) 25 9 .i64 Try.underlying25 hi040 1 hsz40 Ao37 x3_1.length co37 x5_2 q040 q40
                   have hr40 := Kd.C_drop (m := (x5_2 : Int).toNat) (c := co37) hC40 (by omega) hroom40
                   obtain ⟨A40, hA40⟩ : ∃ A1, A1 = (if co37 = (x5_2 : Int).toNat then Ao37 else (Ao37 : Option Addr).map (·.add ((x5_2 : Int).toNat * 1))) := ⟨_, rfl⟩
                   obtain ⟨c40, hc40⟩ : ∃ c1, c1 = co37 - (x5_2 : Int).toNat := ⟨_, rfl⟩
                   have hy40 : y938.length = x3_1.length - (x5_2 : Int).toNat := (by rw [Ny938.out, List.length_drop] <;> omega)
                   rw [show (x3_1).drop (x5_2 : Int).toNat = y938 from Ny938.out.symm] at hr40
                   replace hr40 : Kd.C Kd.string _ A40 y938.length y938 := (by rw [hA40]; exact hr40)
                   rw [← hy40, ← hA40, ← hc40] at hcut40
                   have HR941 := Aside0.mk hr40
                   have HC941 := am__ (show y938.length ≤ c40 from by rw [hy40, hc40]; exact Nat.sub_le_sub_right hroom40 _)
                   clear hr40 hC40 hroom40 hi040 hsz40 hc40
                   have KY40 := Aside0.mk hy40
                   have KA40 := Aside0.mk hA40
                   clear hy40 hA40
                   have KL40 := am__ (show (x5_2 : Int).toNat ≤ x3_1.length from by omega)
                   replace q40 := eq_true q40
                   refine start_ (n := 12) (S := fun w' => w'.cell? (ad934.add (x4_1).toNat) = some (.string (rdOf ByteArray.empty l0 x4_1))) (ds := []) #[false, false, false, false, false, false, false, false, false, false, false, false] (by kernel_rfl) rfl rfl (((HB.out.cell (World.block_lt_of_cell? w _ hw934_0)).trans hw934_0)) (fun hHeld => ?_); refine with_tabW spec_l1Sorted.tab10 spec_l1Sorted.bits10 (fun HT_ HW_ => ?_)
                   generalize w38.drew = w39 at HO_3 HO933 HR930 HB HR941 hx934_0 hHeld ⊢
                   refine pu__ (i := 0) (N := some 51) #[true, false, false, false, false, false, false, false, false, false, false, false] HT_.out ?_
                   refine pu__ (i := 1) (N := some 52) #[true, true, false, false, false, false, false, false, false, false, false, false] HT_.out ?_
                   refine pu__ (i := 2) (N := some 53) #[true, true, true, false, false, false, false, false, false, false, false, false] HT_.out ?_
                   refine pu__ (i := 3) (N := some 54) #[true, true, true, true, false, false, false, false, false, false, false, false] HT_.out ?_
                   refine pu__ (i := 7) (N := some 58) #[true, true, true, true, false, false, false, true, false, false, false, false] HT_.out ?_
                   refine pu__ (i := 8) (N := some 59) #[true, true, true, true, false, false, false, true, true, false, false, false] HT_.out ?_
                   refine pu__ (i := 9) (N := some 60) #[true, true, true, true, false, false, false, true, true, true, false, false] HT_.out ?_
                   refine take_ (i := 4) (N := some 55) (v := ?_) (a' := ?_) #[true, true, true, true, true, false, false, true, true, true, false, false] rfl rfl (take_ofW HT_.out HW_.out (by kernel_rfl)) (fun _ _ _ h => h) (Or.inl ⟨by rfl, ?_⟩) hHeld ?_ ?_
                   rotate_left
                   ·intro w' s0
                    go_simp
                    with_reducible rfl
                   rotate_left
                   ·simp only [Act.put, List.setIfInBounds_toArray, List.set_cons_zero, List.set_cons_succ, i64_w, i32_w]
                    rfl
                   refine one_ (i := 5) (N := some 56) #[true, true, true, true, true, true, false, true, true, true, false, false] rfl rfl (one_of HT_.out (by kernel_rfl)) (by decide) (fun K hK => ?_)
                   refine value_ (w1 := ?_) (v := ?_) (by rfl) rfl ?_ ?_
                   rotate_left 2
                   ·go_simp
                    constructor
                    ·rfl
                    ·rfl
                   refine hK.out _ _ ((World.cell?_alloc_lt _ _ _ (World.block_lt_of_cell? _ _ (((HB.out.cell (World.block_lt_of_cell? w _ hw934_0)).trans hw934_0)))).trans (((HB.out.cell (World.block_lt_of_cell? w _ hw934_0)).trans hw934_0))) (fun hHeld => ?_)
                   clear hK K
                   refine na__ 56 ?_
                   refine one_ (i := 6) (N := some 57) #[true, true, true, true, true, true, true, true, true, true, false, false] rfl rfl (one_of HT_.out (by kernel_rfl)) (by decide) (fun K hK => ?_)
                   refine Kd.R_append_step Kd.string (w0 := w) w.heap.size (by rfl) (.tmp 51) (.tmp 56) 25 9 (.string ⟨#[]⟩) 16 rfl Try.underlying25 info9 rfl (by decide) (by omega) v932 y931 (rdOf ByteArray.empty l0 x4_1) [.string (rdOf ByteArray.empty l0 x4_1)] (fun k_ => some k_ ≠ (ob__ Ao37 x3_1.length co37)) (fun _ => False) rfl rfl ?aP (fun _ hk => hk.elim) ?aF ?aO ?aB ?aS ?aL ?_
                   (case aP => exact rfl)
                   (case aB => exact (bel__))
                   (case aF => exact (fun k_ hk => Kd.fresh' (Kd.R_lt (rr__ HO_3.out)) k_ hk))
                   (case aO => exact (rr__ HO933.out))
                   (case aS => exact (below_size (bel__)))
                   (case aL => have := LMc30.out; omega)
                   intro v936 w41 ho hb hg hat
                   rw [← Ny935.out] at ho
                   have n0_ := am__ (Kd.R_after (ok := (fun _ => True)) (rr__ HO_3.out) hg hat)
                   have n1_ := am__ (hb)
                   have n2_ := am__ ((show Kd.C Kd.string w41 Ao37 y927.length y927 from by rw [Ny927.out]; exact Kd.C_take (m := (x5_2 : Int).toNat) ((Kd.R_reads' (Kd.R_after (ok := (fun _ => True)) (rr__ HO_3.out) hg hat)).2.2) KL36.out))
                   have n3_ := am__ ((show Kd.C Kd.string w41 A40 y938.length y938 from by rw [Ny938.out, KA40.out]; exact Kd.C_drop (m := (x5_2 : Int).toNat) (c := co37) ((Kd.R_reads' (Kd.R_after (ok := (fun _ => True)) (rr__ HO_3.out) hg hat)).2.2) KL40.out ((Kd.R_reads' (Kd.R_after (ok := (fun _ => True)) (rr__ HO_3.out) hg hat)).2.1)))
                   have n4_ := am__ (ho)
                   clear HO_3
                   clear HB
                   clear HR930
                   clear HR941
                   clear HO933
                   have HO_3 := n0_
                   have HB := n1_
                   have HR930 := n2_
                   have HR941 := n3_
                   have HO937 := n4_
                   clear n0_ n1_ n2_ n3_ n4_
                   clear ho hb hg hat
                   refine hK.out _ _ (((HB.out.cell (World.block_lt_of_cell? w _ hw934_0)).trans hw934_0)) (fun hHeld => ?_)
                   clear hK K
                   refine na__ 57 ?_
                   refine one_ (i := 10) (N := some 61) #[true, true, true, true, true, true, true, true, true, true, true, false] rfl rfl (one_of HT_.out (by kernel_rfl)) (by decide) (fun K hK => ?_)
                   refine Kd.R_append_rows_step Kd.string (w0 := w) w.heap.size (by rfl) (.tmp 57) (.tmp 60) 25 9 (.string ⟨#[]⟩) 16 rfl Try.underlying25 info9 rfl (by decide) (by omega) v936 y935 y938 _ _ _ (fun k_ => some k_ ≠ (ob__ Ao37 x3_1.length co37)) (fun _ => False) rfl rfl ?aO ?aR (fun _ _ h => h) (fun _ h => h.elim) ?aF ?aB ?aS ?aL ?_
                   (case aR => repeat (first | exact (by repeat (first | (with_reducible exact HR941.out) | (with_reducible refine Kd.C_alloc ?_ _) | (with_reducible refine Kd.C_drewN ?_ _) | (with_reducible refine Kd.C_drew ?_) | exact HR941.out)) | (with_reducible refine Kd.C_alloc ?_ _) | (with_reducible refine Kd.C_drewN ?_ _) | (with_reducible refine Kd.C_drew ?_)))
                   (case aB => exact (bel__))
                   (case aF => exact (fun k_ hk => Kd.fresh' (Kd.R_lt (rr__ HO_3.out)) k_ hk))
                   (case aO => exact (rr__ HO937.out))
                   (case aS => exact (below_size (bel__)))
                   (case aL => have := LMc33.out; omega)
                   intro v943 w42 ho hb hg hat
                   rw [← Ny942.out] at ho
                   have n0_ := am__ (Kd.R_after (ok := (fun _ => True)) (rr__ HO_3.out) hg hat)
                   have n1_ := am__ (hb)
                   have n2_ := am__ ((show Kd.C Kd.string w42 Ao37 y927.length y927 from by rw [Ny927.out]; exact Kd.C_take (m := (x5_2 : Int).toNat) ((Kd.R_reads' (Kd.R_after (ok := (fun _ => True)) (rr__ HO_3.out) hg hat)).2.2) KL36.out))
                   have n3_ := am__ ((show Kd.C Kd.string w42 A40 y938.length y938 from by rw [Ny938.out, KA40.out]; exact Kd.C_drop (m := (x5_2 : Int).toNat) (c := co37) ((Kd.R_reads' (Kd.R_after (ok := (fun _ => True)) (rr__ HO_3.out) hg hat)).2.2) KL40.out ((Kd.R_reads' (Kd.R_after (ok := (fun _ => True)) (rr__ HO_3.out) hg hat)).2.1)))
                   have n4_ := am__ (ho)
                   clear HO_3
                   clear HB
                   clear HR930
                   clear HR941
                   clear HO937
                   have HO_3 := n0_
                   have HB := n1_
                   have HR930 := n2_
                   have HR941 := n3_
                   have HO944 := n4_
                   clear n0_ n1_ n2_ n3_ n4_
                   clear ho hb hg hat
                   refine hK.out _ _ (((HB.out.cell (World.block_lt_of_cell? w _ hw934_0)).trans hw934_0)) (fun hHeld => ?_)
                   clear hK K
                   refine na__ 61 ?_
                   refine pu__ (i := 11) (N := some 6) #[true, true, true, true, true, true, true, true, true, true, true, true] HT_.out ?_
                   refine done_ (done_of HT_.out (by kernel_rfl)) ?_
                   try go_wp2
                   go_roundg kj14
                   case measure => have := HK1.out; have := HK2.out; have := HJ4.out; have := HJ14.out; omega
                   case rel => exact ⟨(y942), (wrap64 (x4_1 + 1)), (rf__), H', ⟨by have := HK1.out; have := HK2.out; have := HJ4.out; have := HJ14.out; omega⟩, ⟨by refine rps__ ?_; exact Kd.R_mono HO944.out (fun _ hk => trivial)⟩, ⟨bel__⟩⟩
                  ·rw [if_neg c33] at H
                   exact absurd H (by simp)
                 ·rw [if_neg c30] at H
                  exact absurd H (by simp)
                ·rw [if_neg c29] at H
                 exact absurd H (by simp)
               ·rw [if_neg c28] at H
                exact absurd H (by simp)
              ·rw [if_neg c27] at H
               exact absurd H (by simp)
             ·rw [if_neg c26] at H
              exact absurd H (by simp)
            ·rw [if_neg c25] at H
             exact absurd H (by simp)
   ·rw [if_neg c4] at H
    have c4b0 : decide (x4_1 < (l0.length : Int)) = false := decide_eq_false c4
    clear c4
    obtain rfl := Option.some.inj H
    go_wp2
    go_ret
    exact ⟨_, by first | rfl | (simp [errW_none, errW_some] <;> rfl) | (simp [*, errW_none, errW_some] <;> rfl), rr__ HO_3.out, bel__⟩
end Go.Proofs.Ytpnblgbkjbpeoaa.P

namespace Go.Proofs.Ytpnblgbkjbpeoaa.P
open Go.RowKit Go.Proofs.YtpnblgbkjbpeoaaW.PrintWords Go.Proofs.YtpnblgbkjbpeoaaW.PrintLast Go.Proofs.YtpnblgbkjbpeoaaW.PrintMore
attribute [local go_sem] max2_int min2_int max_two min_two max_three min_three max_four min_four   -- for this text's walks alone
set_option linter.unusedVariables false
set_option linter.unusedSimpArgs false
/-! ### spec_l1DrawThing: function 79 -/
def spec_l1DrawThing.l0 : Nat → Int → List ByteArray → Int → List Int → Int → ByteArray → Option (ByteArray × List ByteArray × Int)
 | 0, _, _, _, _, _, _ => none
 | k + 1, x1, x6, x7, x1000, x1001, x949000 => if x7 > 0 then ((spec_l1Text.f k x1000 x1001).bind fun bt955 => ((spec_Sum.f k bt955.1 x1).bind fun t957 => (if x6.length < 8796093022208 then (spec_l1DrawThing.l0 k x1 (x6 ++ [t957]) (wrap64 (x7 - 1)) x1000 bt955.2 x949000) else (none)))) else ((spec_l1Sorted.f k x6).bind fun t961 => (some (x949000, t961, x1001)))
def spec_l1DrawThing.f (k : Nat) (s0_0 : List Int) (s0_1 : Int) (a1 : Int) : Option (ByteArray × List ByteArray × Int) := (spec_l1Text.f k s0_0 s0_1).bind fun bt946 => ((spec_l1Width.f a1).bind fun t949 => (if t949 = true then ((spec_l1Rd_pick.f k s0_0 bt946.2 4).bind fun bt953 => (spec_l1DrawThing.l0 k a1 (([] : List ByteArray)) bt953.1 s0_0 bt953.2 bt946.1)) else (some (bt946.1, ([] : List ByteArray), bt946.2))))
set_option maxHeartbeats 8000000 in
set_option maxRecDepth 100000 in
theorem spec_l1DrawThing.calls (k : Nat) (g : Nat) (s0_0 : List Int) (s0_1 : Int) (a1 : Int) (r1 : ByteArray) (r2 : List ByteArray) (r3 : Int) (w0 w : World) (hI : IsS104 w0 w g s0_0 s0_1) (hB : Below w0.heap.size w0 w) (h : spec_l1DrawThing.f k s0_0 s0_1 a1 = some (r1, r2, r3)) :
  Calls Try.prog 79 #[.pointer (some ⟨g, 0, none⟩), .int .i64 a1] w fun e w' => ∃ v1_ : Value, e = .returned (.agg #[.string r1, v1_]) ∧ Kd.R Kd.string 9 w' w.heap.size (fun _ => True) v1_ r2 ∧ IsS104 w0 w' g s0_0 r3 ∧ Below w0.heap.size w0 w' ∧ KeepBut w w' g none := by
 have hu38 := Try.underlying38
 have HI0 := Aside0.mk hI
 have HK := am__ (KeepBut.refl w g none)
 have HL := Aside0.mk hB.size
 clear hI
 have HW0 := Aside0.mk hB.size
 have HB := Aside0.mk hB
 clear hB
 have H : ((spec_l1Text.f k s0_0 s0_1).bind fun bt946 => ((spec_l1Width.f a1).bind fun t949 => (if t949 = true then ((spec_l1Rd_pick.f k s0_0 bt946.2 4).bind fun bt953 => (spec_l1DrawThing.l0 k a1 (([] : List ByteArray)) bt953.1 s0_0 bt953.2 bt946.1)) else (some (bt946.1, ([] : List ByteArray), bt946.2))))) = some (r1, r2, r3) := h
 clear h
 replace H := Option.bind_eq_some_iff.mp H
 obtain ⟨⟨t946, t947⟩, A30, H⟩ := H
 replace H : ((spec_l1Width.f a1).bind fun t949 => (if t949 = true then ((spec_l1Rd_pick.f k s0_0 t947 4).bind fun bt953 => (spec_l1DrawThing.l0 k a1 (([] : List ByteArray)) bt953.1 s0_0 bt953.2 t946)) else (some (t946, ([] : List ByteArray), t947)))) = some (r1, r2, r3) := H
 have A3 := Aside0.mk A30
 clear A30
 replace H := Option.bind_eq_some_iff.mp H
 obtain ⟨t949, A40, H⟩ := H
 replace H : (if t949 = true then ((spec_l1Rd_pick.f k s0_0 t947 4).bind fun bt953 => (spec_l1DrawThing.l0 k a1 (([] : List ByteArray)) bt953.1 s0_0 bt953.2 t946)) else (some (t946, ([] : List ByteArray), t947))) = some (r1, r2, r3) := H
 have A4 := Aside0.mk A40
 clear A40
 by_cases c5 : t949 = true
 ·subst c5
  have H1 : ((spec_l1Rd_pick.f k s0_0 t947 4).bind fun bt953 => (spec_l1DrawThing.l0 k a1 (([] : List ByteArray)) bt953.1 s0_0 bt953.2 t946)) = some (r1, r2, r3) := by rw [if_pos rfl] at H; exact H
  clear H
  have H := H1
  clear H1
  obtain ⟨y950, hy950⟩ : ∃ y_ : List ByteArray, y_ = (([] : List ByteArray)) := ⟨_, rfl⟩
  replace H : ((spec_l1Rd_pick.f k s0_0 t947 4).bind fun bt953 => (spec_l1DrawThing.l0 k a1 y950 bt953.1 s0_0 bt953.2 t946)) = some (r1, r2, r3) := by first | (rw [hy950]; with_reducible exact H) | (have H2_ := (Option.bind_some _ _).symm.trans H; rw [hy950]; with_reducible exact H2_) | (have H2_ := (Option.bind_some _ _).symm.trans H; with_reducible exact H2_) | with_reducible exact H | (rw [hy950]; exact H) | exact H
  have Ny950 := Aside0.mk hy950
  clear hy950
  replace H := Option.bind_eq_some_iff.mp H
  obtain ⟨⟨t953, t954⟩, A60, H⟩ := H
  replace H : (spec_l1DrawThing.l0 k a1 y950 t953 s0_0 t954 t946) = some (r1, r2, r3) := H
  have A6 := Aside0.mk A60
  clear A60
  have H' := Aside0.mk H
  clear H
  go_enter Try.func79, Try.ntmps79
  go_wp2_with (first | ((with_reducible refine gate_dst (N := 4) rfl ?_); refine be__ 4 #[.string (⟨#[]⟩ : ByteArray), .slice none 0 0] 38 ?_; intro gb945 hg w7 hbox hb; replace HB := am__ (below_step (b0_l__) hb); have BK945 := am__ (hbox); have GW945 := am__ ((by rw [hg]; exact (keep_size (w := w) (g := g) (row := none) (kee__)) : w.heap.size ≤ gb945)); have GE945 := am__ ((Nat.le_trans HW0.out (by rw [hg]; exact (keep_size (w := w) (g := g) (row := none) (kee__)) : w.heap.size ≤ gb945) : w0.heap.size ≤ gb945)); replace HK := am__ (KeepBut.trans (kee__) (KeepBut.of_below hb g none) (.inl rfl)); have NB0_945 := am__ ((nlt__ hg (IsS104.lt (show IsS104 w0 _ g s0_0 s0_1 from hhi0__iss104)) : g ≠ gb945)); have NB945_0 := am__ ((ngt__ hg (IsS104.lt (show IsS104 w0 _ g s0_0 s0_1 from hhi0__iss104)) : gb945 ≠ g)); replace HI0 := am__ (IsS104.below (hhi0__iss104) hb); clear hb hbox hg) | ((with_reducible refine gate_callee (f := 73) rfl ?_); refine gl__ (some 9) Try.func73 #[.pointer (some ⟨g, 0, none⟩)] ?_; (with_reducible refine (spec_l1Text.calls k g s0_0 s0_1 t946 t947 w0 _ hhi0__iss104 b0_l__ A3.out).mono ?_); rintro e w8 ⟨rfl, hi, hb, hk⟩; refine ⟨_, rfl, ?_⟩; replace BK945 := am__ (kbl__ hk BK945.out NB945_0.out); replace HK := am__ (KeepBut.trans (w := w) (kef__) hk (.inl rfl)); replace HB := am__ (hb); replace HI0 := am__ (hi); clear hi hb hk) | ((with_reducible refine gate_dst (N := 5) rfl ?_); refine be__ 5 #[.string (⟨#[]⟩ : ByteArray), .slice none 0 0] 38 ?_; intro gb948 hg w9 hbox hb; replace HB := am__ (below_step (b0_l__) hb); have BK948 := am__ (hbox); have GW948 := am__ ((by rw [hg]; exact (keep_size (w := w) (g := g) (row := none) (kef__)) : w.heap.size ≤ gb948)); have GE948 := am__ ((Nat.le_trans HW0.out (by rw [hg]; exact (keep_size (w := w) (g := g) (row := none) (kef__)) : w.heap.size ≤ gb948) : w0.heap.size ≤ gb948)); replace HK := am__ (KeepBut.trans (w := w) (kef__) (KeepBut.of_below hb g none) (.inl rfl)); have NB945_948 := am__ ((nlt__ hg (blk_lt (g := gb945) (o := .cells #[.string (⟨#[]⟩ : ByteArray), .slice none 0 0] 38 (0, 0)) (blk__ BK945.out)) : gb945 ≠ gb948)); have NB948_945 := am__ ((ngt__ hg (blk_lt (g := gb945) (o := .cells #[.string (⟨#[]⟩ : ByteArray), .slice none 0 0] 38 (0, 0)) (blk__ BK945.out)) : gb948 ≠ gb945)); replace BK945 := am__ (blb__ BK945.out hb); have NB0_948 := am__ ((nlt__ hg (IsS104.lt (show IsS104 w0 _ g s0_0 t947 from hhi0__iss104)) : g ≠ gb948)); have NB948_0 := am__ ((ngt__ hg (IsS104.lt (show IsS104 w0 _ g s0_0 t947 from hhi0__iss104)) : gb948 ≠ g)); replace HI0 := am__ (IsS104.below (hhi0__iss104) hb); clear hb hbox hg; have hnb10 := NB948_945.out; have hnc10 := NB945_948.out; have hnb11 := NB948_0.out; have hnc11 := NB0_948.out; obtain ⟨hcz12_0, hcz12_1, hfz12_0, hfz12_1⟩ := bk2__ BK948.out) | ((with_reducible refine gate_callee (f := 56) rfl ?_); refine gl__ (some 12) Try.func56 #[.int .i64 a1] ?_; (with_reducible refine (spec_l1Width.calls a1 true _ A4.out).mono ?_); rintro e w' ⟨rfl, ⟨nd, rfl⟩⟩; refine ⟨_, rfl, ?_⟩) | ((with_reducible refine gate_dst (N := 15) rfl ?_); refine Kd.R_lit Kd.string _ 9 ?hg (N := 15) ?hd (xs := ([] : List ByteArray)) (inner := []) (ok := fun _ => True) (okp := fun _ => True) ?hr ?hp (fun _ hk => hk) trivial (Below.refl _ _) (Nat.le_refl _) (by simp) ?_; (case hd => rfl); (case hg => rfl); (case hr => first | (go_simp; done) | (go_simp; rfl)); (case hp => exact (Reps.none _ _)); intro v951 w13 ho14 hb hg_ hnew_; clear hg_ hnew_; (first | rw [← Ny950.out] at ho14 | (simp only [Int.reduceToNat] at ho14; rw [← Ny950.out] at ho14)); have HO952 := am__ (Kd.R_lower ho14 (keep_size (w := w) (g := g) (row := none) (kef__))); replace BK945 := am__ (blk_below (g := gb945) (o := .cells #[.string (⟨#[]⟩ : ByteArray), .slice none 0 0] 38 (0, 0)) (blf2__ BK945.out) hb); replace BK948 := am__ (blk_below (g := gb948) (o := .cells #[.string t946, .slice none 0 0] 38 (0, 0)) (bpu__ BK948.out) hb); replace HK := am__ (KeepBut.trans (w := w) (kef__) (KeepBut.of_below hb g none) (.inl rfl)); replace HB := am__ (below_step (b0_l__) hb); replace HI0 := am__ (IsS104.below (show IsS104 w0 _ g s0_0 t947 from hhi0__iss104) hb); clear hb ho14) | ((with_reducible refine gate_callee (f := 71) rfl ?_); refine gl__ (some 17) Try.func71 #[.pointer (some ⟨g, 0, none⟩), .int .i64 4] ?_; (with_reducible refine (spec_l1Rd_pick.calls k g s0_0 t947 4 t953 t954 w0 _ hhi0__iss104 b0_l__ A6.out).mono ?_); rintro e w15 ⟨rfl, hi, hb, hk⟩; refine ⟨_, rfl, ?_⟩; replace BK945 := am__ (kbl__ hk BK945.out NB945_0.out); replace BK948 := am__ (kbl__ hk BK948.out NB948_0.out); replace HO952 := am__ (Kd.R_mono (Kd.R_keep (IsS104.apart (show IsS104 w0 _ g s0_0 t947 from hhi0__iss104) (rr__ HO952.out) (by decide)) hk h2__) h1__); replace HK := am__ (KeepBut.trans (w := w) (kef__) hk (.inl rfl)); replace HB := am__ (hb); replace HI0 := am__ (hi); clear hi hb hk))
  go_loopg [6, 7] k (fun kq v6 v7 w' => ∃ (x6_1 : List ByteArray) (x7_1 : Int) (x1001_1 : Int), v7 = .int .i64 x7_1 ∧ Aside0 (spec_l1DrawThing.l0 kq a1 x6_1 x7_1 s0_0 x1001_1 t946 = some (r1, r2, r3)) ∧ Aside0 (kq ≤ k) ∧ Aside0 (Kd.R Kd.string 9 w' w.heap.size (fun _ => True) v6 x6_1) ∧ Aside0 (w'.heap[gb945]? = some (.cells #[.string (⟨#[]⟩ : ByteArray), (.slice none 0 0)] 38 (0, 0))) ∧ Aside0 (w'.heap[gb948]? = some (.cells #[.string t946, (.slice none 0 0)] 38 (0, 0))) ∧ Aside0 (IsS104 w0 w' g s0_0 x1001_1) ∧ Aside0 (KeepBut w w' g none) ∧ Aside0 (Below w0.heap.size w0 w'))
  case atStart => exact ⟨(y950), (t953), (t954), (rf__), H', ⟨Nat.le_refl _⟩, ⟨rr__ HO952.out⟩, ⟨blk__ BK945.out⟩, ⟨blk__ BK948.out⟩, ⟨hhi0__iss104⟩, ⟨kef__⟩, ⟨b0_l__⟩⟩
  case round =>
   clear H'
   try clear c1
   try clear p2
   try clear c5
   try clear c7
   try clear c10
   try clear c11
   try clear hcz12_0 hcz12_1 hfz12_0 hfz12_1
   obtain ⟨x6_1, x7_1, x1001_1, rfl, HA, HK1, HO_6, BK945, BK948, HI0, HK, HB⟩ := hrel
   cases gk with
   | zero => exact absurd HA.out (by simp [spec_l1DrawThing.l0])
   | succ k1 =>
    have H := HA.out
    clear HA
    simp only [spec_l1DrawThing.l0] at H
    by_cases c16 : x7_1 > 0
    ·rw [if_pos c16] at H
     have c16b0 : decide (0 < x7_1) = true := decide_eq_true c16
     clear c16
     replace H := Option.bind_eq_some_iff.mp H
     obtain ⟨⟨t955, t956⟩, A170, H⟩ := H
     replace H : ((spec_Sum.f k1 t955 a1).bind fun t957 => (if x6_1.length < 8796093022208 then (spec_l1DrawThing.l0 k1 a1 (x6_1 ++ [t957]) (wrap64 (x7_1 - 1)) s0_0 t956 t946) else (none))) = some (r1, r2, r3) := H
     have A17 := Aside0.mk A170
     clear A170
     replace H := Option.bind_eq_some_iff.mp H
     obtain ⟨t957, A180, H⟩ := H
     replace H : (if x6_1.length < 8796093022208 then (spec_l1DrawThing.l0 k1 a1 (x6_1 ++ [t957]) (wrap64 (x7_1 - 1)) s0_0 t956 t946) else (none)) = some (r1, r2, r3) := H
     have A18 := Aside0.mk A180
     clear A180
     by_cases c19 : x6_1.length < 8796093022208
     ·rw [if_pos c19] at H
      have LMc19 := Aside0.mk c19
      clear c19
      obtain ⟨y958, hy958⟩ : ∃ y_ : List ByteArray, y_ = (x6_1 ++ [t957]) := ⟨_, rfl⟩
      replace H : (spec_l1DrawThing.l0 k1 a1 y958 (wrap64 (x7_1 - 1)) s0_0 t956 t946) = some (r1, r2, r3) := by first | (rw [hy958]; with_reducible exact H) | (have H2_ := (Option.bind_some _ _).symm.trans H; rw [hy958]; with_reducible exact H2_) | (have H2_ := (Option.bind_some _ _).symm.trans H; with_reducible exact H2_) | with_reducible exact H | (rw [hy958]; exact H) | exact H
      have Ny958 := Aside0.mk hy958
      clear hy958
      have H' := Aside0.mk H
      clear H
      go_wp2_with (first | ((with_reducible refine gate_callee (f := 73) rfl ?_); refine gl__ (some 24) Try.func73 #[.pointer (some ⟨g, 0, none⟩)] ?_; (with_reducible refine (spec_l1Text.calls k1 g s0_0 x1001_1 t955 t956 w0 _ hhi0__iss104 b0_l__ A17.out).mono ?_); rintro e w20 ⟨rfl, hi, hb, hk⟩; refine ⟨_, rfl, ?_⟩; replace HO_6 := am__ (Kd.R_mono (Kd.R_keep (IsS104.apart (show IsS104 w0 _ g s0_0 x1001_1 from hhi0__iss104) (rr__ HO_6.out) (by decide)) hk h2__) h1__); replace BK945 := am__ (kbl__ hk BK945.out NB945_0.out); replace BK948 := am__ (kbl__ hk BK948.out NB948_0.out); replace HK := am__ (KeepBut.trans (w := w) (kef__) hk (.inl rfl)); replace HB := am__ (hb); replace HI0 := am__ (hi); clear hi hb hk) | ((with_reducible refine gate_callee (f := 15) rfl ?_); refine gl__ (some 26) Try.func15 #[.string t955, .int .i64 a1] ?_; (with_reducible refine (spec_Sum.calls k1 t955 a1 t957 _ A18.out).mono ?_); rintro e w21 ⟨rfl, hb⟩; refine ⟨_, rfl, ?_⟩; replace HO_6 := am__ (Kd.R_below (rr__ HO_6.out) hb); replace BK945 := am__ (blb__ BK945.out hb); replace BK948 := am__ (blb__ BK948.out hb); replace HK := am__ (KeepBut.trans (w := w) (kef__) (KeepBut.of_below hb g none) (.inl rfl)); replace HB := am__ (below_step (b0_l__) hb); replace HI0 := am__ (IsS104.below (hhi0__iss104) hb); clear hb) | ((with_reducible refine gate_builtin (b := .append) (xs := #[.tmp 22, .tmp 27]) rfl ?_); at_builtin; refine Kd.R_append Kd.string w.heap.size rfl (.tmp 22) (.tmp 27) 25 9 (.string ⟨#[]⟩) 16 rfl Try.underlying25 info9 rfl (by decide) (by omega) u6 x6_1 t957 [.string t957] (fun _ => True) (fun _ => False) rfl rfl ?aP (fun _ hk => hk.elim) ?aF ?aO (Below.refl _ _) ?aS ?aL ?_; (case aP => exact rfl); (case aF => exact (fun _ _ => trivial)); (case aO => exact (rr__ HO_6.out)); (case aS => exact (keep_size (w := w) (g := g) (row := none) (kef__))); (case aL => have := LMc19.out; omega); intro v959 w22 ho hb hg hat; rw [← Ny958.out] at ho; have n0_ := am__ (bgr__ BK945.out hg (Kd.R_ne HO_6.out BK945.out (by decide))); have n1_ := am__ (bgr__ BK948.out hg (Kd.R_ne HO_6.out BK948.out (by decide))); have n2_ := am__ (IsS104.grown (hhi0__iss104) hg (IsS104.own_ne HI0.out HO_6.out (by decide))); have n3_ := am__ (below_weaken (b0_l__) HL.out hb); have n4_ := am__ (KeepBut.trans (w := w) (kef__) (KeepBut.of_grown hg g) (Kd.R_base2 HO_6.out)); have n5_ := am__ (ho); clear BK945; clear BK948; clear HI0; clear HB; clear HK; clear HO_6; have BK945 := n0_; have BK948 := n1_; have HI0 := n2_; have HB := n3_; have HK := n4_; have HO960 := n5_; clear n0_ n1_ n2_ n3_ n4_ n5_; clear ho hb hg hat))
      go_roundg k1
      case measure => have := HK1.out; omega
      case rel => exact ⟨(y958), (wrap64 (x7_1 - 1)), (t956), (rf__), H', ⟨by have := HK1.out; omega⟩, ⟨rr__ HO960.out⟩, ⟨blk__ BK945.out⟩, ⟨blk__ BK948.out⟩, ⟨hhi0__iss104⟩, ⟨kef__⟩, ⟨b0_l__⟩⟩
     ·rw [if_neg c19] at H
      exact absurd H (by simp)
    ·rw [if_neg c16] at H
     have c16b0 : decide (0 < x7_1) = false := decide_eq_false c16
     clear c16
     replace H := Option.bind_eq_some_iff.mp H
     obtain ⟨t961, A230, H⟩ := H
     replace H : (some (t946, t961, x1001_1)) = some (r1, r2, r3) := H
     have A23 := Aside0.mk A230
     clear A230
     simp only [Option.some.injEq, Prod.mk.injEq] at H
     obtain ⟨rfl, rfl, rfl⟩ := H
     obtain ⟨Ao24, co24, eo24⟩ := Kd.R_slice HO_6.out
     subst eo24
     go_wp2_with (first | ((with_reducible refine gate_callee (f := 91) rfl ?_); refine gl__ (some 30) Try.func91 #[.slice Ao24 x6_1.length co24] ?_; (with_reducible refine (spec_l1Sorted.calls k1 _ _ x6_1 t961 _ ?side1 ?side2 A23.out).mono ?_); (case side1 => repeat (first | exact (Kd.R_reads' HO_6.out).2.2 | (with_reducible refine Kd.C_alloc ?_ _) | (with_reducible refine Kd.C_drewN ?_ _) | (with_reducible refine Kd.C_drew ?_))); (case side2 => exact (Kd.R_reads' HO_6.out).2.1); rintro e w25 ⟨v962, rfl, ho0, hb⟩; refine ⟨_, rfl, ?_⟩; have HO963 := am__ (Kd.R_lower (Kd.R_new' ho0 (Kd.R_lt (rr__ HO_6.out))) (keep_size (w := w) (g := g) (row := none) (kef__))); replace HO_6 := am__ (Kd.R_elder' (rr__ HO_6.out) (Kd.R_base ho0) hb); replace BK945 := am__ (blb__ BK945.out hb); replace BK948 := am__ (blb__ BK948.out hb); replace HK := am__ (KeepBut.trans (w := w) (kef__) (KeepBut.of_below hb g none) (.inl rfl)); replace HB := am__ (below_step (b0_l__) hb); replace HI0 := am__ (IsS104.below (hhi0__iss104) hb); clear hb; (try clear ho0); obtain ⟨Ao26, co26, eo26⟩ := Kd.R_slice HO963.out; subst eo26; have hnb27 := NB948_945.out; have hnc27 := NB945_948.out; have hnb28 := NB948_0.out; have hnc28 := NB0_948.out; obtain ⟨hcz29_0, hcz29_1, hfz29_0, hfz29_1⟩ := bk2__ BK948.out; have hnb30 := NB945_0.out; have hnc30 := NB0_945.out; obtain ⟨hcz31_0, hcz31_1, hfz31_0, hfz31_1⟩ := bk2__ BK945.out))
     refine bodyPost_ret (results_cell_row rfl _ _ gb945 38 #[.string t946, .slice Ao26 t961.length co26] (0, 0) _ rfl (bpu__ BK945.out) Try.underlying38 rfl (by kernel_rfl)) rfl ?_
     exact ⟨_, by first | rfl | (simp [errW_none, errW_some] <;> rfl) | (simp [*, errW_none, errW_some] <;> rfl), by refine rps__ ?_; exact Kd.R_mono (Kd.R_far (p := ⟨gb945, 1, none⟩) (Kd.R_far (p := ⟨gb945, 0, none⟩) (Kd.R_far (p := ⟨gb948, 1, none⟩) (Kd.R_types (Kd.R_types HO963.out BK948.out (by decide)) BK945.out (by decide)) (fun _ hk => hk.1.2) (.slice Ao26 t961.length co26)) h2__ (.string t946)) h2__ (.slice Ao26 t961.length co26)) (fun _ hk => trivial), hhi0__iss104, by repeat (first | (with_reducible first | exact HB.out | apply below_alloc | apply pw_below_drewN | apply below_drew1 | refine below_set ?_ (IsS104.ge HI0.out) | refine below_set ?_ GE945.out | refine below_set ?_ GE948.out) | exact HB.out), by repeat (first | (with_reducible first | exact HK.out | apply KeepBut.set_ | apply keep_drewN | apply keep_drew | apply keep_alloc | refine keep_far ?_ GW945.out _ | refine keep_far ?_ GW948.out _) | exact HK.out)⟩
 ·replace c5 := Bool.eq_false_iff.mpr c5
  subst c5
  have H1 : (some (t946, ([] : List ByteArray), t947)) = some (r1, r2, r3) := by rw [if_neg (show ¬ (false = true) by decide)] at H; exact H
  clear H
  have H := H1
  clear H1
  simp only [Option.some.injEq, Prod.mk.injEq] at H
  obtain ⟨rfl, rfl, rfl⟩ := H
  go_enter Try.func79, Try.ntmps79
  go_wp2_with (first | ((with_reducible refine gate_dst (N := 4) rfl ?_); refine be__ 4 #[.string (⟨#[]⟩ : ByteArray), .slice none 0 0] 38 ?_; intro gb945 hg w32 hbox hb; replace HB := am__ (below_step (b0_l__) hb); have BK945 := am__ (hbox); have GW945 := am__ ((by rw [hg]; exact (keep_size (w := w) (g := g) (row := none) (kee__)) : w.heap.size ≤ gb945)); have GE945 := am__ ((Nat.le_trans HW0.out (by rw [hg]; exact (keep_size (w := w) (g := g) (row := none) (kee__)) : w.heap.size ≤ gb945) : w0.heap.size ≤ gb945)); replace HK := am__ (KeepBut.trans (kee__) (KeepBut.of_below hb g none) (.inl rfl)); have NB0_945 := am__ ((nlt__ hg (IsS104.lt (show IsS104 w0 _ g s0_0 s0_1 from hhi0__iss104)) : g ≠ gb945)); have NB945_0 := am__ ((ngt__ hg (IsS104.lt (show IsS104 w0 _ g s0_0 s0_1 from hhi0__iss104)) : gb945 ≠ g)); replace HI0 := am__ (IsS104.below (hhi0__iss104) hb); clear hb hbox hg) | ((with_reducible refine gate_callee (f := 73) rfl ?_); refine gl__ (some 9) Try.func73 #[.pointer (some ⟨g, 0, none⟩)] ?_; (with_reducible refine (spec_l1Text.calls k g s0_0 s0_1 t946 t947 w0 _ hhi0__iss104 b0_l__ A3.out).mono ?_); rintro e w33 ⟨rfl, hi, hb, hk⟩; refine ⟨_, rfl, ?_⟩; replace BK945 := am__ (kbl__ hk BK945.out NB945_0.out); replace HK := am__ (KeepBut.trans (w := w) (kef__) hk (.inl rfl)); replace HB := am__ (hb); replace HI0 := am__ (hi); clear hi hb hk) | ((with_reducible refine gate_dst (N := 5) rfl ?_); refine be__ 5 #[.string (⟨#[]⟩ : ByteArray), .slice none 0 0] 38 ?_; intro gb948 hg w34 hbox hb; replace HB := am__ (below_step (b0_l__) hb); have BK948 := am__ (hbox); have GW948 := am__ ((by rw [hg]; exact (keep_size (w := w) (g := g) (row := none) (kef__)) : w.heap.size ≤ gb948)); have GE948 := am__ ((Nat.le_trans HW0.out (by rw [hg]; exact (keep_size (w := w) (g := g) (row := none) (kef__)) : w.heap.size ≤ gb948) : w0.heap.size ≤ gb948)); replace HK := am__ (KeepBut.trans (w := w) (kef__) (KeepBut.of_below hb g none) (.inl rfl)); have NB945_948 := am__ ((nlt__ hg (blk_lt (g := gb945) (o := .cells #[.string (⟨#[]⟩ : ByteArray), .slice none 0 0] 38 (0, 0)) (blk__ BK945.out)) : gb945 ≠ gb948)); have NB948_945 := am__ ((ngt__ hg (blk_lt (g := gb945) (o := .cells #[.string (⟨#[]⟩ : ByteArray), .slice none 0 0] 38 (0, 0)) (blk__ BK945.out)) : gb948 ≠ gb945)); replace BK945 := am__ (blb__ BK945.out hb); have NB0_948 := am__ ((nlt__ hg (IsS104.lt (show IsS104 w0 _ g s0_0 t947 from hhi0__iss104)) : g ≠ gb948)); have NB948_0 := am__ ((ngt__ hg (IsS104.lt (show IsS104 w0 _ g s0_0 t947 from hhi0__iss104)) : gb948 ≠ g)); replace HI0 := am__ (IsS104.below (hhi0__iss104) hb); clear hb hbox hg; have hnb35 := NB948_945.out; have hnc35 := NB945_948.out; have hnb36 := NB948_0.out; have hnc36 := NB0_948.out; obtain ⟨hcz37_0, hcz37_1, hfz37_0, hfz37_1⟩ := bk2__ BK948.out) | ((with_reducible refine gate_callee (f := 56) rfl ?_); refine gl__ (some 12) Try.func56 #[.int .i64 a1] ?_; (with_reducible refine (spec_l1Width.calls a1 false _ A4.out).mono ?_); rintro e w' ⟨rfl, ⟨nd, rfl⟩⟩; refine ⟨_, rfl, ?_⟩; have hnb38 := NB945_0.out; have hnc38 := NB0_945.out; obtain ⟨hcz39_0, hcz39_1, hfz39_0, hfz39_1⟩ := bk2__ BK945.out))
  refine bodyPost_ret (results_cell_row rfl _ _ gb945 38 #[.string t946, .slice none 0 0] (0, 0) _ rfl (bpu__ BK945.out) Try.underlying38 rfl (by kernel_rfl)) rfl ?_
  exact ⟨_, by first | rfl | (simp [errW_none, errW_some] <;> rfl) | (simp [*, errW_none, errW_some] <;> rfl), by first | exact Kd.R_nil _ _ _ _ _ | exact Kd.N_nil _ _ _ _ _ | exact Kd.V_nil _ _ _ _ _ | exact Kd.Q_nil _ _ _ _ _ | exact Kd.S_nil _ _ _ _ _, hhi0__iss104, by repeat (first | (with_reducible first | exact HB.out | apply below_alloc | apply pw_below_drewN | apply below_drew1 | refine below_set ?_ (IsS104.ge HI0.out) | refine below_set ?_ GE945.out | refine below_set ?_ GE948.out) | exact HB.out), by repeat (first | (with_reducible first | exact HK.out | apply KeepBut.set_ | apply keep_drewN | apply keep_drew | apply keep_alloc | refine keep_far ?_ GW945.out _ | refine keep_far ?_ GW948.out _) | exact HK.out)⟩
end Go.Proofs.Ytpnblgbkjbpeoaa.P

namespace Go.Proofs.Ytpnblgbkjbpeoaa.P
open Go.RowKit Go.Proofs.YtpnblgbkjbpeoaaW.PrintWords Go.Proofs.YtpnblgbkjbpeoaaW.PrintLast Go.Proofs.YtpnblgbkjbpeoaaW.PrintMore
attribute [local go_sem] max2_int min2_int max_two min_two max_three min_three max_four min_four   -- for this text's walks alone
set_option linter.unusedVariables false
set_option linter.unusedSimpArgs false
/-! ### spec_l1Many: function 72 -/
def spec_l1Many.l0 : Nat → ByteArray → Int → ByteArray → Option (ByteArray)
 | 0, _, _, _ => none
 | k + 1, x0, x1, x5 => if x1 > 0 then (if (Int.tmod x1 2) = 1 then (if x5.size + x0.size ≤ 9223372036854775807 then (if x0.size + x0.size ≤ 9223372036854775807 then (spec_l1Many.l0 k (x0 ++ x0) (wrap64 (Int.tdiv x1 2)) (x5 ++ x0)) else (none)) else (none)) else (if x0.size + x0.size ≤ 9223372036854775807 then (spec_l1Many.l0 k (x0 ++ x0) (wrap64 (Int.tdiv x1 2)) x5) else (none))) else (some x5)
def spec_l1Many.f (k : Nat) (a0 : ByteArray) (a1 : Int) : Option (ByteArray) := spec_l1Many.l0 k a0 a1 (⟨#[]⟩ : ByteArray)
set_option maxHeartbeats 8000000 in
set_option maxRecDepth 100000 in
theorem spec_l1Many.calls (k : Nat) (a0 : ByteArray) (a1 : Int) (r : ByteArray) (w : World) (h : spec_l1Many.f k a0 a1 = some r) :
  Calls Try.prog 72 #[.string a0, .int .i64 a1] w fun e w' => e = .returned (.string r) ∧ Drawn0 w w' := by
 have H : (spec_l1Many.l0 k a0 a1 (⟨#[]⟩ : ByteArray)) = some r := h
 clear h
 have H' := Aside0.mk H
 clear H
 go_enter Try.func72, Try.ntmps72
 go_wp2
 go_loopg [0, 1, 5] k (fun kq v0 v1 v5 w' => ∃ (x0_1 : ByteArray) (x1_1 : Int) (x5_1 : ByteArray), v0 = .string x0_1 ∧ v1 = .int .i64 x1_1 ∧ v5 = .string x5_1 ∧ Aside0 (spec_l1Many.l0 kq x0_1 x1_1 x5_1 = some r) ∧ Aside0 (kq ≤ k) ∧ Drawn0 w w')
 case atStart => exact ⟨(a0), (a1), ((⟨#[]⟩ : ByteArray)), (rf__), (rf__), (rf__), H', ⟨Nat.le_refl _⟩, by repeat (first | exact Drawn0.refl _ | apply Drawn0.step)⟩
 case round =>
  clear H'
  try clear p2
  obtain ⟨x0_1, x1_1, x5_1, rfl, rfl, rfl, HA, HK1, ⟨m1, rfl⟩⟩ := hrel
  cases gk with
  | zero => exact absurd HA.out (by simp [spec_l1Many.l0])
  | succ k1 =>
   have H := HA.out
   clear HA
   simp only [spec_l1Many.l0] at H
   by_cases c3 : x1_1 > 0
   ·rw [if_pos c3] at H
    have c3b0 : decide (0 < x1_1) = true := decide_eq_true c3
    clear c3
    by_cases c4 : (Int.tmod x1_1 2) = 1
    ·rw [if_pos c4] at H
     have c4b0 : ((Int.tmod x1_1 2) == 1) = true := beq_iff_eq.mpr c4
     have c4b1 : ((Int.tmod x1_1 2) != 1) = false := bne_eq_false_iff_eq.mpr c4
     clear c4
     by_cases c5 : x5_1.size + x0_1.size ≤ 9223372036854775807
     ·rw [if_pos c5] at H
      have c5b0 := eq_true c5
      have c5b1 : decide (x5_1.size + x0_1.size ≤ 9223372036854775807) = true := decide_eq_true c5
      try have c5b2 : (9223372036854775807 < x5_1.size + x0_1.size) = False := eq_false (Nat.not_lt.2 c5)
      by_cases c6 : x0_1.size + x0_1.size ≤ 9223372036854775807
      ·rw [if_pos c6] at H
       have c6b0 := eq_true c6
       have c6b1 : decide (x0_1.size + x0_1.size ≤ 9223372036854775807) = true := decide_eq_true c6
       try have c6b2 : (9223372036854775807 < x0_1.size + x0_1.size) = False := eq_false (Nat.not_lt.2 c6)
       have H' := Aside0.mk H
       clear H
       go_wp2
       go_roundg k1
       case measure => have := HK1.out; omega
       case rel => exact ⟨(x0_1 ++ x0_1), (wrap64 (Int.tdiv x1_1 2)), (x5_1 ++ x0_1), (rf__), (rf__), (rf__), H', ⟨by have := HK1.out; omega⟩, by repeat (first | exact Drawn0.refl _ | apply Drawn0.step)⟩
      ·rw [if_neg c6] at H
       exact absurd H (by simp)
     ·rw [if_neg c5] at H
      exact absurd H (by simp)
    ·rw [if_neg c4] at H
     have c4b0 : ((Int.tmod x1_1 2) == 1) = false := beq_eq_false_iff_ne.mpr c4
     have c4b1 : ((Int.tmod x1_1 2) != 1) = true := bne_iff_ne.mpr c4
     by_cases c7 : x0_1.size + x0_1.size ≤ 9223372036854775807
     ·rw [if_pos c7] at H
      have c7b0 := eq_true c7
      have c7b1 : decide (x0_1.size + x0_1.size ≤ 9223372036854775807) = true := decide_eq_true c7
      try have c7b2 : (9223372036854775807 < x0_1.size + x0_1.size) = False := eq_false (Nat.not_lt.2 c7)
      have H' := Aside0.mk H
      clear H
      go_wp2
      go_roundg k1
      case measure => have := HK1.out; omega
      case rel => exact ⟨(x0_1 ++ x0_1), (wrap64 (Int.tdiv x1_1 2)), (x5_1), (rf__), (rf__), (rf__), H', ⟨by have := HK1.out; omega⟩, by repeat (first | exact Drawn0.refl _ | apply Drawn0.step)⟩
     ·rw [if_neg c7] at H
      exact absurd H (by simp)
   ·rw [if_neg c3] at H
    have c3b0 : decide (0 < x1_1) = false := decide_eq_false c3
    clear c3
    obtain rfl := Option.some.inj H
    go_wp2
    go_ret
    exact ⟨by first | rfl | (simp; done) | (simp [*]; done), by repeat (first | exact Drawn0.refl _ | apply Drawn0.step)⟩
end Go.Proofs.Ytpnblgbkjbpeoaa.P

namespace Go.Proofs.Ytpnblgbkjbpeoaa.P
open Go.RowKit Go.Proofs.YtpnblgbkjbpeoaaW.PrintWords Go.Proofs.YtpnblgbkjbpeoaaW.PrintLast Go.Proofs.YtpnblgbkjbpeoaaW.PrintMore
attribute [local go_sem] max2_int min2_int max_two min_two max_three min_three max_four min_four   -- for this text's walks alone
set_option linter.unusedVariables false
set_option linter.unusedSimpArgs false
/-! ### spec_l1Thing: function 92 -/
def spec_l1Thing.f (a0_0 : ByteArray) (l0_1 : List ByteArray) : Option (ByteArray × List ByteArray) := (some (([] : List ByteArray) : List ByteArray)).bind fun y966 => (if y966.length + l0_1.length < 8796093022208 then (some (a0_0, (y966 ++ l0_1))) else (none))
def spec_l1Thing.T1 : Bool × List (List Nat × List Nat) := (true, [([], []), ([0], [0]), ([], []), ([], []), ([3], [3]), ([2, 4], [2, 4]), ([1, 5], [1, 5]), ([6, 5, 0, 1, 2, 3, 4, 5, 6], [6])])
def spec_l1Thing.B1 : List Nat := [0, 1, 0, 0, 8, 28, 63, 127]
theorem spec_l1Thing.tab1 : rtab .any (opsOf Try.f92 1) = spec_l1Thing.T1 := by kernel_rfl
theorem spec_l1Thing.bits1 : waitsOk spec_l1Thing.T1.2 spec_l1Thing.B1 = true := by kernel_rfl
set_option maxHeartbeats 8000000 in
set_option maxRecDepth 100000 in
theorem spec_l1Thing.calls (a0_0 : ByteArray) (A0_1 : Option Addr) (c0_1 : Nat) (l0_1 : List ByteArray) (r1 : ByteArray) (r2 : List ByteArray) (w : World) (hr0_1 : Kd.C Kd.string w A0_1 l0_1.length l0_1) (hc0_1 : l0_1.length ≤ c0_1) (h : spec_l1Thing.f a0_0 l0_1 = some (r1, r2)) :
  Calls Try.prog 92 #[.agg #[.string a0_0, .slice A0_1 l0_1.length c0_1]] w fun e w' => ∃ v1_ : Value, e = .returned (.agg #[.string r1, v1_]) ∧ Kd.R Kd.string 9 w' w.heap.size (fun _ => True) v1_ r2 ∧ Below w.heap.size w w' := by
 have hu38 := Try.underlying38
 have HR0_1 := Aside0.mk hr0_1
 have HC0_1 := Aside0.mk hc0_1
 clear hr0_1 hc0_1
 have HB := am__ (Below.refl w.heap.size w)
 have H : ((some (([] : List ByteArray) : List ByteArray)).bind fun y966 => (if y966.length + l0_1.length < 8796093022208 then (some (a0_0, (y966 ++ l0_1))) else (none))) = some (r1, r2) := h
 clear h
 obtain ⟨y966, hy966⟩ : ∃ y_ : List ByteArray, y_ = (([] : List ByteArray)) := ⟨_, rfl⟩
 replace H : (if y966.length + l0_1.length < 8796093022208 then (some (a0_0, (y966 ++ l0_1))) else (none)) = some (r1, r2) := by first | (rw [hy966]; with_reducible exact H) | (have H2_ := (Option.bind_some _ _).symm.trans H; rw [hy966]; with_reducible exact H2_) | (have H2_ := (Option.bind_some _ _).symm.trans H; with_reducible exact H2_) | with_reducible exact H | (rw [hy966]; exact H) | exact H
 have Ny966 := Aside0.mk hy966
 clear hy966
 by_cases c2 : y966.length + l0_1.length < 8796093022208
 ·rw [if_pos c2] at H
  have LMc2 := Aside0.mk c2
  clear c2
  obtain ⟨y969, hy969⟩ : ∃ y_ : List ByteArray, y_ = (y966 ++ l0_1) := ⟨_, rfl⟩
  replace H : (some (a0_0, y969)) = some (r1, r2) := by first | (rw [hy969]; with_reducible exact H) | (have H2_ := (Option.bind_some _ _).symm.trans H; rw [hy969]; with_reducible exact H2_) | (have H2_ := (Option.bind_some _ _).symm.trans H; with_reducible exact H2_) | with_reducible exact H | (rw [hy969]; exact H) | exact H
  have Ny969 := Aside0.mk hy969
  clear hy969
  simp only [Option.some.injEq, Prod.mk.injEq] at H
  obtain ⟨rfl, rfl⟩ := H
  go_enter Try.func92, Try.ntmps92
  try go_wp2_with (first | ((with_reducible refine gate_dst (N := 1) rfl ?_); refine be__ 1 #[.string a0_0, .slice A0_1 l0_1.length c0_1] 38 ?_; intro gb964 hg w3 hbox hb; have BK964 := am__ (hbox); have GW964 := am__ ((bsz__ hg bel__ : w.heap.size ≤ gb964)); have GE964 := am__ ((bsz__ hg bel__ : w.heap.size ≤ gb964)); replace HB := am__ (below_step (bel__) hb); clear hb hbox hg) | ((with_reducible refine gate_dst (N := 2) rfl ?_); refine be__ 2 #[.string (⟨#[]⟩ : ByteArray), .slice none 0 0] 38 ?_; intro gb965 hg w4 hbox hb; have BK965 := am__ (hbox); have GW965 := am__ ((bsz__ hg bel__ : w.heap.size ≤ gb965)); have GE965 := am__ ((bsz__ hg bel__ : w.heap.size ≤ gb965)); replace HB := am__ (below_step (bel__) hb); have NB964_965 := am__ ((nl__ hg BK964.out : gb964 ≠ gb965)); have NB965_964 := am__ ((ng__ hg BK964.out : gb965 ≠ gb964)); replace BK964 := am__ (blb__ BK964.out hb); clear hb hbox hg))
  have n0_ := am__ (blk_drew BK964.out)
  have n1_ := am__ (blk_drew BK965.out)
  have n2_ := am__ (below_drew1 HB.out)
  clear BK964
  clear BK965
  clear HB
  have BK964 := n0_
  have BK965 := n1_
  have HB := n2_
  clear n0_ n1_ n2_
  refine start_ (n := 8) (S := fun w' => w'.cell? ⟨gb964, 0, none⟩ = some (.string a0_0) ∧ w'.cell? ⟨gb964, 1, none⟩ = some (.slice A0_1 l0_1.length c0_1)) (ds := []) #[false, false, false, false, false, false, false, false] (by kernel_rfl) rfl rfl ⟨(blk_cell BK964.out 0).trans rfl, (blk_cell BK964.out 1).trans rfl⟩ (fun hHeld => ?_); refine with_tabW spec_l1Thing.tab1 spec_l1Thing.bits1 (fun HT_ HW_ => ?_)
  generalize w4.drew = w5 at BK964 BK965 HB hHeld ⊢
  refine pu__ (i := 0) (N := some 3) #[true, false, false, false, false, false, false, false] HT_.out ?_
  refine pu__ (i := 3) (N := some 6) #[true, false, false, true, false, false, false, false] HT_.out ?_
  refine take_ (i := 1) (N := some 4) (v := ?_) (a' := ?_) #[true, true, false, true, false, false, false, false] rfl rfl (take_ofW HT_.out HW_.out (by kernel_rfl)) (fun _ _ _ h => h) (Or.inl ⟨by rfl, ?_⟩) hHeld ?_ ?_
  rotate_left
  ·rintro w' ⟨s0, s1⟩
   go_simp
   with_reducible rfl
  rotate_left
  ·simp only [Act.put, List.setIfInBounds_toArray, List.set_cons_zero, List.set_cons_succ, i64_w, i32_w]
   rfl
  refine take_ (i := 4) (N := some 7) (v := ?_) (a' := ?_) #[true, true, false, true, true, false, false, false] rfl rfl (take_ofW HT_.out HW_.out (by kernel_rfl)) (fun _ _ _ h => h) (Or.inl ⟨by rfl, ?_⟩) hHeld ?_ ?_
  rotate_left
  ·rintro w' ⟨s0, s1⟩
   go_simp
   with_reducible rfl
  rotate_left
  ·simp only [Act.put, List.setIfInBounds_toArray, List.set_cons_zero, List.set_cons_succ, i64_w, i32_w]
   rfl
  refine one_ (i := 2) (N := some 5) #[true, true, true, true, true, false, false, false] rfl rfl (one_of HT_.out (by kernel_rfl)) (by decide) (fun K hK => ?_)
  refine Kd.R_lit_step Kd.string _ 9 ?hg (N := 5) ?hd (xs := ([] : List ByteArray)) (inner := []) (ok := fun _ => True) (okp := fun _ => True) ?hr ?hp (fun _ hk => hk) trivial (Below.refl _ _) (Nat.le_refl _) (by simp) ?_; (case hd => rfl); (case hg => rfl); (case hr => first | (go_simp; done) | (go_simp; rfl)); (case hp => exact (Reps.none _ _))
  intro v967 w6 ho7 hb hg_ hnew_
  clear hg_ hnew_
  (first | rw [← Ny966.out] at ho7 | (simp only [Int.reduceToNat] at ho7; rw [← Ny966.out] at ho7))
  have n0_ := am__ (Kd.R_lower ho7 (below_size (bel__)))
  have n1_ := am__ (blb__ BK964.out hb)
  have n2_ := am__ (blb__ BK965.out hb)
  have n3_ := am__ (below_step (bel__) hb)
  clear BK964
  clear BK965
  clear HB
  have HO968 := n0_
  have BK964 := n1_
  have BK965 := n2_
  have HB := n3_
  clear n0_ n1_ n2_ n3_
  clear hb ho7
  refine hK.out _ _ ⟨(blk_cell BK964.out 0).trans rfl, (blk_cell BK964.out 1).trans rfl⟩ (fun hHeld => ?_)
  clear hK K
  refine na__ 5 ?_
  refine one_ (i := 5) (N := some 8) #[true, true, true, true, true, true, false, false] rfl rfl (one_of HT_.out (by kernel_rfl)) (by decide) (fun K hK => ?_)
  refine Kd.R_append_rows_step Kd.string (w0 := w) w.heap.size (by rfl) (.tmp 5) (.tmp 7) 25 9 (.string ⟨#[]⟩) 16 rfl Try.underlying25 info9 rfl (by decide) (by omega) v967 y966 l0_1 _ _ _ (fun _ => True) (fun _ => False) rfl rfl ?aO ?aR (fun _ _ h => h) (fun _ h => h.elim) ?aF ?aB ?aS ?aL ?_
  (case aR => repeat (first | exact (Kd.C_below HR0_1.out HB.out) | (with_reducible refine Kd.C_alloc ?_ _) | (with_reducible refine Kd.C_drewN ?_ _) | (with_reducible refine Kd.C_drew ?_)))
  (case aB => exact (bel__))
  (case aF => exact (fun _ _ => trivial))
  (case aO => exact (rr__ HO968.out))
  (case aS => exact (below_size (bel__)))
  (case aL => have := LMc2.out; omega)
  intro v970 w8 ho hb hg hat
  rw [← Ny969.out] at ho
  have n0_ := am__ (bgr__ BK964.out hg (Kd.R_ne HO968.out BK964.out (by decide)))
  have n1_ := am__ (bgr__ BK965.out hg (Kd.R_ne HO968.out BK965.out (by decide)))
  have n2_ := am__ (hb)
  have n3_ := am__ (ho)
  clear BK964
  clear BK965
  clear HB
  clear HO968
  have BK964 := n0_
  have BK965 := n1_
  have HB := n2_
  have HO971 := n3_
  clear n0_ n1_ n2_ n3_
  clear ho hb hg hat
  obtain ⟨Ao9, co9, eo9⟩ := Kd.R_slice HO971.out
  (first | subst eo9 | (injection eo9 with f1_ f2_ f3_; have f4_ := f1_.symm; have f5_ := f3_.symm; clear f1_ f2_ f3_; subst f4_; subst f5_))
  refine hK.out _ _ ⟨(blk_cell BK964.out 0).trans rfl, (blk_cell BK964.out 1).trans rfl⟩ (fun hHeld => ?_)
  clear hK K
  refine na__ 8 ?_
  refine pu__ (i := 6) (N := some 9) #[true, true, true, true, true, true, true, false] HT_.out ?_
  refine one_ (i := 7) (N := none) #[true, true, true, true, true, true, true, true] rfl rfl (one_of HT_.out (by kernel_rfl)) (by decide) (fun K hK => ?_)
  have hs10 : w8.cell? ⟨gb965, 0, none⟩ = some (.string (⟨#[]⟩ : ByteArray)) := (blk_cell BK965.out 0).trans rfl
  have hfs10 := blk_frozen BK965.out 0
  have hns10_0 := NB964_965.out
  have hms10_0 := NB965_964.out
  have hs11 : w8.cell? ⟨gb965, 1, none⟩ = some (.slice none 0 0) := (blk_cell BK965.out 1).trans rfl
  have hfs11 := blk_frozen BK965.out 1
  have hns11_0 := NB964_965.out
  have hms11_0 := NB965_964.out
  refine skip_ (w1 := ?_) (by rfl) rfl ?_ ?_
  rotate_left
  ·go_simp
   rfl
  refine hK.out _ _ ⟨((cell_far (p := ⟨gb965, _, none⟩) NB964_965.out _).trans (((cell_far (p := ⟨gb965, _, none⟩) NB964_965.out _).trans (hHeld.1)))), ((cell_far (p := ⟨gb965, _, none⟩) NB964_965.out _).trans (((cell_far (p := ⟨gb965, _, none⟩) NB964_965.out _).trans (hHeld.2))))⟩ (fun hHeld => ?_)
  clear hK K
  refine done_ (done_of HT_.out (by kernel_rfl)) ?_
  try go_wp2
  refine bodyPost_ret (results_cell_row rfl _ _ gb965 38 #[.string a0_0, .slice Ao9 y969.length co9] (0, 0) _ rfl (bpu__ BK965.out) Try.underlying38 rfl (by kernel_rfl)) rfl ?_
  exact ⟨_, by first | rfl | (simp [errW_none, errW_some] <;> rfl) | (simp [*, errW_none, errW_some] <;> rfl), by refine rps__ ?_; exact Kd.R_mono (Kd.R_far (p := ⟨gb965, 1, none⟩) (Kd.R_far (p := ⟨gb965, 0, none⟩) (Kd.R_types HO971.out BK965.out (by decide)) h2__ (.string a0_0)) h2__ (.slice Ao9 y969.length co9)) (fun _ hk => trivial), bel__⟩
 ·rw [if_neg c2] at H
  exact absurd H (by simp)
end Go.Proofs.Ytpnblgbkjbpeoaa.P
