/- Part 4 of the proof of FnExactValidRound: what it leans on. -/
import Derived.Test.YtcijlemojododaaM1
import Derived.Test.YtcijlemojododaaM2
import Derived.Test.YtcijlemojododaaM3

namespace Go.Proofs.Ytcijlemojododaa.P
open Go.RowKit Go.Proofs.YtcijlemojododaaW.PrintWords Go.Proofs.YtcijlemojododaaW.PrintLast Go.Proofs.YtcijlemojododaaW.PrintMore
attribute [local go_sem] max2_int min2_int max_two min_two max_three min_three max_four min_four   -- for this text's walks alone
set_option linter.unusedVariables false
set_option linter.unusedSimpArgs false
/-! ### spec_l4ThingsOk: function 47 -/
mutual
def spec_l4ThingsOk.l0 : Nat → List Bool → List Int → Int → Int → Int → Int → Int → List (S91) → List (S82) → List (S85) → Option (Bool)
 | 0, _, _, _, _, _, _, _, _, _, _ => none
 | k + 1, x3, x4, x5, x148000, x148001, x148002, x148003, x148004, x148005, x148006 => if x5 < (x148004.length : Int) then (if 0 ≤ x5 then ((spec_l1ThingOk.f k ((rd_T91 x148004 x5).f2.f0) ((rd_T91 x148004 x5).f2.f1) x148000).bind fun t156 => (if t156 = true then ((spec_FormThing.f k ((rd_T91 x148004 x5).f2.f0) ((rd_T91 x148004 x5).f2.f1) x148000).bind fun t157 => ((spec_Sum.f k t157 x148000).bind fun t158 => (if ((rd_T91 x148004 x5).f0).toList = t158.toList then (if x5 > 0 then (if 0 ≤ (wrap64 (x5 - 1)) then (if (wrap64 (x5 - 1)) < (x148004.length : Int) then (if ((Op.bytesLess (((rd_T91 x148004 (wrap64 (x5 - 1))).f0).toList) (((rd_T91 x148004 x5).f0).toList)) = true) then ((spec_l4Range.f ((rd_T91 x148004 x5).f1) 1 x148003).bind fun t160 => (spec_l4ThingsOk.j1 k x3 x4 x5 (!t160) x148000 x148001 x148002 x148003 x148004 x148005 x148006 ((rd_T91 x148004 x5).f0) ((rd_T91 x148004 x5).f1) ((rd_T91 x148004 x5).f2.f0) ((rd_T91 x148004 x5).f2.f1))) else (spec_l4ThingsOk.j1 k x3 x4 x5 true x148000 x148001 x148002 x148003 x148004 x148005 x148006 ((rd_T91 x148004 x5).f0) ((rd_T91 x148004 x5).f1) ((rd_T91 x148004 x5).f2.f0) ((rd_T91 x148004 x5).f2.f1))) else (none)) else (none)) else ((spec_l4Range.f ((rd_T91 x148004 x5).f1) 1 x148003).bind fun t161 => (spec_l4ThingsOk.j1 k x3 x4 x5 (!t161) x148000 x148001 x148002 x148003 x148004 x148005 x148006 ((rd_T91 x148004 x5).f0) ((rd_T91 x148004 x5).f1) ((rd_T91 x148004 x5).f2.f0) ((rd_T91 x148004 x5).f2.f1)))) else (spec_l4ThingsOk.j1 k x3 x4 x5 true x148000 x148001 x148002 x148003 x148004 x148005 x148006 ((rd_T91 x148004 x5).f0) ((rd_T91 x148004 x5).f1) ((rd_T91 x148004 x5).f2.f0) ((rd_T91 x148004 x5).f2.f1))))) else (spec_l4ThingsOk.j1 k x3 x4 x5 true x148000 x148001 x148002 x148003 x148004 x148005 x148006 ((rd_T91 x148004 x5).f0) ((rd_T91 x148004 x5).f1) ((rd_T91 x148004 x5).f2.f0) ((rd_T91 x148004 x5).f2.f1)))) else (none)) else (spec_l4ThingsOk.l2 k 0 x148000 x148001 x148002 x148003 x148004 x148005 x148006)
def spec_l4ThingsOk.j1 : Nat → List Bool → List Int → Int → Bool → Int → Int → Int → Int → List (S91) → List (S82) → List (S85) → ByteArray → Int → ByteArray → List ByteArray → Option (Bool)
 | 0, _, _, _, _, _, _, _, _, _, _, _, _, _, _, _ => none
 | k + 1, x3, x4, x5, x67, x148000, x148001, x148002, x148003, x148004, x148005, x148006, x156000, x156001, x156002, x156003 => if x67 = true then (some false) else (if x156001 ≤ 600 then (if 0 ≤ x156001 then (if x156001 < (x3.length : Int) then (if rdOf false x3 x156001 = true then (some false) else (spec_l4ThingsOk.l0 k (x3.set (x156001 : Int).toNat true) x4 (wrap64 (x5 + 1)) x148000 x148001 x148002 x148003 x148004 x148005 x148006)) else (none)) else (none)) else (spec_l4ThingsOk.l1 k x3 x4 x5 0 x148000 x148001 x148002 x148003 x148004 x148005 x148006 x156000 x156001 x156002 x156003))
def spec_l4ThingsOk.l1 : Nat → List Bool → List Int → Int → Int → Int → Int → Int → Int → List (S91) → List (S82) → List (S85) → ByteArray → Int → ByteArray → List ByteArray → Option (Bool)
 | 0, _, _, _, _, _, _, _, _, _, _, _, _, _, _, _ => none
 | k + 1, x3, x4, x5, x7, x148000, x148001, x148002, x148003, x148004, x148005, x148006, x156000, x156001, x156002, x156003 => if x7 < (x4.length : Int) then (if 0 ≤ x7 then (if (rd x4 x7) = x156001 then (some false) else (spec_l4ThingsOk.l1 k x3 x4 x5 (wrap64 (x7 + 1)) x148000 x148001 x148002 x148003 x148004 x148005 x148006 x156000 x156001 x156002 x156003)) else (none)) else (if x4.length < 17592186044416 then (spec_l4ThingsOk.l0 k x3 (x4 ++ [x156001]) (wrap64 (x5 + 1)) x148000 x148001 x148002 x148003 x148004 x148005 x148006) else (none))
def spec_l4ThingsOk.l2 : Nat → Int → Int → Int → Int → Int → List (S91) → List (S82) → List (S85) → Option (Bool)
 | 0, _, _, _, _, _, _, _, _ => none
 | k + 1, x8, x148000, x148001, x148002, x148003, x148004, x148005, x148006 => if x8 < (x148004.length : Int) then (spec_l4ThingsOk.l3 k x8 0 x148000 x148001 x148002 x148003 x148004 x148005 x148006) else (some true)
def spec_l4ThingsOk.l3 : Nat → Int → Int → Int → Int → Int → Int → List (S91) → List (S82) → List (S85) → Option (Bool)
 | 0, _, _, _, _, _, _, _, _, _ => none
 | k + 1, x8, x9, x148000, x148001, x148002, x148003, x148004, x148005, x148006 => if 0 ≤ x8 then (if x8 < (x148004.length : Int) then (if x9 < (((rd_T91 x148004 x8).f2.f1).length : Int) then (if 0 ≤ x9 then ((spec_l4Find.f k x148000 x148001 x148002 x148003 x148004 x148005 x148006 (rdOf ByteArray.empty ((rd_T91 x148004 x8).f2.f1) x9)).bind fun t171 => (if t171 < 0 then (spec_l4ThingsOk.j5 k x8 x9 true x148000 x148001 x148002 x148003 x148004 x148005 x148006) else (if 0 ≤ t171 then (if t171 < (x148004.length : Int) then (spec_l4ThingsOk.j5 k x8 x9 (decide (((rd_T91 x148004 t171).f1) ≥ ((rd_T91 x148004 x8).f1))) x148000 x148001 x148002 x148003 x148004 x148005 x148006) else (none)) else (none)))) else (none)) else (spec_l4ThingsOk.l2 k (wrap64 (x8 + 1)) x148000 x148001 x148002 x148003 x148004 x148005 x148006)) else (none)) else (none)
def spec_l4ThingsOk.j5 : Nat → Int → Int → Bool → Int → Int → Int → Int → List (S91) → List (S82) → List (S85) → Option (Bool)
 | 0, _, _, _, _, _, _, _, _, _, _ => none
 | k + 1, x8, x9, x145, x148000, x148001, x148002, x148003, x148004, x148005, x148006 => if x145 = true then (some false) else (spec_l4ThingsOk.l3 k x8 (wrap64 (x9 + 1)) x148000 x148001 x148002 x148003 x148004 x148005 x148006)
end
def spec_l4ThingsOk.f (k : Nat) (a0_0 : Int) (a0_1 : Int) (a0_2 : Int) (a0_3 : Int) (l0_4 : List (S91)) (l0_5 : List (S82)) (l0_6 : List (S85)) : Option (Bool) := if 601 ≤ 281474976710656 then (spec_l4ThingsOk.l0 k (List.replicate 601 false) (([] : List Int)) 0 a0_0 a0_1 a0_2 a0_3 l0_4 l0_5 l0_6) else (none)
def spec_l4ThingsOk.T7 : Bool × List (List Nat × List Nat) := (true, [([], []), ([0], [0]), ([], []), ([2], [2]), ([1, 3], [1, 3]), ([4], [4]), ([5, 4], [5]), ([6], [6]), ([7, 6], [6, 7]), ([6], [6]), ([9, 6], [6, 9]), ([6], [6]), ([11, 6], [6, 11]), ([10, 12, 6, 6], [6, 10, 12]), ([6], [6]), ([14, 6], [6, 14]), ([13, 15, 13, 6], [6, 13, 15]), ([8, 16, 6], [6, 8, 16]), ([6, 17], [6, 17]), ([18, 16], [18]), ([19], [19]), ([20, 19], [19, 20]), ([21, 19, 19], [19, 21]), ([22], [22]), ([23, 22], [22, 23]), ([22], [22]), ([25, 22], [22, 25]), ([24, 26, 22], [22, 24, 26]), ([27, 22], [22, 27]), ([28, 22], [22, 28]), ([22], [22]), ([30, 22], [22, 30]), ([29, 31, 22], [22, 29, 31]), ([22, 32, 19], [19, 22, 32]), ([19, 33], [19, 33]), ([34, 22], [34]), ([35], [35]), ([36, 35], [35, 36]), ([35], [35]), ([38, 35], [35, 38]), ([37, 39, 35, 35], [35, 37, 39]), ([40, 35], [35, 40]), ([35, 41], [35, 41])])
def spec_l4ThingsOk.B7 : List Nat := [0, 1, 0, 4, 15, 31, 63, 127, 255, 127, 639, 127, 2175, 7807, 127, 16511, 65151, 131071, 262143, 524287, 1048575, 2097151, 4194303, 8388607, 16777215, 8388607, 41943039, 134217727, 268435455, 536870911, 8388607, 1082130431, 4294967295, 8589934591, 17179869183, 34359738367, 68719476735, 137438953471, 68719476735, 343597383679, 1099511627775, 2199023255551, 4398046511103]
theorem spec_l4ThingsOk.tab7 : rtab .any (opsOf Try.f47 7) = spec_l4ThingsOk.T7 := by kernel_rfl
theorem spec_l4ThingsOk.bits7 : waitsOk spec_l4ThingsOk.T7.2 spec_l4ThingsOk.B7 = true := by kernel_rfl
def spec_l4ThingsOk.T25 : Bool × List (List Nat × List Nat) := (true, [([], []), ([], []), ([1], [1]), ([], []), ([2, 3], [2, 3]), ([4], [4]), ([5], [5]), ([6], [6]), ([], []), ([7, 8], [7, 8]), ([9], [9]), ([0, 10], [0, 10]), ([11, 11, 0, 1, 2, 3, 4, 5, 6, 7, 8, 9, 10, 11], [11])])
def spec_l4ThingsOk.B25 : List Nat := [0, 0, 2, 0, 14, 30, 62, 126, 0, 510, 1022, 2047, 4095]
theorem spec_l4ThingsOk.tab25 : rtab .any (opsOf Try.f47 25) = spec_l4ThingsOk.T25 := by kernel_rfl
theorem spec_l4ThingsOk.bits25 : waitsOk spec_l4ThingsOk.T25.2 spec_l4ThingsOk.B25 = true := by kernel_rfl
def spec_l4ThingsOk.T26 : Bool × List (List Nat × List Nat) := (true, [([], []), ([0], [0]), ([1], [1]), ([2], [2]), ([3, 2], [2, 3]), ([2], [2]), ([4, 5, 2], [2, 4, 5]), ([6, 2], [2, 6]), ([7, 2], [2, 7]), ([2], [2]), ([9, 2], [2, 9]), ([2], [2]), ([10, 11, 2], [2, 10, 11]), ([12, 2], [2, 12]), ([13, 2], [2, 13]), ([8, 14, 2], [2, 8, 14]), ([2, 15], [2, 15])])
def spec_l4ThingsOk.B26 : List Nat := [0, 1, 3, 7, 15, 7, 63, 127, 255, 7, 519, 7, 3591, 7687, 15879, 32767, 65535]
theorem spec_l4ThingsOk.tab26 : rtab .any (opsOf Try.f47 26) = spec_l4ThingsOk.T26 := by kernel_rfl
theorem spec_l4ThingsOk.bits26 : waitsOk spec_l4ThingsOk.T26.2 spec_l4ThingsOk.B26 = true := by kernel_rfl
set_option maxHeartbeats 8000000 in
set_option maxRecDepth 100000 in
theorem spec_l4ThingsOk.calls (k : Nat) (a0_0 : Int) (a0_1 : Int) (a0_2 : Int) (a0_3 : Int) (A0_4 : Option Addr) (c0_4 : Nat) (l0_4 : List (S91)) (A0_5 : Option Addr) (c0_5 : Nat) (l0_5 : List (S82)) (A0_6 : Option Addr) (c0_6 : Nat) (l0_6 : List (S85)) (r : Bool) (w : World) (hr0_4 : Kd.C k91 w A0_4 l0_4.length l0_4) (hc0_4 : l0_4.length ≤ c0_4) (hr0_5 : Kd.C k82 w A0_5 l0_5.length l0_5) (hc0_5 : l0_5.length ≤ c0_5) (hr0_6 : Kd.C k85 w A0_6 l0_6.length l0_6) (hc0_6 : l0_6.length ≤ c0_6) (h : spec_l4ThingsOk.f k a0_0 a0_1 a0_2 a0_3 l0_4 l0_5 l0_6 = some r) :
  Calls Try.prog 47 #[.agg #[.int .i64 a0_0, .int .i64 a0_1, .int .i64 a0_2, .int .i64 a0_3, .slice A0_4 l0_4.length c0_4, .slice A0_5 l0_5.length c0_5, .slice A0_6 l0_6.length c0_6]] w fun e w' => e = .returned (.bool r) ∧ Below w.heap.size w w' := by
 have hu33 := Try.underlying33
 have hu91 := Try.underlying91
 have hu61 := Try.underlying61
 have HR0_4 := Aside0.mk hr0_4
 have HC0_4 := Aside0.mk hc0_4
 clear hr0_4 hc0_4
 have HR0_5 := Aside0.mk hr0_5
 have HC0_5 := Aside0.mk hc0_5
 clear hr0_5 hc0_5
 have HR0_6 := Aside0.mk hr0_6
 have HC0_6 := Aside0.mk hc0_6
 clear hr0_6 hc0_6
 have HB := am__ (Below.refl w.heap.size w)
 have H : (if 601 ≤ 281474976710656 then (spec_l4ThingsOk.l0 k (List.replicate 601 false) (([] : List Int)) 0 a0_0 a0_1 a0_2 a0_3 l0_4 l0_5 l0_6) else (none)) = some r := h
 clear h
 by_cases c2 : 601 ≤ 281474976710656
 ·as_aux_lemma =>
  rw [if_pos c2] at H
  have c2b0 := eq_true c2
  have c2b1 := decide_eq_true c2
  clear c2
  obtain ⟨y148, hy148⟩ : ∃ y_ : List Bool, y_ = (List.replicate 601 false) := ⟨_, rfl⟩
  replace H : (spec_l4ThingsOk.l0 k y148 (([] : List Int)) 0 a0_0 a0_1 a0_2 a0_3 l0_4 l0_5 l0_6) = some r := by first | (rw [hy148]; with_reducible exact H) | (have H2_ := (Option.bind_some _ _).symm.trans H; rw [hy148]; with_reducible exact H2_) | (have H2_ := (Option.bind_some _ _).symm.trans H; with_reducible exact H2_) | with_reducible exact H | (rw [hy148]; exact H) | exact H
  have Ny148 := Aside0.mk hy148
  clear hy148
  obtain ⟨y151, hy151⟩ : ∃ y_ : List Int, y_ = (([] : List Int)) := ⟨_, rfl⟩
  replace H : (spec_l4ThingsOk.l0 k y148 y151 0 a0_0 a0_1 a0_2 a0_3 l0_4 l0_5 l0_6) = some r := by first | (rw [hy151]; with_reducible exact H) | (have H2_ := (Option.bind_some _ _).symm.trans H; rw [hy151]; with_reducible exact H2_) | (have H2_ := (Option.bind_some _ _).symm.trans H; with_reducible exact H2_) | with_reducible exact H | (rw [hy151]; exact H) | exact H
  have Ny151 := Aside0.mk hy151
  clear hy151
  have H' := Aside0.mk H
  clear H
  go_enter Try.func47, Try.ntmps47
  go_wp2_with (first | ((with_reducible refine gate_dst (N := 1) rfl ?_); refine be__ 1 #[.int .i64 a0_0, .int .i64 a0_1, .int .i64 a0_2, .int .i64 a0_3, .slice A0_4 l0_4.length c0_4, .slice A0_5 l0_5.length c0_5, .slice A0_6 l0_6.length c0_6] 33 ?_; intro gb147 hg w3 hbox hb; have BK147 := am__ (hbox); have GW147 := am__ ((bsz__ hg bel__ : w.heap.size ≤ gb147)); have GE147 := am__ ((bsz__ hg bel__ : w.heap.size ≤ gb147)); replace HB := am__ (below_step (bel__) hb); clear hb hbox hg) | ((with_reducible refine gate_dst (N := 11) rfl ?_); refine Kd.R_make Kd.bool _ 4 rfl (N := 11) rfl 135 _ _ rfl 601 rfl rfl Try.underlying135 (.bool false) 1 info4 rfl (by decide) (by omega) false (ok := fun _ => True) (okp := fun _ => True) rfl (fun _ hk => hk) trivial (by omega) (by omega) (Below.refl _ _) (Nat.le_refl _) ?_; intro v149 w4 ho5 hb hg_ hnew_; clear hg_ hnew_; (first | rw [← Ny148.out] at ho5 | (simp only [Int.reduceToNat] at ho5; rw [← Ny148.out] at ho5)); have HO150 := am__ (Kd.R_lower ho5 (below_size (bel__))); replace BK147 := am__ (blb__ BK147.out hb); replace HB := am__ (below_step (bel__) hb); clear hb ho5) | ((with_reducible refine gate_dst (N := 12) rfl ?_); refine Kd.R_lit (Kd.int .i64) _ 3 ?hg (N := 12) ?hd (xs := ([] : List Int)) (inner := []) (ok := fun _ => True) (okp := fun _ => True) ?hr ?hp (fun _ hk => hk) trivial (Below.refl _ _) (Nat.le_refl _) (by simp) ?_; (case hd => rfl); (case hg => rfl); (case hr => first | (go_simp; done) | (go_simp; rfl)); (case hp => exact (Reps.none _ _)); intro v152 w6 ho7 hb hg_ hnew_; clear hg_ hnew_; (first | rw [← Ny151.out] at ho7 | (simp only [Int.reduceToNat] at ho7; rw [← Ny151.out] at ho7)); replace HO150 := am__ (Kd.R_below (rr__ HO150.out) hb); have HO153 := am__ (Kd.R_lower ho7 (below_size (bel__))); replace BK147 := am__ (blb__ BK147.out hb); replace HB := am__ (below_step (bel__) hb); clear hb ho7))
  go_loopg [4, 5] k (fun kq v4 v5 w' => ∃ (x3_1 : List Bool) (x4_1 : List Int) (x5_1 : Int), v5 = .int .i64 x5_1 ∧ Aside0 (spec_l4ThingsOk.l0 kq x3_1 x4_1 x5_1 a0_0 a0_1 a0_2 a0_3 l0_4 l0_5 l0_6 = some r) ∧ Aside0 (kq ≤ k) ∧ Aside0 (Kd.R Kd.bool 4 w' w.heap.size (fun _ => True) v149 x3_1) ∧ Aside0 (Kd.R (Kd.int .i64) 3 w' w.heap.size (fun _ => True) v4 x4_1) ∧ Aside0 (w'.heap[gb147]? = some (.cells #[.int .i64 a0_0, .int .i64 a0_1, .int .i64 a0_2, .int .i64 a0_3, (.slice A0_4 l0_4.length c0_4), (.slice A0_5 l0_5.length c0_5), (.slice A0_6 l0_6.length c0_6)] 33 (0, 0))) ∧ Aside0 (Below w.heap.size w w'))
  case atStart => exact ⟨(y148), (y151), (0), (rf__), H', ⟨Nat.le_refl _⟩, ⟨rr__ HO150.out⟩, ⟨rr__ HO153.out⟩, ⟨blk__ BK147.out⟩, ⟨bel__⟩⟩
  case round =>
   as_aux_lemma =>
   clear H'
   try clear c2
   try clear c2b0
   try clear c2b1
   try clear p2
   try clear c4
   obtain ⟨x3_1, x4_1, x5_1, rfl, HA, HK1, HO_3, HO_4, BK147, HB⟩ := hrel
   cases gk with
   | zero => exact absurd HA.out (by simp [spec_l4ThingsOk.l0])
   | succ k1 =>
    have H := HA.out
    clear HA
    simp only [spec_l4ThingsOk.l0] at H
    by_cases c8 : x5_1 < (l0_4.length : Int)
    ·as_aux_lemma =>
     rw [if_pos c8] at H
     have c8b0 := decide_eq_true c8
     clear c8
     by_cases c9 : 0 ≤ x5_1
     ·as_aux_lemma =>
      rw [if_pos c9] at H
      have c9b0 := decide_eq_true c9
      clear c9
      have HC10 := Aside0.mk H
      clear H
      obtain ⟨hcz11_0, hcz11_1, hcz11_2, hcz11_3, hcz11_4, hcz11_5, hcz11_6, hfz11_0, hfz11_1, hfz11_2, hfz11_3, hfz11_4, hfz11_5, hfz11_6⟩ := bk7__ BK147.out
      have p154 : 0 ≤ (x5_1 : Int) := of_decide_eq_true (by first | (with_reducible assumption) | assumption)
      have q154 : x5_1 < (l0_4.length : Int) := of_decide_eq_true (by first | (with_reducible assumption) | assumption)
      obtain ⟨ad154, A154_3, c154_3, e154, hx154_0, hx154_1, hx154_2, hx154_3, hl154_3, hi154_3⟩ := at_T91 HR0_4.out x5_1 p154 q154
      cases e154
      try replace hx154_0 := hb__ HB.out hx154_0
      try replace hx154_1 := hb__ HB.out hx154_1
      try replace hx154_2 := hb__ HB.out hx154_2
      try replace hx154_3 := hb__ HB.out hx154_3
      have HR154_3 := Aside0.mk hi154_3
      have HC154_3 := Aside0.mk hl154_3
      clear hi154_3 hl154_3
      replace p154 := eq_true p154
      replace q154 := eq_true q154
      go_upto_region 7 with (first | ((with_reducible refine gate_dst (N := 6) rfl ?_); refine be__ 6 #[.string (⟨#[]⟩ : ByteArray), .int .i64 0, .string (⟨#[]⟩ : ByteArray), .slice none 0 0] 91 ?_; intro gb155 hg w12 hbox hb; replace HO_3 := am__ (Kd.R_below (rr__ HO_3.out) hb); replace HO_4 := am__ (Kd.R_below (rr__ HO_4.out) hb); have BK155 := am__ (hbox); have GW155 := am__ ((bsz__ hg bel__ : w.heap.size ≤ gb155)); have GE155 := am__ ((bsz__ hg bel__ : w.heap.size ≤ gb155)); replace HB := am__ (below_step (bel__) hb); have NB147_155 := am__ ((nl__ hg BK147.out : gb147 ≠ gb155)); have NB155_147 := am__ ((ng__ hg BK147.out : gb155 ≠ gb147)); replace BK147 := am__ (blb__ BK147.out hb); clear hb hbox hg; have hnb13 := NB155_147.out; have hnc13 := NB147_155.out; obtain ⟨hcz14_0, hcz14_1, hcz14_2, hcz14_3, hfz14_0, hfz14_1, hfz14_2, hfz14_3⟩ := bk4__ BK155.out))
      (try simp only [Act.put, List.setIfInBounds_toArray, List.set_cons_zero, List.set_cons_succ])
      go_cut [67] (fun v67 wc => ∃ (kq : Nat) (x67_9 : Bool), v67 = .bool x67_9 ∧ Aside0 (spec_l4ThingsOk.j1 kq x3_1 x4_1 x5_1 x67_9 a0_0 a0_1 a0_2 a0_3 l0_4 l0_5 l0_6 ((rd_T91 l0_4 x5_1).f0) ((rd_T91 l0_4 x5_1).f1) ((rd_T91 l0_4 x5_1).f2.f0) ((rd_T91 l0_4 x5_1).f2.f1) = some r) ∧ Aside0 (kq ≤ k1) ∧ Aside0 (Kd.R Kd.bool 4 wc w.heap.size (fun _ => True) v149 x3_1) ∧ Aside0 (Kd.R (Kd.int .i64) 3 wc w.heap.size (fun _ => True) u4 x4_1) ∧ Aside0 (wc.heap[gb147]? = some (.cells #[.int .i64 a0_0, .int .i64 a0_1, .int .i64 a0_2, .int .i64 a0_3, (.slice (some ad154) l0_4.length c0_4), (.slice A0_5 l0_5.length c0_5), (.slice A0_6 l0_6.length c0_6)] 33 (0, 0))) ∧ Aside0 (wc.heap[gb155]? = some (.cells #[.string ((rd_T91 l0_4 x5_1).f0), .int .i64 ((rd_T91 l0_4 x5_1).f1), .string ((rd_T91 l0_4 x5_1).f2.f0), (.slice A154_3 ((rd_T91 l0_4 x5_1).f2.f1).length c154_3)] 91 (0, 0))) ∧ Aside0 (Below w.heap.size w wc))
      case first =>
       as_aux_lemma =>
       have H := HC10.out
       clear HC10
       replace H := Option.bind_eq_some_iff.mp H
       obtain ⟨t156, A150, H⟩ := H
       have A15 := Aside0.mk A150
       clear A150
       by_cases c16 : t156 = true
       ·as_aux_lemma =>
        subst c16
        rw [if_pos rfl] at H
        replace H := Option.bind_eq_some_iff.mp H
        obtain ⟨t157, A170, H⟩ := H
        have A17 := Aside0.mk A170
        clear A170
        replace H := Option.bind_eq_some_iff.mp H
        obtain ⟨t158, A180, H⟩ := H
        have A18 := Aside0.mk A180
        clear A180
        by_cases c19 : ((rd_T91 l0_4 x5_1).f0).toList = t158.toList
        ·as_aux_lemma =>
         rw [if_pos c19] at H
         have c19b0 : (((rd_T91 l0_4 x5_1).f0).toList == t158.toList) = true := beq_iff_eq.mpr c19
         have c19b1 : (((rd_T91 l0_4 x5_1).f0).toList != t158.toList) = false := bne_eq_false_iff_eq.mpr c19
         clear c19
         (first | rw [c19b0] | (simp only [i64_w, i32_w]; rw [c19b0]) | skip)
         by_cases c20 : x5_1 > 0
         ·as_aux_lemma =>
          rw [if_pos c20] at H
          have c20b0 : decide (0 < x5_1) = true := decide_eq_true c20
          clear c20
          obtain ⟨ji21, hji21⟩ : ∃ j_ : Int, (wrap64 (x5_1 - 1)) = j_ := ⟨_, rfl⟩
          first | rw [hji21] at H | simp only [hji21] at H
          (try rw [hji21] at A15)
          (try rw [hji21] at A17)
          (try rw [hji21] at A18)
          have hji21w : (IntKind.i64.wrap (x5_1 - 1)) = ji21 := (i64_w _).trans hji21
          by_cases c22 : 0 ≤ (ji21)
          ·as_aux_lemma =>
           rw [if_pos c22] at H
           have c22b0 := decide_eq_true c22
           clear c22
           by_cases c23 : (ji21) < (l0_4.length : Int)
           ·as_aux_lemma =>
            rw [if_pos c23] at H
            have c23b0 := decide_eq_true c23
            clear c23
            by_cases c24 : ((Op.bytesLess (((rd_T91 l0_4 (ji21)).f0).toList) (((rd_T91 l0_4 x5_1).f0).toList)) = true)
            ·as_aux_lemma =>
             rw [if_pos c24] at H
             have c24b0 : (Op.bytesLess (((rd_T91 l0_4 (ji21)).f0).toList) (((rd_T91 l0_4 x5_1).f0).toList)) = true := c24
             clear c24
             replace H := Option.bind_eq_some_iff.mp H
             obtain ⟨t160, A250, H⟩ := H
             have A25 := Aside0.mk A250
             clear A250
             have H' := Aside0.mk H
             clear H
             try go_wp2
             obtain ⟨w26, hw_⟩ : ∃ W_, W_ = ((((w12.setCell ⟨gb155, 0, none⟩ (.string ((rd_T91 l0_4 x5_1).f0))).setCell ⟨gb155, 1, none⟩ (.int .i64 ((rd_T91 l0_4 x5_1).f1))).setCell ⟨gb155, 2, none⟩ (.string ((rd_T91 l0_4 x5_1).f2.f0))).setCell ⟨gb155, 3, none⟩ (.slice A154_3 ((rd_T91 l0_4 x5_1).f2.f1).length c154_3)) := ⟨_, rfl⟩
             have n0_ : Aside0 (Kd.R Kd.bool 4 w26 w.heap.size (fun _ => True) v149 x3_1) := ⟨by rw [hw_]; refine rps__ ?_; exact Kd.R_mono (Kd.R_far (p := ⟨gb155, 3, none⟩) (Kd.R_far (p := ⟨gb155, 2, none⟩) (Kd.R_far (p := ⟨gb155, 1, none⟩) (Kd.R_far (p := ⟨gb155, 0, none⟩) (Kd.R_types HO_3.out BK155.out (by decide)) h2__ (.string ((rd_T91 l0_4 x5_1).f0))) h2__ (.int .i64 ((rd_T91 l0_4 x5_1).f1))) h2__ (.string ((rd_T91 l0_4 x5_1).f2.f0))) h2__ (.slice A154_3 ((rd_T91 l0_4 x5_1).f2.f1).length c154_3)) (fun _ hk => trivial)⟩
             have n1_ : Aside0 (Kd.R (Kd.int .i64) 3 w26 w.heap.size (fun _ => True) u4 x4_1) := ⟨by rw [hw_]; refine rps__ ?_; exact Kd.R_mono (Kd.R_far (p := ⟨gb155, 3, none⟩) (Kd.R_far (p := ⟨gb155, 2, none⟩) (Kd.R_far (p := ⟨gb155, 1, none⟩) (Kd.R_far (p := ⟨gb155, 0, none⟩) (Kd.R_types HO_4.out BK155.out (by decide)) h2__ (.string ((rd_T91 l0_4 x5_1).f0))) h2__ (.int .i64 ((rd_T91 l0_4 x5_1).f1))) h2__ (.string ((rd_T91 l0_4 x5_1).f2.f0))) h2__ (.slice A154_3 ((rd_T91 l0_4 x5_1).f2.f1).length c154_3)) (fun _ hk => trivial)⟩
             have n2_ : Aside0 (w26.heap[gb147]? = some (.cells #[.int .i64 a0_0, .int .i64 a0_1, .int .i64 a0_2, .int .i64 a0_3, .slice (some ad154) l0_4.length c0_4, .slice A0_5 l0_5.length c0_5, .slice A0_6 l0_6.length c0_6] 33 (0, 0))) := ⟨by rw [hw_]; exact blf4__ BK147.out⟩
             have n3_ : Aside0 (w26.heap[gb155]? = some (.cells #[.string ((rd_T91 l0_4 x5_1).f0), .int .i64 ((rd_T91 l0_4 x5_1).f1), .string ((rd_T91 l0_4 x5_1).f2.f0), .slice A154_3 ((rd_T91 l0_4 x5_1).f2.f1).length c154_3] 91 (0, 0))) := ⟨by rw [hw_]; exact bpu__ BK155.out⟩
             have n4_ : Aside0 (Below w.heap.size w w26) := ⟨by rw [hw_]; exact bel__⟩
             rw [← hw_]
             clear hw_
             replace HO_3 := n0_
             replace HO_4 := n1_
             replace BK147 := n2_
             replace BK155 := n3_
             replace HB := n4_
             clear n0_ n1_ n2_ n3_ n4_
             replace HO_3 := am__ (Kd.R_drew HO_3.out)
             replace HO_4 := am__ (Kd.R_drew HO_4.out)
             replace BK147 := am__ (blk_drew BK147.out)
             replace BK155 := am__ (blk_drew BK155.out)
             replace HB := am__ (below_drew1 HB.out)
             have p159 : 0 ≤ ((ji21) : Int) := of_decide_eq_true (by first | (with_reducible assumption) | assumption)
             have q159 : (ji21) < (l0_4.length : Int) := of_decide_eq_true (by first | (with_reducible assumption) | assumption)
             obtain ⟨ad159, A159_3, c159_3, e159, hx159_0, hx159_1, hx159_2, hx159_3, hl159_3, hi159_3⟩ := at_T91 HR0_4.out (ji21) p159 q159
             have hw159_3 := hx159_3
             have hw159_2 := hx159_2
             have hw159_1 := hx159_1
             have hw159_0 := hx159_0
             obtain rfl : ad154 = ad159 := (by injection e159)
             try replace hx159_0 := hb__ HB.out hx159_0
             try replace hx159_1 := hb__ HB.out hx159_1
             try replace hx159_2 := hb__ HB.out hx159_2
             try replace hx159_3 := hb__ HB.out hx159_3
             have HR159_3 := Aside0.mk hi159_3
             have HC159_3 := Aside0.mk hl159_3
             clear hi159_3 hl159_3
             replace p159 := eq_true p159
             replace q159 := eq_true q159
             refine st__ 43 (c4a__ BK155.out (c7a__ BK147.out (cha__ HB.out hw159_0 (cha__ HB.out hw159_1 (cha__ HB.out hw159_2 (che__ HB.out hw159_3)))))) fun hHeld => ?_; refine with_tabW spec_l4ThingsOk.tab7 spec_l4ThingsOk.bits7 (fun HT_ HW_ => ?_)
             generalize w26.drew = w27 at HO_3 HO_4 BK147 BK155 HB HR159_3 hx159_0 hx159_1 hx159_2 hx159_3 hHeld ⊢
             refine v_ 0 ?_
             refine v_ 2 ?_
             refine t_ 1 ?_
             refine t_ 3 ?_
             refine o_ 4 fun K hK => ?_
             refine gs__ Try.func89 #[.agg #[.string ((rd_T91 l0_4 x5_1).f2.f0), .slice A154_3 ((rd_T91 l0_4 x5_1).f2.f1).length c154_3], .int .i64 a0_0] ?_
             with_reducible refine (spec_l1ThingOk.calls k1 ((rd_T91 l0_4 x5_1).f2.f0) _ _ ((rd_T91 l0_4 x5_1).f2.f1) a0_0 true _ ?side1 ?side2 A15.out).mono ?_
             (case side1 => repeat (first | exact (Kd.C_below HR154_3.out HB.out) | (with_reducible refine Kd.C_alloc ?_ _) | (with_reducible refine Kd.C_drewN ?_ _) | (with_reducible refine Kd.C_drew ?_)))
             (case side2 => exact HC154_3.out)
             rintro e w28 ⟨rfl, hb⟩
             refine ⟨_, rfl, ?_⟩
             replace HO_3 := am__ (Kd.R_below (rr__ HO_3.out) hb)
             replace HO_4 := am__ (Kd.R_below (rr__ HO_4.out) hb)
             replace BK147 := am__ (blb__ BK147.out hb)
             replace BK155 := am__ (blb__ BK155.out hb)
             replace HB := am__ (below_step (bel__) hb)
             (try clear hb)
             (try clear hb2)
             (try clear hk)
             (try clear hi)
             refine hK.out _ _ ⟨bc__ BK155.out 0, bc__ BK155.out 1, bc__ BK155.out 2, bc__ BK155.out 3, bc__ BK147.out 0, bc__ BK147.out 1, bc__ BK147.out 2, bc__ BK147.out 3, bc__ BK147.out 4, bc__ BK147.out 5, bc__ BK147.out 6, (hd__ HB.out hw159_0), (hd__ HB.out hw159_1), (hd__ HB.out hw159_2), (hd__ HB.out hw159_3)⟩ (fun hHeld => ?_)
             clear hK K
             refine na__ 29 ?_
             refine v_ 5 ?_
             refine v_ 6 ?_
             refine v_ 7 ?_
             refine v_ 9 ?_
             refine v_ 11 ?_
             refine v_ 14 ?_
             refine t_ 8 ?_
             refine t_ 10 ?_
             refine t_ 12 ?_
             refine t_ 15 ?_
             refine o_ 13 fun K hK => ?_
             refine gs__ Try.func34 #[.agg #[.string ((rd_T91 l0_4 x5_1).f2.f0), .slice A154_3 ((rd_T91 l0_4 x5_1).f2.f1).length c154_3], .int .i64 a0_0] ?_
             with_reducible refine (spec_FormThing.calls k1 ((rd_T91 l0_4 x5_1).f2.f0) _ _ ((rd_T91 l0_4 x5_1).f2.f1) a0_0 t157 _ ?side1 ?side2 A17.out).mono ?_
             (case side1 => repeat (first | exact (Kd.C_below HR154_3.out HB.out) | (with_reducible refine Kd.C_alloc ?_ _) | (with_reducible refine Kd.C_drewN ?_ _) | (with_reducible refine Kd.C_drew ?_)))
             (case side2 => exact HC154_3.out)
             rintro e w29 ⟨rfl, hb⟩
             refine ⟨_, rfl, ?_⟩
             replace HO_3 := am__ (Kd.R_below (rr__ HO_3.out) hb)
             replace HO_4 := am__ (Kd.R_below (rr__ HO_4.out) hb)
             replace BK147 := am__ (blb__ BK147.out hb)
             replace BK155 := am__ (blb__ BK155.out hb)
             replace HB := am__ (below_step (bel__) hb)
             (try clear hb)
             (try clear hb2)
             (try clear hk)
             (try clear hi)
             refine hK.out _ _ ⟨bc__ BK155.out 0, bc__ BK155.out 1, bc__ BK155.out 2, bc__ BK155.out 3, bc__ BK147.out 0, bc__ BK147.out 1, bc__ BK147.out 2, bc__ BK147.out 3, bc__ BK147.out 4, bc__ BK147.out 5, bc__ BK147.out 6, (hd__ HB.out hw159_0), (hd__ HB.out hw159_1), (hd__ HB.out hw159_2), (hd__ HB.out hw159_3)⟩ (fun hHeld => ?_)
             clear hK K
             refine na__ 38 ?_
             refine o_ 16 fun K hK => ?_
             refine gs__ Try.func33 #[.string t157, .int .i64 a0_0] ?_
             with_reducible refine (spec_Sum.calls k1 t157 a0_0 t158 _ A18.out).mono ?_
             rintro e w30 ⟨rfl, hb⟩
             refine ⟨_, rfl, ?_⟩
             replace HO_3 := am__ (Kd.R_below (rr__ HO_3.out) hb)
             replace HO_4 := am__ (Kd.R_below (rr__ HO_4.out) hb)
             replace BK147 := am__ (blb__ BK147.out hb)
             replace BK155 := am__ (blb__ BK155.out hb)
             replace HB := am__ (below_step (bel__) hb)
             (try clear hb)
             (try clear hb2)
             (try clear hk)
             (try clear hi)
             refine hK.out _ _ ⟨bc__ BK155.out 0, bc__ BK155.out 1, bc__ BK155.out 2, bc__ BK155.out 3, bc__ BK147.out 0, bc__ BK147.out 1, bc__ BK147.out 2, bc__ BK147.out 3, bc__ BK147.out 4, bc__ BK147.out 5, bc__ BK147.out 6, (hd__ HB.out hw159_0), (hd__ HB.out hw159_1), (hd__ HB.out hw159_2), (hd__ HB.out hw159_3)⟩ (fun hHeld => ?_)
             clear hK K
             refine na__ 41 ?_
             refine v_ 17 ?_
             refine v_ 18 ?_
             refine v_ 19 ?_
             refine v_ 20 ?_
             refine v_ 21 ?_
             refine v_ 22 ?_
             refine v_ 23 ?_
             refine v_ 25 ?_
             refine v_ 26 ?_
             refine v_ 30 ?_
             refine t_ 24 ?_
             refine v_ 27 ?_
             refine v_ 28 ?_
             refine t_ 29 ?_
             refine t_ 31 ?_
             refine v_ 32 ?_
             refine v_ 33 ?_
             refine v_ 34 ?_
             refine v_ 35 ?_
             refine v_ 36 ?_
             refine v_ 38 ?_
             refine t_ 37 ?_
             refine t_ 39 ?_
             refine o_ 40 fun K hK => ?_
             refine gs__ Try.func46 #[.int .i64 ((rd_T91 l0_4 x5_1).f1), .int .i64 1, .int .i64 a0_3] ?_
             with_reducible refine (spec_l4Range.calls ((rd_T91 l0_4 x5_1).f1) 1 a0_3 t160 _ A25.out).mono ?_
             rintro e w' ⟨rfl, ⟨nd, rfl⟩⟩
             refine ⟨_, rfl, ?_⟩
             refine hK.out _ _ ⟨bc__ BK155.out 0, bc__ BK155.out 1, bc__ BK155.out 2, bc__ BK155.out 3, bc__ BK147.out 0, bc__ BK147.out 1, bc__ BK147.out 2, bc__ BK147.out 3, bc__ BK147.out 4, bc__ BK147.out 5, bc__ BK147.out 6, (hd__ HB.out hw159_0), (hd__ HB.out hw159_1), (hd__ HB.out hw159_2), (hd__ HB.out hw159_3)⟩ (fun hHeld => ?_)
             clear hK K
             refine na__ 65 ?_
             refine v_ 41 ?_
             refine v_ 42 ?_
             refine done_ (done_of HT_.out (by kernel_rfl)) ?_
             try go_wp2
             go_meet
             case rel => exact ⟨_, (!t160), (rf__), H', ⟨by have := HK1.out; first | omega | exact Nat.le_refl _⟩, ⟨rr__ HO_3.out⟩, ⟨rr__ HO_4.out⟩, ⟨blk__ BK147.out⟩, ⟨blk__ BK155.out⟩, ⟨bel__⟩⟩
            ·as_aux_lemma =>
             rw [if_neg c24] at H
             have c24b0 : (Op.bytesLess (((rd_T91 l0_4 (ji21)).f0).toList) (((rd_T91 l0_4 x5_1).f0).toList)) = false := by simpa using c24
             clear c24
             have H' := Aside0.mk H
             clear H
             try go_wp2
             obtain ⟨w31, hw_⟩ : ∃ W_, W_ = ((((w12.setCell ⟨gb155, 0, none⟩ (.string ((rd_T91 l0_4 x5_1).f0))).setCell ⟨gb155, 1, none⟩ (.int .i64 ((rd_T91 l0_4 x5_1).f1))).setCell ⟨gb155, 2, none⟩ (.string ((rd_T91 l0_4 x5_1).f2.f0))).setCell ⟨gb155, 3, none⟩ (.slice A154_3 ((rd_T91 l0_4 x5_1).f2.f1).length c154_3)) := ⟨_, rfl⟩
             have n0_ : Aside0 (Kd.R Kd.bool 4 w31 w.heap.size (fun _ => True) v149 x3_1) := ⟨by rw [hw_]; refine rps__ ?_; exact Kd.R_mono (Kd.R_far (p := ⟨gb155, 3, none⟩) (Kd.R_far (p := ⟨gb155, 2, none⟩) (Kd.R_far (p := ⟨gb155, 1, none⟩) (Kd.R_far (p := ⟨gb155, 0, none⟩) (Kd.R_types HO_3.out BK155.out (by decide)) h2__ (.string ((rd_T91 l0_4 x5_1).f0))) h2__ (.int .i64 ((rd_T91 l0_4 x5_1).f1))) h2__ (.string ((rd_T91 l0_4 x5_1).f2.f0))) h2__ (.slice A154_3 ((rd_T91 l0_4 x5_1).f2.f1).length c154_3)) (fun _ hk => trivial)⟩
             have n1_ : Aside0 (Kd.R (Kd.int .i64) 3 w31 w.heap.size (fun _ => True) u4 x4_1) := ⟨by rw [hw_]; refine rps__ ?_; exact Kd.R_mono (Kd.R_far (p := ⟨gb155, 3, none⟩) (Kd.R_far (p := ⟨gb155, 2, none⟩) (Kd.R_far (p := ⟨gb155, 1, none⟩) (Kd.R_far (p := ⟨gb155, 0, none⟩) (Kd.R_types HO_4.out BK155.out (by decide)) h2__ (.string ((rd_T91 l0_4 x5_1).f0))) h2__ (.int .i64 ((rd_T91 l0_4 x5_1).f1))) h2__ (.string ((rd_T91 l0_4 x5_1).f2.f0))) h2__ (.slice A154_3 ((rd_T91 l0_4 x5_1).f2.f1).length c154_3)) (fun _ hk => trivial)⟩
             have n2_ : Aside0 (w31.heap[gb147]? = some (.cells #[.int .i64 a0_0, .int .i64 a0_1, .int .i64 a0_2, .int .i64 a0_3, .slice (some ad154) l0_4.length c0_4, .slice A0_5 l0_5.length c0_5, .slice A0_6 l0_6.length c0_6] 33 (0, 0))) := ⟨by rw [hw_]; exact blf4__ BK147.out⟩
             have n3_ : Aside0 (w31.heap[gb155]? = some (.cells #[.string ((rd_T91 l0_4 x5_1).f0), .int .i64 ((rd_T91 l0_4 x5_1).f1), .string ((rd_T91 l0_4 x5_1).f2.f0), .slice A154_3 ((rd_T91 l0_4 x5_1).f2.f1).length c154_3] 91 (0, 0))) := ⟨by rw [hw_]; exact bpu__ BK155.out⟩
             have n4_ : Aside0 (Below w.heap.size w w31) := ⟨by rw [hw_]; exact bel__⟩
             rw [← hw_]
             clear hw_
             replace HO_3 := n0_
             replace HO_4 := n1_
             replace BK147 := n2_
             replace BK155 := n3_
             replace HB := n4_
             clear n0_ n1_ n2_ n3_ n4_
             replace HO_3 := am__ (Kd.R_drew HO_3.out)
             replace HO_4 := am__ (Kd.R_drew HO_4.out)
             replace BK147 := am__ (blk_drew BK147.out)
             replace BK155 := am__ (blk_drew BK155.out)
             replace HB := am__ (below_drew1 HB.out)
             have p159 : 0 ≤ ((ji21) : Int) := of_decide_eq_true (by first | (with_reducible assumption) | assumption)
             have q159 : (ji21) < (l0_4.length : Int) := of_decide_eq_true (by first | (with_reducible assumption) | assumption)
             obtain ⟨ad159, A159_3, c159_3, e159, hx159_0, hx159_1, hx159_2, hx159_3, hl159_3, hi159_3⟩ := at_T91 HR0_4.out (ji21) p159 q159
             have hw159_3 := hx159_3
             have hw159_2 := hx159_2
             have hw159_1 := hx159_1
             have hw159_0 := hx159_0
             obtain rfl : ad154 = ad159 := (by injection e159)
             try replace hx159_0 := hb__ HB.out hx159_0
             try replace hx159_1 := hb__ HB.out hx159_1
             try replace hx159_2 := hb__ HB.out hx159_2
             try replace hx159_3 := hb__ HB.out hx159_3
             have HR159_3 := Aside0.mk hi159_3
             have HC159_3 := Aside0.mk hl159_3
             clear hi159_3 hl159_3
             replace p159 := eq_true p159
             replace q159 := eq_true q159
             refine st__ 43 (c4a__ BK155.out (c7a__ BK147.out (cha__ HB.out hw159_0 (cha__ HB.out hw159_1 (cha__ HB.out hw159_2 (che__ HB.out hw159_3)))))) fun hHeld => ?_; refine with_tabW spec_l4ThingsOk.tab7 spec_l4ThingsOk.bits7 (fun HT_ HW_ => ?_)
             generalize w31.drew = w32 at HO_3 HO_4 BK147 BK155 HB HR159_3 hx159_0 hx159_1 hx159_2 hx159_3 hHeld ⊢
             refine v_ 0 ?_
             refine v_ 2 ?_
             refine t_ 1 ?_
             refine t_ 3 ?_
             refine o_ 4 fun K hK => ?_
             refine gs__ Try.func89 #[.agg #[.string ((rd_T91 l0_4 x5_1).f2.f0), .slice A154_3 ((rd_T91 l0_4 x5_1).f2.f1).length c154_3], .int .i64 a0_0] ?_
             with_reducible refine (spec_l1ThingOk.calls k1 ((rd_T91 l0_4 x5_1).f2.f0) _ _ ((rd_T91 l0_4 x5_1).f2.f1) a0_0 true _ ?side1 ?side2 A15.out).mono ?_
             (case side1 => repeat (first | exact (Kd.C_below HR154_3.out HB.out) | (with_reducible refine Kd.C_alloc ?_ _) | (with_reducible refine Kd.C_drewN ?_ _) | (with_reducible refine Kd.C_drew ?_)))
             (case side2 => exact HC154_3.out)
             rintro e w33 ⟨rfl, hb⟩
             refine ⟨_, rfl, ?_⟩
             replace HO_3 := am__ (Kd.R_below (rr__ HO_3.out) hb)
             replace HO_4 := am__ (Kd.R_below (rr__ HO_4.out) hb)
             replace BK147 := am__ (blb__ BK147.out hb)
             replace BK155 := am__ (blb__ BK155.out hb)
             replace HB := am__ (below_step (bel__) hb)
             (try clear hb)
             (try clear hb2)
             (try clear hk)
             (try clear hi)
             refine hK.out _ _ ⟨bc__ BK155.out 0, bc__ BK155.out 1, bc__ BK155.out 2, bc__ BK155.out 3, bc__ BK147.out 0, bc__ BK147.out 1, bc__ BK147.out 2, bc__ BK147.out 3, bc__ BK147.out 4, bc__ BK147.out 5, bc__ BK147.out 6, (hd__ HB.out hw159_0), (hd__ HB.out hw159_1), (hd__ HB.out hw159_2), (hd__ HB.out hw159_3)⟩ (fun hHeld => ?_)
             clear hK K
             refine na__ 29 ?_
             refine v_ 5 ?_
             refine v_ 6 ?_
             refine v_ 7 ?_
             refine v_ 9 ?_
             refine v_ 11 ?_
             refine v_ 14 ?_
             refine t_ 8 ?_
             refine t_ 10 ?_
             refine t_ 12 ?_
             refine t_ 15 ?_
             refine o_ 13 fun K hK => ?_
             refine gs__ Try.func34 #[.agg #[.string ((rd_T91 l0_4 x5_1).f2.f0), .slice A154_3 ((rd_T91 l0_4 x5_1).f2.f1).length c154_3], .int .i64 a0_0] ?_
             with_reducible refine (spec_FormThing.calls k1 ((rd_T91 l0_4 x5_1).f2.f0) _ _ ((rd_T91 l0_4 x5_1).f2.f1) a0_0 t157 _ ?side1 ?side2 A17.out).mono ?_
             (case side1 => repeat (first | exact (Kd.C_below HR154_3.out HB.out) | (with_reducible refine Kd.C_alloc ?_ _) | (with_reducible refine Kd.C_drewN ?_ _) | (with_reducible refine Kd.C_drew ?_)))
             (case side2 => exact HC154_3.out)
             rintro e w34 ⟨rfl, hb⟩
             refine ⟨_, rfl, ?_⟩
             replace HO_3 := am__ (Kd.R_below (rr__ HO_3.out) hb)
             replace HO_4 := am__ (Kd.R_below (rr__ HO_4.out) hb)
             replace BK147 := am__ (blb__ BK147.out hb)
             replace BK155 := am__ (blb__ BK155.out hb)
             replace HB := am__ (below_step (bel__) hb)
             (try clear hb)
             (try clear hb2)
             (try clear hk)
             (try clear hi)
             refine hK.out _ _ ⟨bc__ BK155.out 0, bc__ BK155.out 1, bc__ BK155.out 2, bc__ BK155.out 3, bc__ BK147.out 0, bc__ BK147.out 1, bc__ BK147.out 2, bc__ BK147.out 3, bc__ BK147.out 4, bc__ BK147.out 5, bc__ BK147.out 6, (hd__ HB.out hw159_0), (hd__ HB.out hw159_1), (hd__ HB.out hw159_2), (hd__ HB.out hw159_3)⟩ (fun hHeld => ?_)
             clear hK K
             refine na__ 38 ?_
             refine o_ 16 fun K hK => ?_
             refine gs__ Try.func33 #[.string t157, .int .i64 a0_0] ?_
             with_reducible refine (spec_Sum.calls k1 t157 a0_0 t158 _ A18.out).mono ?_
             rintro e w35 ⟨rfl, hb⟩
             refine ⟨_, rfl, ?_⟩
             replace HO_3 := am__ (Kd.R_below (rr__ HO_3.out) hb)
             replace HO_4 := am__ (Kd.R_below (rr__ HO_4.out) hb)
             replace BK147 := am__ (blb__ BK147.out hb)
             replace BK155 := am__ (blb__ BK155.out hb)
             replace HB := am__ (below_step (bel__) hb)
             (try clear hb)
             (try clear hb2)
             (try clear hk)
             (try clear hi)
             refine hK.out _ _ ⟨bc__ BK155.out 0, bc__ BK155.out 1, bc__ BK155.out 2, bc__ BK155.out 3, bc__ BK147.out 0, bc__ BK147.out 1, bc__ BK147.out 2, bc__ BK147.out 3, bc__ BK147.out 4, bc__ BK147.out 5, bc__ BK147.out 6, (hd__ HB.out hw159_0), (hd__ HB.out hw159_1), (hd__ HB.out hw159_2), (hd__ HB.out hw159_3)⟩ (fun hHeld => ?_)
             clear hK K
             refine na__ 41 ?_
             refine v_ 17 ?_
             refine v_ 18 ?_
             refine v_ 19 ?_
             refine v_ 20 ?_
             refine v_ 21 ?_
             refine v_ 22 ?_
             refine v_ 23 ?_
             refine v_ 25 ?_
             refine v_ 26 ?_
             refine v_ 30 ?_
             refine t_ 24 ?_
             refine v_ 27 ?_
             refine v_ 28 ?_
             refine t_ 29 ?_
             refine t_ 31 ?_
             refine v_ 32 ?_
             refine v_ 33 ?_
             refine v_ 34 ?_
             refine v_ 35 ?_
             refine u_ 36 ?_
             refine u_ 37 ?_
             refine u_ 38 ?_
             refine u_ 39 ?_
             refine u_ 40 ?_
             refine u_ 41 ?_
             refine v_ 42 ?_
             refine done_ (done_of HT_.out (by kernel_rfl)) ?_
             try go_wp2
             go_meet
             case rel => exact ⟨_, (true), (rf__), H', ⟨by have := HK1.out; first | omega | exact Nat.le_refl _⟩, ⟨rr__ HO_3.out⟩, ⟨rr__ HO_4.out⟩, ⟨blk__ BK147.out⟩, ⟨blk__ BK155.out⟩, ⟨bel__⟩⟩
           ·rw [if_neg c23] at H
            exact absurd H (by simp)
          ·rw [if_neg c22] at H
           exact absurd H (by simp)
         ·as_aux_lemma =>
          rw [if_neg c20] at H
          have c20b0 : decide (0 < x5_1) = false := decide_eq_false c20
          clear c20
          replace H := Option.bind_eq_some_iff.mp H
          obtain ⟨t161, A360, H⟩ := H
          have A36 := Aside0.mk A360
          clear A360
          have H' := Aside0.mk H
          clear H
          try go_wp2
          obtain ⟨w37, hw_⟩ : ∃ W_, W_ = ((((w12.setCell ⟨gb155, 0, none⟩ (.string ((rd_T91 l0_4 x5_1).f0))).setCell ⟨gb155, 1, none⟩ (.int .i64 ((rd_T91 l0_4 x5_1).f1))).setCell ⟨gb155, 2, none⟩ (.string ((rd_T91 l0_4 x5_1).f2.f0))).setCell ⟨gb155, 3, none⟩ (.slice A154_3 ((rd_T91 l0_4 x5_1).f2.f1).length c154_3)) := ⟨_, rfl⟩
          have n0_ : Aside0 (Kd.R Kd.bool 4 w37 w.heap.size (fun _ => True) v149 x3_1) := ⟨by rw [hw_]; refine rps__ ?_; exact Kd.R_mono (Kd.R_far (p := ⟨gb155, 3, none⟩) (Kd.R_far (p := ⟨gb155, 2, none⟩) (Kd.R_far (p := ⟨gb155, 1, none⟩) (Kd.R_far (p := ⟨gb155, 0, none⟩) (Kd.R_types HO_3.out BK155.out (by decide)) h2__ (.string ((rd_T91 l0_4 x5_1).f0))) h2__ (.int .i64 ((rd_T91 l0_4 x5_1).f1))) h2__ (.string ((rd_T91 l0_4 x5_1).f2.f0))) h2__ (.slice A154_3 ((rd_T91 l0_4 x5_1).f2.f1).length c154_3)) (fun _ hk => trivial)⟩
          have n1_ : Aside0 (Kd.R (Kd.int .i64) 3 w37 w.heap.size (fun _ => True) u4 x4_1) := ⟨by rw [hw_]; refine rps__ ?_; exact Kd.R_mono (Kd.R_far (p := ⟨gb155, 3, none⟩) (Kd.R_far (p := ⟨gb155, 2, none⟩) (Kd.R_far (p := ⟨gb155, 1, none⟩) (Kd.R_far (p := ⟨gb155, 0, none⟩) (Kd.R_types HO_4.out BK155.out (by decide)) h2__ (.string ((rd_T91 l0_4 x5_1).f0))) h2__ (.int .i64 ((rd_T91 l0_4 x5_1).f1))) h2__ (.string ((rd_T91 l0_4 x5_1).f2.f0))) h2__ (.slice A154_3 ((rd_T91 l0_4 x5_1).f2.f1).length c154_3)) (fun _ hk => trivial)⟩
          have n2_ : Aside0 (w37.heap[gb147]? = some (.cells #[.int .i64 a0_0, .int .i64 a0_1, .int .i64 a0_2, .int .i64 a0_3, .slice (some ad154) l0_4.length c0_4, .slice A0_5 l0_5.length c0_5, .slice A0_6 l0_6.length c0_6] 33 (0, 0))) := ⟨by rw [hw_]; exact blf4__ BK147.out⟩
          have n3_ : Aside0 (w37.heap[gb155]? = some (.cells #[.string ((rd_T91 l0_4 x5_1).f0), .int .i64 ((rd_T91 l0_4 x5_1).f1), .string ((rd_T91 l0_4 x5_1).f2.f0), .slice A154_3 ((rd_T91 l0_4 x5_1).f2.f1).length c154_3] 91 (0, 0))) := ⟨by rw [hw_]; exact bpu__ BK155.out⟩
          have n4_ : Aside0 (Below w.heap.size w w37) := ⟨by rw [hw_]; exact bel__⟩
          rw [← hw_]
          clear hw_
          replace HO_3 := n0_
          replace HO_4 := n1_
          replace BK147 := n2_
          replace BK155 := n3_
          replace HB := n4_
          clear n0_ n1_ n2_ n3_ n4_
          replace HO_3 := am__ (Kd.R_drew HO_3.out)
          replace HO_4 := am__ (Kd.R_drew HO_4.out)
          replace BK147 := am__ (blk_drew BK147.out)
          replace BK155 := am__ (blk_drew BK155.out)
          replace HB := am__ (below_drew1 HB.out)
          refine st__ 43 (c4a__ BK155.out (c7e__ BK147.out)) fun hHeld => ?_; refine with_tabW spec_l4ThingsOk.tab7 spec_l4ThingsOk.bits7 (fun HT_ HW_ => ?_)
          generalize w37.drew = w38 at HO_3 HO_4 BK147 BK155 HB hHeld ⊢
          refine v_ 0 ?_
          refine v_ 2 ?_
          refine t_ 1 ?_
          refine t_ 3 ?_
          refine o_ 4 fun K hK => ?_
          refine gs__ Try.func89 #[.agg #[.string ((rd_T91 l0_4 x5_1).f2.f0), .slice A154_3 ((rd_T91 l0_4 x5_1).f2.f1).length c154_3], .int .i64 a0_0] ?_
          with_reducible refine (spec_l1ThingOk.calls k1 ((rd_T91 l0_4 x5_1).f2.f0) _ _ ((rd_T91 l0_4 x5_1).f2.f1) a0_0 true _ ?side1 ?side2 A15.out).mono ?_
          (case side1 => repeat (first | exact (Kd.C_below HR154_3.out HB.out) | (with_reducible refine Kd.C_alloc ?_ _) | (with_reducible refine Kd.C_drewN ?_ _) | (with_reducible refine Kd.C_drew ?_)))
          (case side2 => exact HC154_3.out)
          rintro e w39 ⟨rfl, hb⟩
          refine ⟨_, rfl, ?_⟩
          replace HO_3 := am__ (Kd.R_below (rr__ HO_3.out) hb)
          replace HO_4 := am__ (Kd.R_below (rr__ HO_4.out) hb)
          replace BK147 := am__ (blb__ BK147.out hb)
          replace BK155 := am__ (blb__ BK155.out hb)
          replace HB := am__ (below_step (bel__) hb)
          (try clear hb)
          (try clear hb2)
          (try clear hk)
          (try clear hi)
          refine hK.out _ _ ⟨bc__ BK155.out 0, bc__ BK155.out 1, bc__ BK155.out 2, bc__ BK155.out 3, bc__ BK147.out 0, bc__ BK147.out 1, bc__ BK147.out 2, bc__ BK147.out 3, bc__ BK147.out 4, bc__ BK147.out 5, bc__ BK147.out 6⟩ (fun hHeld => ?_)
          clear hK K
          refine na__ 29 ?_
          refine v_ 5 ?_
          refine v_ 6 ?_
          refine v_ 7 ?_
          refine v_ 9 ?_
          refine v_ 11 ?_
          refine v_ 14 ?_
          refine t_ 8 ?_
          refine t_ 10 ?_
          refine t_ 12 ?_
          refine t_ 15 ?_
          refine o_ 13 fun K hK => ?_
          refine gs__ Try.func34 #[.agg #[.string ((rd_T91 l0_4 x5_1).f2.f0), .slice A154_3 ((rd_T91 l0_4 x5_1).f2.f1).length c154_3], .int .i64 a0_0] ?_
          with_reducible refine (spec_FormThing.calls k1 ((rd_T91 l0_4 x5_1).f2.f0) _ _ ((rd_T91 l0_4 x5_1).f2.f1) a0_0 t157 _ ?side1 ?side2 A17.out).mono ?_
          (case side1 => repeat (first | exact (Kd.C_below HR154_3.out HB.out) | (with_reducible refine Kd.C_alloc ?_ _) | (with_reducible refine Kd.C_drewN ?_ _) | (with_reducible refine Kd.C_drew ?_)))
          (case side2 => exact HC154_3.out)
          rintro e w40 ⟨rfl, hb⟩
          refine ⟨_, rfl, ?_⟩
          replace HO_3 := am__ (Kd.R_below (rr__ HO_3.out) hb)
          replace HO_4 := am__ (Kd.R_below (rr__ HO_4.out) hb)
          replace BK147 := am__ (blb__ BK147.out hb)
          replace BK155 := am__ (blb__ BK155.out hb)
          replace HB := am__ (below_step (bel__) hb)
          (try clear hb)
          (try clear hb2)
          (try clear hk)
          (try clear hi)
          refine hK.out _ _ ⟨bc__ BK155.out 0, bc__ BK155.out 1, bc__ BK155.out 2, bc__ BK155.out 3, bc__ BK147.out 0, bc__ BK147.out 1, bc__ BK147.out 2, bc__ BK147.out 3, bc__ BK147.out 4, bc__ BK147.out 5, bc__ BK147.out 6⟩ (fun hHeld => ?_)
          clear hK K
          refine na__ 38 ?_
          refine o_ 16 fun K hK => ?_
          refine gs__ Try.func33 #[.string t157, .int .i64 a0_0] ?_
          with_reducible refine (spec_Sum.calls k1 t157 a0_0 t158 _ A18.out).mono ?_
          rintro e w41 ⟨rfl, hb⟩
          refine ⟨_, rfl, ?_⟩
          replace HO_3 := am__ (Kd.R_below (rr__ HO_3.out) hb)
          replace HO_4 := am__ (Kd.R_below (rr__ HO_4.out) hb)
          replace BK147 := am__ (blb__ BK147.out hb)
          replace BK155 := am__ (blb__ BK155.out hb)
          replace HB := am__ (below_step (bel__) hb)
          (try clear hb)
          (try clear hb2)
          (try clear hk)
          (try clear hi)
          refine hK.out _ _ ⟨bc__ BK155.out 0, bc__ BK155.out 1, bc__ BK155.out 2, bc__ BK155.out 3, bc__ BK147.out 0, bc__ BK147.out 1, bc__ BK147.out 2, bc__ BK147.out 3, bc__ BK147.out 4, bc__ BK147.out 5, bc__ BK147.out 6⟩ (fun hHeld => ?_)
          clear hK K
          refine na__ 41 ?_
          refine v_ 17 ?_
          refine v_ 18 ?_
          refine v_ 19 ?_
          refine v_ 20 ?_
          refine v_ 21 ?_
          refine v_ 22 ?_
          refine u_ 23 ?_
          refine u_ 24 ?_
          refine u_ 25 ?_
          refine u_ 26 ?_
          refine u_ 27 ?_
          refine u_ 28 ?_
          refine u_ 29 ?_
          refine u_ 30 ?_
          refine u_ 31 ?_
          refine u_ 32 ?_
          refine v_ 33 ?_
          refine v_ 34 ?_
          refine v_ 35 ?_
          refine v_ 36 ?_
          refine v_ 38 ?_
          refine t_ 37 ?_
          refine t_ 39 ?_
          refine o_ 40 fun K hK => ?_
          refine gs__ Try.func46 #[.int .i64 ((rd_T91 l0_4 x5_1).f1), .int .i64 1, .int .i64 a0_3] ?_
          with_reducible refine (spec_l4Range.calls ((rd_T91 l0_4 x5_1).f1) 1 a0_3 t161 _ A36.out).mono ?_
          rintro e w' ⟨rfl, ⟨nd, rfl⟩⟩
          refine ⟨_, rfl, ?_⟩
          refine hK.out _ _ ⟨bc__ BK155.out 0, bc__ BK155.out 1, bc__ BK155.out 2, bc__ BK155.out 3, bc__ BK147.out 0, bc__ BK147.out 1, bc__ BK147.out 2, bc__ BK147.out 3, bc__ BK147.out 4, bc__ BK147.out 5, bc__ BK147.out 6⟩ (fun hHeld => ?_)
          clear hK K
          refine na__ 65 ?_
          refine v_ 41 ?_
          refine v_ 42 ?_
          refine done_ (done_of HT_.out (by kernel_rfl)) ?_
          try go_wp2
          go_meet
          case rel => exact ⟨_, (!t161), (rf__), H', ⟨by have := HK1.out; first | omega | exact Nat.le_refl _⟩, ⟨rr__ HO_3.out⟩, ⟨rr__ HO_4.out⟩, ⟨blk__ BK147.out⟩, ⟨blk__ BK155.out⟩, ⟨bel__⟩⟩
        ·as_aux_lemma =>
         rw [if_neg c19] at H
         have c19b0 : (((rd_T91 l0_4 x5_1).f0).toList == t158.toList) = false := beq_eq_false_iff_ne.mpr c19
         have c19b1 : (((rd_T91 l0_4 x5_1).f0).toList != t158.toList) = true := bne_iff_ne.mpr c19
         (first | rw [c19b0] | (simp only [i64_w, i32_w]; rw [c19b0]) | skip)
         have H' := Aside0.mk H
         clear H
         try go_wp2
         obtain ⟨w42, hw_⟩ : ∃ W_, W_ = ((((w12.setCell ⟨gb155, 0, none⟩ (.string ((rd_T91 l0_4 x5_1).f0))).setCell ⟨gb155, 1, none⟩ (.int .i64 ((rd_T91 l0_4 x5_1).f1))).setCell ⟨gb155, 2, none⟩ (.string ((rd_T91 l0_4 x5_1).f2.f0))).setCell ⟨gb155, 3, none⟩ (.slice A154_3 ((rd_T91 l0_4 x5_1).f2.f1).length c154_3)) := ⟨_, rfl⟩
         have n0_ : Aside0 (Kd.R Kd.bool 4 w42 w.heap.size (fun _ => True) v149 x3_1) := ⟨by rw [hw_]; refine rps__ ?_; exact Kd.R_mono (Kd.R_far (p := ⟨gb155, 3, none⟩) (Kd.R_far (p := ⟨gb155, 2, none⟩) (Kd.R_far (p := ⟨gb155, 1, none⟩) (Kd.R_far (p := ⟨gb155, 0, none⟩) (Kd.R_types HO_3.out BK155.out (by decide)) h2__ (.string ((rd_T91 l0_4 x5_1).f0))) h2__ (.int .i64 ((rd_T91 l0_4 x5_1).f1))) h2__ (.string ((rd_T91 l0_4 x5_1).f2.f0))) h2__ (.slice A154_3 ((rd_T91 l0_4 x5_1).f2.f1).length c154_3)) (fun _ hk => trivial)⟩
         have n1_ : Aside0 (Kd.R (Kd.int .i64) 3 w42 w.heap.size (fun _ => True) u4 x4_1) := ⟨by rw [hw_]; refine rps__ ?_; exact Kd.R_mono (Kd.R_far (p := ⟨gb155, 3, none⟩) (Kd.R_far (p := ⟨gb155, 2, none⟩) (Kd.R_far (p := ⟨gb155, 1, none⟩) (Kd.R_far (p := ⟨gb155, 0, none⟩) (Kd.R_types HO_4.out BK155.out (by decide)) h2__ (.string ((rd_T91 l0_4 x5_1).f0))) h2__ (.int .i64 ((rd_T91 l0_4 x5_1).f1))) h2__ (.string ((rd_T91 l0_4 x5_1).f2.f0))) h2__ (.slice A154_3 ((rd_T91 l0_4 x5_1).f2.f1).length c154_3)) (fun _ hk => trivial)⟩
         have n2_ : Aside0 (w42.heap[gb147]? = some (.cells #[.int .i64 a0_0, .int .i64 a0_1, .int .i64 a0_2, .int .i64 a0_3, .slice (some ad154) l0_4.length c0_4, .slice A0_5 l0_5.length c0_5, .slice A0_6 l0_6.length c0_6] 33 (0, 0))) := ⟨by rw [hw_]; exact blf4__ BK147.out⟩
         have n3_ : Aside0 (w42.heap[gb155]? = some (.cells #[.string ((rd_T91 l0_4 x5_1).f0), .int .i64 ((rd_T91 l0_4 x5_1).f1), .string ((rd_T91 l0_4 x5_1).f2.f0), .slice A154_3 ((rd_T91 l0_4 x5_1).f2.f1).length c154_3] 91 (0, 0))) := ⟨by rw [hw_]; exact bpu__ BK155.out⟩
         have n4_ : Aside0 (Below w.heap.size w w42) := ⟨by rw [hw_]; exact bel__⟩
         rw [← hw_]
         clear hw_
         replace HO_3 := n0_
         replace HO_4 := n1_
         replace BK147 := n2_
         replace BK155 := n3_
         replace HB := n4_
         clear n0_ n1_ n2_ n3_ n4_
         replace HO_3 := am__ (Kd.R_drew HO_3.out)
         replace HO_4 := am__ (Kd.R_drew HO_4.out)
         replace BK147 := am__ (blk_drew BK147.out)
         replace BK155 := am__ (blk_drew BK155.out)
         replace HB := am__ (below_drew1 HB.out)
         refine st__ 43 (c4a__ BK155.out (c7e__ BK147.out)) fun hHeld => ?_; refine with_tabW spec_l4ThingsOk.tab7 spec_l4ThingsOk.bits7 (fun HT_ HW_ => ?_)
         generalize w42.drew = w43 at HO_3 HO_4 BK147 BK155 HB hHeld ⊢
         refine v_ 0 ?_
         refine v_ 2 ?_
         refine t_ 1 ?_
         refine t_ 3 ?_
         refine o_ 4 fun K hK => ?_
         refine gs__ Try.func89 #[.agg #[.string ((rd_T91 l0_4 x5_1).f2.f0), .slice A154_3 ((rd_T91 l0_4 x5_1).f2.f1).length c154_3], .int .i64 a0_0] ?_
         with_reducible refine (spec_l1ThingOk.calls k1 ((rd_T91 l0_4 x5_1).f2.f0) _ _ ((rd_T91 l0_4 x5_1).f2.f1) a0_0 true _ ?side1 ?side2 A15.out).mono ?_
         (case side1 => repeat (first | exact (Kd.C_below HR154_3.out HB.out) | (with_reducible refine Kd.C_alloc ?_ _) | (with_reducible refine Kd.C_drewN ?_ _) | (with_reducible refine Kd.C_drew ?_)))
         (case side2 => exact HC154_3.out)
         rintro e w44 ⟨rfl, hb⟩
         refine ⟨_, rfl, ?_⟩
         replace HO_3 := am__ (Kd.R_below (rr__ HO_3.out) hb)
         replace HO_4 := am__ (Kd.R_below (rr__ HO_4.out) hb)
         replace BK147 := am__ (blb__ BK147.out hb)
         replace BK155 := am__ (blb__ BK155.out hb)
         replace HB := am__ (below_step (bel__) hb)
         (try clear hb)
         (try clear hb2)
         (try clear hk)
         (try clear hi)
         refine hK.out _ _ ⟨bc__ BK155.out 0, bc__ BK155.out 1, bc__ BK155.out 2, bc__ BK155.out 3, bc__ BK147.out 0, bc__ BK147.out 1, bc__ BK147.out 2, bc__ BK147.out 3, bc__ BK147.out 4, bc__ BK147.out 5, bc__ BK147.out 6⟩ (fun hHeld => ?_)
         clear hK K
         refine na__ 29 ?_
         refine v_ 5 ?_
         refine v_ 6 ?_
         refine v_ 7 ?_
         refine v_ 9 ?_
         refine v_ 11 ?_
         refine v_ 14 ?_
         refine t_ 8 ?_
         refine t_ 10 ?_
         refine t_ 12 ?_
         refine t_ 15 ?_
         refine o_ 13 fun K hK => ?_
         refine gs__ Try.func34 #[.agg #[.string ((rd_T91 l0_4 x5_1).f2.f0), .slice A154_3 ((rd_T91 l0_4 x5_1).f2.f1).length c154_3], .int .i64 a0_0] ?_
         with_reducible refine (spec_FormThing.calls k1 ((rd_T91 l0_4 x5_1).f2.f0) _ _ ((rd_T91 l0_4 x5_1).f2.f1) a0_0 t157 _ ?side1 ?side2 A17.out).mono ?_
         (case side1 => repeat (first | exact (Kd.C_below HR154_3.out HB.out) | (with_reducible refine Kd.C_alloc ?_ _) | (with_reducible refine Kd.C_drewN ?_ _) | (with_reducible refine Kd.C_drew ?_)))
         (case side2 => exact HC154_3.out)
         rintro e w45 ⟨rfl, hb⟩
         refine ⟨_, rfl, ?_⟩
         replace HO_3 := am__ (Kd.R_below (rr__ HO_3.out) hb)
         replace HO_4 := am__ (Kd.R_below (rr__ HO_4.out) hb)
         replace BK147 := am__ (blb__ BK147.out hb)
         replace BK155 := am__ (blb__ BK155.out hb)
         replace HB := am__ (below_step (bel__) hb)
         (try clear hb)
         (try clear hb2)
         (try clear hk)
         (try clear hi)
         refine hK.out _ _ ⟨bc__ BK155.out 0, bc__ BK155.out 1, bc__ BK155.out 2, bc__ BK155.out 3, bc__ BK147.out 0, bc__ BK147.out 1, bc__ BK147.out 2, bc__ BK147.out 3, bc__ BK147.out 4, bc__ BK147.out 5, bc__ BK147.out 6⟩ (fun hHeld => ?_)
         clear hK K
         refine na__ 38 ?_
         refine o_ 16 fun K hK => ?_
         refine gs__ Try.func33 #[.string t157, .int .i64 a0_0] ?_
         with_reducible refine (spec_Sum.calls k1 t157 a0_0 t158 _ A18.out).mono ?_
         rintro e w46 ⟨rfl, hb⟩
         refine ⟨_, rfl, ?_⟩
         replace HO_3 := am__ (Kd.R_below (rr__ HO_3.out) hb)
         replace HO_4 := am__ (Kd.R_below (rr__ HO_4.out) hb)
         replace BK147 := am__ (blb__ BK147.out hb)
         replace BK155 := am__ (blb__ BK155.out hb)
         replace HB := am__ (below_step (bel__) hb)
         (try clear hb)
         (try clear hb2)
         (try clear hk)
         (try clear hi)
         refine hK.out _ _ ⟨bc__ BK155.out 0, bc__ BK155.out 1, bc__ BK155.out 2, bc__ BK155.out 3, bc__ BK147.out 0, bc__ BK147.out 1, bc__ BK147.out 2, bc__ BK147.out 3, bc__ BK147.out 4, bc__ BK147.out 5, bc__ BK147.out 6⟩ (fun hHeld => ?_)
         clear hK K
         refine na__ 41 ?_
         refine v_ 17 ?_
         refine v_ 18 ?_
         refine v_ 19 ?_
         refine u_ 20 ?_
         refine u_ 21 ?_
         refine u_ 22 ?_
         refine u_ 23 ?_
         refine u_ 24 ?_
         refine u_ 25 ?_
         refine u_ 26 ?_
         refine u_ 27 ?_
         refine u_ 28 ?_
         refine u_ 29 ?_
         refine u_ 30 ?_
         refine u_ 31 ?_
         refine u_ 32 ?_
         refine u_ 33 ?_
         refine v_ 34 ?_
         refine v_ 35 ?_
         refine u_ 36 ?_
         refine u_ 37 ?_
         refine u_ 38 ?_
         refine u_ 39 ?_
         refine u_ 40 ?_
         refine u_ 41 ?_
         refine v_ 42 ?_
         refine done_ (done_of HT_.out (by kernel_rfl)) ?_
         try go_wp2
         go_meet
         case rel => exact ⟨_, (true), (rf__), H', ⟨by have := HK1.out; first | omega | exact Nat.le_refl _⟩, ⟨rr__ HO_3.out⟩, ⟨rr__ HO_4.out⟩, ⟨blk__ BK147.out⟩, ⟨blk__ BK155.out⟩, ⟨bel__⟩⟩
       ·as_aux_lemma =>
        replace c16 := Bool.eq_false_iff.mpr c16
        subst c16
        have H1 : (spec_l4ThingsOk.j1 k1 x3_1 x4_1 x5_1 true a0_0 a0_1 a0_2 a0_3 l0_4 l0_5 l0_6 ((rd_T91 l0_4 x5_1).f0) ((rd_T91 l0_4 x5_1).f1) ((rd_T91 l0_4 x5_1).f2.f0) ((rd_T91 l0_4 x5_1).f2.f1)) = some r := by rw [if_neg (show ¬ (false = true) by decide)] at H; exact H
        clear H
        have H := H1
        clear H1
        have H' := Aside0.mk H
        clear H
        try go_wp2
        obtain ⟨w47, hw_⟩ : ∃ W_, W_ = ((((w12.setCell ⟨gb155, 0, none⟩ (.string ((rd_T91 l0_4 x5_1).f0))).setCell ⟨gb155, 1, none⟩ (.int .i64 ((rd_T91 l0_4 x5_1).f1))).setCell ⟨gb155, 2, none⟩ (.string ((rd_T91 l0_4 x5_1).f2.f0))).setCell ⟨gb155, 3, none⟩ (.slice A154_3 ((rd_T91 l0_4 x5_1).f2.f1).length c154_3)) := ⟨_, rfl⟩
        have n0_ : Aside0 (Kd.R Kd.bool 4 w47 w.heap.size (fun _ => True) v149 x3_1) := ⟨by rw [hw_]; refine rps__ ?_; exact Kd.R_mono (Kd.R_far (p := ⟨gb155, 3, none⟩) (Kd.R_far (p := ⟨gb155, 2, none⟩) (Kd.R_far (p := ⟨gb155, 1, none⟩) (Kd.R_far (p := ⟨gb155, 0, none⟩) (Kd.R_types HO_3.out BK155.out (by decide)) h2__ (.string ((rd_T91 l0_4 x5_1).f0))) h2__ (.int .i64 ((rd_T91 l0_4 x5_1).f1))) h2__ (.string ((rd_T91 l0_4 x5_1).f2.f0))) h2__ (.slice A154_3 ((rd_T91 l0_4 x5_1).f2.f1).length c154_3)) (fun _ hk => trivial)⟩
        have n1_ : Aside0 (Kd.R (Kd.int .i64) 3 w47 w.heap.size (fun _ => True) u4 x4_1) := ⟨by rw [hw_]; refine rps__ ?_; exact Kd.R_mono (Kd.R_far (p := ⟨gb155, 3, none⟩) (Kd.R_far (p := ⟨gb155, 2, none⟩) (Kd.R_far (p := ⟨gb155, 1, none⟩) (Kd.R_far (p := ⟨gb155, 0, none⟩) (Kd.R_types HO_4.out BK155.out (by decide)) h2__ (.string ((rd_T91 l0_4 x5_1).f0))) h2__ (.int .i64 ((rd_T91 l0_4 x5_1).f1))) h2__ (.string ((rd_T91 l0_4 x5_1).f2.f0))) h2__ (.slice A154_3 ((rd_T91 l0_4 x5_1).f2.f1).length c154_3)) (fun _ hk => trivial)⟩
        have n2_ : Aside0 (w47.heap[gb147]? = some (.cells #[.int .i64 a0_0, .int .i64 a0_1, .int .i64 a0_2, .int .i64 a0_3, .slice (some ad154) l0_4.length c0_4, .slice A0_5 l0_5.length c0_5, .slice A0_6 l0_6.length c0_6] 33 (0, 0))) := ⟨by rw [hw_]; exact blf4__ BK147.out⟩
        have n3_ : Aside0 (w47.heap[gb155]? = some (.cells #[.string ((rd_T91 l0_4 x5_1).f0), .int .i64 ((rd_T91 l0_4 x5_1).f1), .string ((rd_T91 l0_4 x5_1).f2.f0), .slice A154_3 ((rd_T91 l0_4 x5_1).f2.f1).length c154_3] 91 (0, 0))) := ⟨by rw [hw_]; exact bpu__ BK155.out⟩
        have n4_ : Aside0 (Below w.heap.size w w47) := ⟨by rw [hw_]; exact bel__⟩
        rw [← hw_]
        clear hw_
        replace HO_3 := n0_
        replace HO_4 := n1_
        replace BK147 := n2_
        replace BK155 := n3_
        replace HB := n4_
        clear n0_ n1_ n2_ n3_ n4_
        replace HO_3 := am__ (Kd.R_drew HO_3.out)
        replace HO_4 := am__ (Kd.R_drew HO_4.out)
        replace BK147 := am__ (blk_drew BK147.out)
        replace BK155 := am__ (blk_drew BK155.out)
        replace HB := am__ (below_drew1 HB.out)
        refine st__ 43 (c4a__ BK155.out (c7e__ BK147.out)) fun hHeld => ?_; refine with_tabW spec_l4ThingsOk.tab7 spec_l4ThingsOk.bits7 (fun HT_ HW_ => ?_)
        generalize w47.drew = w48 at HO_3 HO_4 BK147 BK155 HB hHeld ⊢
        refine v_ 0 ?_
        refine v_ 2 ?_
        refine t_ 1 ?_
        refine t_ 3 ?_
        refine o_ 4 fun K hK => ?_
        refine gs__ Try.func89 #[.agg #[.string ((rd_T91 l0_4 x5_1).f2.f0), .slice A154_3 ((rd_T91 l0_4 x5_1).f2.f1).length c154_3], .int .i64 a0_0] ?_
        with_reducible refine (spec_l1ThingOk.calls k1 ((rd_T91 l0_4 x5_1).f2.f0) _ _ ((rd_T91 l0_4 x5_1).f2.f1) a0_0 false _ ?side1 ?side2 A15.out).mono ?_
        (case side1 => repeat (first | exact (Kd.C_below HR154_3.out HB.out) | (with_reducible refine Kd.C_alloc ?_ _) | (with_reducible refine Kd.C_drewN ?_ _) | (with_reducible refine Kd.C_drew ?_)))
        (case side2 => exact HC154_3.out)
        rintro e w49 ⟨rfl, hb⟩
        refine ⟨_, rfl, ?_⟩
        replace HO_3 := am__ (Kd.R_below (rr__ HO_3.out) hb)
        replace HO_4 := am__ (Kd.R_below (rr__ HO_4.out) hb)
        replace BK147 := am__ (blb__ BK147.out hb)
        replace BK155 := am__ (blb__ BK155.out hb)
        replace HB := am__ (below_step (bel__) hb)
        (try clear hb)
        (try clear hb2)
        (try clear hk)
        (try clear hi)
        refine hK.out _ _ ⟨bc__ BK155.out 0, bc__ BK155.out 1, bc__ BK155.out 2, bc__ BK155.out 3, bc__ BK147.out 0, bc__ BK147.out 1, bc__ BK147.out 2, bc__ BK147.out 3, bc__ BK147.out 4, bc__ BK147.out 5, bc__ BK147.out 6⟩ (fun hHeld => ?_)
        clear hK K
        refine na__ 29 ?_
        refine v_ 5 ?_
        refine v_ 6 ?_
        refine u_ 7 ?_
        refine u_ 8 ?_
        refine u_ 9 ?_
        refine u_ 10 ?_
        refine u_ 11 ?_
        refine u_ 12 ?_
        refine u_ 13 ?_
        refine u_ 14 ?_
        refine u_ 15 ?_
        refine u_ 16 ?_
        refine u_ 17 ?_
        refine v_ 18 ?_
        refine v_ 19 ?_
        refine u_ 20 ?_
        refine u_ 21 ?_
        refine u_ 22 ?_
        refine u_ 23 ?_
        refine u_ 24 ?_
        refine u_ 25 ?_
        refine u_ 26 ?_
        refine u_ 27 ?_
        refine u_ 28 ?_
        refine u_ 29 ?_
        refine u_ 30 ?_
        refine u_ 31 ?_
        refine u_ 32 ?_
        refine u_ 33 ?_
        refine v_ 34 ?_
        refine v_ 35 ?_
        refine u_ 36 ?_
        refine u_ 37 ?_
        refine u_ 38 ?_
        refine u_ 39 ?_
        refine u_ 40 ?_
        refine u_ 41 ?_
        refine v_ 42 ?_
        refine done_ (done_of HT_.out (by kernel_rfl)) ?_
        try go_wp2
        go_meet
        case rel => exact ⟨_, (true), (rf__), H', ⟨by have := HK1.out; first | omega | exact Nat.le_refl _⟩, ⟨rr__ HO_3.out⟩, ⟨rr__ HO_4.out⟩, ⟨blk__ BK147.out⟩, ⟨blk__ BK155.out⟩, ⟨bel__⟩⟩
      case rest =>
       as_aux_lemma =>
       clear HC10
       try clear c1
       try clear p2
       try clear c3
       try clear c8
       try clear c15
       try clear c16
       try clear c33
       try clear c34
       obtain ⟨kq, x67_9, rfl, HA, HJ9, HO_3, HO_4, BK147, BK155, HB⟩ := hcut
       cases kq with
       | zero => exact absurd HA.out (by simp [spec_l4ThingsOk.j1])
       | succ kj9 =>
        have H := HA.out
        clear HA
        simp only [spec_l4ThingsOk.j1] at H
        by_cases c50 : x67_9 = true
        ·subst c50
         rw [if_pos rfl] at H
         obtain rfl := Option.some.inj H
         go_wp2
         go_ret
         exact ⟨ee__, bel__⟩
        ·as_aux_lemma =>
         replace c50 := Bool.eq_false_iff.mpr c50
         subst c50
         have H1 : (if ((rd_T91 l0_4 x5_1).f1) ≤ 600 then (if 0 ≤ ((rd_T91 l0_4 x5_1).f1) then (if ((rd_T91 l0_4 x5_1).f1) < (x3_1.length : Int) then (if rdOf false x3_1 ((rd_T91 l0_4 x5_1).f1) = true then (some false) else (spec_l4ThingsOk.l0 kj9 (x3_1.set (((rd_T91 l0_4 x5_1).f1) : Int).toNat true) x4_1 (wrap64 (x5_1 + 1)) a0_0 a0_1 a0_2 a0_3 l0_4 l0_5 l0_6)) else (none)) else (none)) else (spec_l4ThingsOk.l1 kj9 x3_1 x4_1 x5_1 0 a0_0 a0_1 a0_2 a0_3 l0_4 l0_5 l0_6 ((rd_T91 l0_4 x5_1).f0) ((rd_T91 l0_4 x5_1).f1) ((rd_T91 l0_4 x5_1).f2.f0) ((rd_T91 l0_4 x5_1).f2.f1))) = some r := by rw [if_neg (show ¬ (false = true) by decide)] at H; exact H
         clear H
         have H := H1
         clear H1
         by_cases c51 : ((rd_T91 l0_4 x5_1).f1) ≤ 600
         ·as_aux_lemma =>
          rw [if_pos c51] at H
          have c51b0 := decide_eq_true c51
          clear c51
          by_cases c52 : 0 ≤ ((rd_T91 l0_4 x5_1).f1)
          ·as_aux_lemma =>
           rw [if_pos c52] at H
           have c52b0 := decide_eq_true c52
           clear c52
           by_cases c53 : ((rd_T91 l0_4 x5_1).f1) < (x3_1.length : Int)
           ·as_aux_lemma =>
            rw [if_pos c53] at H
            have c53b0 := decide_eq_true c53
            clear c53
            obtain ⟨bq54, hbq54⟩ : ∃ b_ : Bool, b_ = (rdOf false x3_1 ((rd_T91 l0_4 x5_1).f1)) := ⟨_, rfl⟩
            rw [← hbq54] at H
            have Nbq54 := Aside0.mk hbq54
            clear hbq54
            by_cases c55 : bq54 = true
            ·subst c55
             rw [if_pos rfl] at H
             obtain rfl := Option.some.inj H
             have hnb56 := NB155_147.out
             have hnc56 := NB147_155.out
             obtain ⟨hcz57_0, hcz57_1, hcz57_2, hcz57_3, hfz57_0, hfz57_1, hfz57_2, hfz57_3⟩ := bk4__ BK155.out
             obtain ⟨Ao58, co58, eo58⟩ := Kd.R_slice HO_3.out
             subst eo58
             have p162 : 0 ≤ (((rd_T91 l0_4 x5_1).f1) : Int) := of_decide_eq_true (by first | (with_reducible assumption) | assumption)
             have q162 : ((rd_T91 l0_4 x5_1).f1) < (x3_1.length : Int) := of_decide_eq_true (by first | (with_reducible assumption) | assumption)
             obtain ⟨ad162, e162, hx162_0⟩ := Kd.at_bool (Kd.R_reads' HO_3.out).2.2 ((rd_T91 l0_4 x5_1).f1) p162 q162
             (try rw [← Nbq54.out] at hx162_0)
             cases e162
             replace p162 := eq_true p162
             replace q162 := eq_true q162
             go_wp2
             go_ret
             exact ⟨ee__, bel__⟩
            ·replace c55 := Bool.eq_false_iff.mpr c55
             subst c55
             have H1 : (spec_l4ThingsOk.l0 kj9 (x3_1.set (((rd_T91 l0_4 x5_1).f1) : Int).toNat true) x4_1 (wrap64 (x5_1 + 1)) a0_0 a0_1 a0_2 a0_3 l0_4 l0_5 l0_6) = some r := by rw [if_neg (show ¬ (false = true) by decide)] at H; exact H
             clear H
             have H := H1
             clear H1
             obtain ⟨y163, hy163⟩ : ∃ y_ : List Bool, y_ = (x3_1.set (((rd_T91 l0_4 x5_1).f1) : Int).toNat true) := ⟨_, rfl⟩
             replace H : (spec_l4ThingsOk.l0 kj9 y163 x4_1 (wrap64 (x5_1 + 1)) a0_0 a0_1 a0_2 a0_3 l0_4 l0_5 l0_6) = some r := by first | (rw [hy163]; with_reducible exact H) | (have H2_ := (Option.bind_some _ _).symm.trans H; rw [hy163]; with_reducible exact H2_) | (have H2_ := (Option.bind_some _ _).symm.trans H; with_reducible exact H2_) | with_reducible exact H | (rw [hy163]; exact H) | exact H
             have Ny163 := Aside0.mk hy163
             clear hy163
             have H' := Aside0.mk H
             clear H
             have hnb60 := NB155_147.out
             have hnc60 := NB147_155.out
             obtain ⟨hcz61_0, hcz61_1, hcz61_2, hcz61_3, hfz61_0, hfz61_1, hfz61_2, hfz61_3⟩ := bk4__ BK155.out
             obtain ⟨Ao62, co62, eo62⟩ := Kd.R_slice HO_3.out
             subst eo62
             have p162 : 0 ≤ (((rd_T91 l0_4 x5_1).f1) : Int) := of_decide_eq_true (by first | (with_reducible assumption) | assumption)
             have q162 : ((rd_T91 l0_4 x5_1).f1) < (x3_1.length : Int) := of_decide_eq_true (by first | (with_reducible assumption) | assumption)
             obtain ⟨ad162, e162, hx162_0⟩ := Kd.at_bool (Kd.R_reads' HO_3.out).2.2 ((rd_T91 l0_4 x5_1).f1) p162 q162
             (try rw [← Nbq54.out] at hx162_0)
             cases e162
             replace p162 := eq_true p162
             replace q162 := eq_true q162
             have p59 : 0 ≤ (((rd_T91 l0_4 x5_1).f1) : Int) := of_decide_eq_true (by first | (with_reducible assumption) | assumption)
             have q59 : (((rd_T91 l0_4 x5_1).f1) : Int) < ((x3_1.length : Int) : Int) := of_decide_eq_true (by first | (with_reducible assumption) | assumption)
             obtain ⟨go59, co59, eo59, gb59, gl59, cl59, HG59⟩ := Kd.R_form HO_3.out (by omega)
             (first | cases eo59 | (injection eo59 with ea_ en_ ec_; (first | subst ea_ | (injection ea_ with ea_; subst ea_)); subst ec_; clear en_))
             have GB59 := Aside0.mk gb59
             have GG59 := Aside0.mk HG59
             clear gb59 gl59 HG59
             (first | simp only [add_plain] at hx162_0 | skip)
             obtain ⟨hx59_0, hf59_0⟩ := Kd.R_celln false HO_3.out (((rd_T91 l0_4 x5_1).f1) : Int) p59 q59
             replace p59 := eq_true p59
             replace q59 := eq_true q59
             have HP63 := Kd.R_putg HO_3.out (((rd_T91 l0_4 x5_1).f1) : Int) true
             go_wp2_with (first | ((with_reducible refine gate_store (t := 4) (p := 79) rfl ?_); refine store_event (t := 4) (p := 79) (v := ?vo_w64) (w1 := (wc.setCell ⟨go59, (((rd_T91 l0_4 x5_1).f1) : Int).toNat, none⟩ (.bool true))) ?hg ?ho ?hn ?hr ?_; (case ho => rfl); (case hg => rfl); (case hn => rfl); (case hr => first | (go_simp; done) | (go_simp; rfl)); intro w64 hw; have hg : wc.grownBy w64 (some go59) := (by rw [hw]; exact HP63.2); have hp_ : Kd.R Kd.bool 4 w64 w.heap.size (fun _ => True) (.slice (some ⟨go59, 0, none⟩) x3_1.length co62) y163 := (by rw [hw, Ny163.out]; exact HP63.1); clear HP63; replace HO_4 := am__ (Kd.R_over' (v := (.slice (some ⟨go59, 0, none⟩) x3_1.length co62)) (rr__ HO_4.out) (Kd.R_typed HO_3.out) (by decide) hg); replace BK147 := am__ (bgr__ BK147.out hg (Kd.R_ne HO_3.out BK147.out (by decide))); replace BK155 := am__ (bgr__ BK155.out hg (Kd.R_ne HO_3.out BK155.out (by decide))); replace HO_3 := am__ (hp_); replace HB := am__ ((by rw [hw]; exact below_set (HB.out) GB59.out : Below w.heap.size w w64)); clear hg hw hp_))
             go_roundg kj9
             case measure => have := HK1.out; have := HJ9.out; omega
             case rel => exact ⟨(y163), (x4_1), (wrap64 (x5_1 + 1)), (rf__), H', ⟨by have := HK1.out; have := HJ9.out; omega⟩, ⟨rr__ HO_3.out⟩, ⟨rr__ HO_4.out⟩, ⟨blk__ BK147.out⟩, ⟨bel__⟩⟩
           ·rw [if_neg c53] at H
            exact absurd H (by simp)
          ·rw [if_neg c52] at H
           exact absurd H (by simp)
         ·as_aux_lemma =>
          rw [if_neg c51] at H
          have c51b0 := decide_eq_false c51
          clear c51
          have H' := Aside0.mk H
          clear H
          have hnb65 := NB155_147.out
          have hnc65 := NB147_155.out
          obtain ⟨hcz66_0, hcz66_1, hcz66_2, hcz66_3, hfz66_0, hfz66_1, hfz66_2, hfz66_3⟩ := bk4__ BK155.out
          go_wp2
          go_loopg [7] kj9 (fun kq v7 w' => ∃ (x7_3 : Int), v7 = .int .i64 x7_3 ∧ Aside0 (spec_l4ThingsOk.l1 kq x3_1 x4_1 x5_1 x7_3 a0_0 a0_1 a0_2 a0_3 l0_4 l0_5 l0_6 ((rd_T91 l0_4 x5_1).f0) ((rd_T91 l0_4 x5_1).f1) ((rd_T91 l0_4 x5_1).f2.f0) ((rd_T91 l0_4 x5_1).f2.f1) = some r) ∧ Aside0 (kq ≤ kj9) ∧ Aside0 (Kd.R Kd.bool 4 w' w.heap.size (fun _ => True) v149 x3_1) ∧ Aside0 (Kd.R (Kd.int .i64) 3 w' w.heap.size (fun _ => True) u4 x4_1) ∧ Aside0 (w'.heap[gb147]? = some (.cells #[.int .i64 a0_0, .int .i64 a0_1, .int .i64 a0_2, .int .i64 a0_3, (.slice (some ad154) l0_4.length c0_4), (.slice A0_5 l0_5.length c0_5), (.slice A0_6 l0_6.length c0_6)] 33 (0, 0))) ∧ Aside0 (w'.heap[gb155]? = some (.cells #[.string ((rd_T91 l0_4 x5_1).f0), .int .i64 ((rd_T91 l0_4 x5_1).f1), .string ((rd_T91 l0_4 x5_1).f2.f0), (.slice A154_3 ((rd_T91 l0_4 x5_1).f2.f1).length c154_3)] 91 (0, 0))) ∧ Aside0 (Below w.heap.size w w'))
          case atStart => exact ⟨(0), (rf__), H', ⟨Nat.le_refl _⟩, ⟨rr__ HO_3.out⟩, ⟨rr__ HO_4.out⟩, ⟨blk__ BK147.out⟩, ⟨blk__ BK155.out⟩, ⟨bel__⟩⟩
          case round =>
           as_aux_lemma =>
           clear H'
           try clear c1
           try clear p1
           try clear q1
           try clear hx1
           try clear p2
           try clear c3
           try clear c5
           try clear p5
           try clear q5
           try clear hx5
           try clear hf5
           try clear c6
           try clear p6
           try clear c8
           try clear c15
           try clear c16
           try clear p16
           try clear q16
           try clear hx16
           try clear c33
           try clear c34
           try clear c50
           try clear c51
           try clear c51b0
           try clear c52
           try clear c52b0
           try clear c53
           try clear c53b0
           try clear q54
           try clear c55
           try clear c56
           try clear p59
           try clear q59
           try clear hx59
           try clear hf59
           try clear c60
           try clear p64
           try clear c65
           try clear hcz57_0 hcz57_1 hcz57_2 hcz57_3 hfz57_0 hfz57_1 hfz57_2 hfz57_3
           try clear hcz61_0 hcz61_1 hcz61_2 hcz61_3 hfz61_0 hfz61_1 hfz61_2 hfz61_3
           try clear hcz66_0 hcz66_1 hcz66_2 hcz66_3 hfz66_0 hfz66_1 hfz66_2 hfz66_3
           try clear hx162_0
           try clear hx59_0
           try clear p162
           try clear p2
           try clear p59
           try clear q162
           try clear q59
           obtain ⟨x7_3, rfl, HA, HK3, HO_3, HO_4, BK147, BK155, HB⟩ := hrel
           cases gk with
           | zero => exact absurd HA.out (by simp [spec_l4ThingsOk.l1])
           | succ k3 =>
            have H := HA.out
            clear HA
            simp only [spec_l4ThingsOk.l1] at H
            by_cases c67 : x7_3 < (x4_1.length : Int)
            ·as_aux_lemma =>
             rw [if_pos c67] at H
             have c67b0 := decide_eq_true c67
             clear c67
             by_cases c68 : 0 ≤ x7_3
             ·as_aux_lemma =>
              rw [if_pos c68] at H
              have c68b0 := decide_eq_true c68
              clear c68
              by_cases c69 : (rd x4_1 x7_3) = ((rd_T91 l0_4 x5_1).f1)
              ·as_aux_lemma =>
               rw [if_pos c69] at H
               have c69b0 : ((rd x4_1 x7_3) == ((rd_T91 l0_4 x5_1).f1)) = true := beq_iff_eq.mpr c69
               have c69b1 : ((rd x4_1 x7_3) != ((rd_T91 l0_4 x5_1).f1)) = false := bne_eq_false_iff_eq.mpr c69
               clear c69
               obtain rfl := Option.some.inj H
               obtain ⟨Ao70, co70, eo70⟩ := Kd.R_slice HO_4.out
               subst eo70
               try go_wp2
               replace HO_3 := am__ (Kd.R_drew HO_3.out)
               replace HO_4 := am__ (Kd.R_drew HO_4.out)
               replace BK147 := am__ (blk_drew BK147.out)
               replace BK155 := am__ (blk_drew BK155.out)
               replace HB := am__ (below_drew1 HB.out)
               have p164 : 0 ≤ (x7_3 : Int) := of_decide_eq_true (by first | (with_reducible assumption) | assumption)
               have q164 : x7_3 < (x4_1.length : Int) := of_decide_eq_true (by first | (with_reducible assumption) | assumption)
               obtain ⟨ad164, e164, hx164_0⟩ := Kd.at_int (Kd.R_reads' HO_4.out).2.2 x7_3 p164 q164
               cases e164
               replace p164 := eq_true p164
               replace q164 := eq_true q164
               refine st__ 7 (c4a__ BK155.out (cxe__ hx164_0)) fun hHeld => ?_
               generalize wr.drew = w71 at HO_3 HO_4 BK147 BK155 HB hx164_0 hHeld ⊢
               refine pure_ (i := 0) (N := some 86) (v := ?_) (a' := ?_) (mk__ 7 1) rfl rfl (by kernel_rfl) (fun _ _ _ h => h) (Or.inl ⟨by rfl, ?_⟩) ?_ ?_
               rotate_left
               ·intro w'
                go_simp
                with_reducible rfl
               rotate_left
               ·simp only [Act.put, List.setIfInBounds_toArray, List.set_cons_zero, List.set_cons_succ, i64_w, i32_w]
                rfl
               refine pure_ (i := 1) (N := some 87) (v := ?_) (a' := ?_) (mk__ 7 3) rfl rfl (by kernel_rfl) (fun _ _ _ h => h) (Or.inl ⟨by rfl, ?_⟩) ?_ ?_
               rotate_left
               ·intro w'
                go_simp
                with_reducible rfl
               rotate_left
               ·simp only [Act.put, List.setIfInBounds_toArray, List.set_cons_zero, List.set_cons_succ, i64_w, i32_w]
                rfl
               refine pure_ (i := 2) (N := some 88) (v := ?_) (a' := ?_) (mk__ 7 7) rfl rfl (by kernel_rfl) (fun _ _ _ h => h) (Or.inl ⟨by rfl, ?_⟩) ?_ ?_
               rotate_left
               ·intro w'
                go_simp
                with_reducible rfl
               rotate_left
               ·simp only [Act.put, List.setIfInBounds_toArray, List.set_cons_zero, List.set_cons_succ, i64_w, i32_w]
                rfl
               refine pure_ (i := 4) (N := some 90) (v := ?_) (a' := ?_) (mk__ 7 23) rfl rfl (by kernel_rfl) (fun _ _ _ h => h) (Or.inl ⟨by rfl, ?_⟩) ?_ ?_
               rotate_left
               ·intro w'
                go_simp
                with_reducible rfl
               rotate_left
               ·simp only [Act.put, List.setIfInBounds_toArray, List.set_cons_zero, List.set_cons_succ, i64_w, i32_w]
                rfl
               refine take_ (i := 3) (N := some 89) (v := ?_) (a' := ?_) (mk__ 7 31) rfl rfl (by kernel_rfl) (fun _ _ _ h => h) (Or.inl ⟨by rfl, ?_⟩) hHeld ?_ ?_
               rotate_left
               ·rintro w' ⟨s0, s1, s2, s3, s4⟩
                go_simp
                with_reducible rfl
               rotate_left
               ·simp only [Act.put, List.setIfInBounds_toArray, List.set_cons_zero, List.set_cons_succ, i64_w, i32_w]
                rfl
               refine take_ (i := 5) (N := some 91) (v := ?_) (a' := ?_) (mk__ 7 63) rfl rfl (by kernel_rfl) (fun _ _ _ h => h) (Or.inl ⟨by rfl, ?_⟩) hHeld ?_ ?_
               rotate_left
               ·rintro w' ⟨s0, s1, s2, s3, s4⟩
                go_simp
                with_reducible rfl
               rotate_left
               ·simp only [Act.put, List.setIfInBounds_toArray, List.set_cons_zero, List.set_cons_succ, i64_w, i32_w]
                rfl
               refine pure_ (i := 6) (N := some 92) (v := ?_) (a' := ?_) (mk__ 7 127) rfl rfl (by kernel_rfl) (fun _ _ _ h => h) (Or.inl ⟨by rfl, ?_⟩) ?_ ?_
               rotate_left
               ·intro w'
                go_simp
                with_reducible rfl
               rotate_left
               ·simp only [Act.put, List.setIfInBounds_toArray, List.set_cons_zero, List.set_cons_succ, i64_w, i32_w]
                rfl
               refine done_ (by kernel_rfl) ?_
               try go_wp2
               go_ret
               exact ⟨ee__, bel__⟩
              ·as_aux_lemma =>
               rw [if_neg c69] at H
               have c69b0 : ((rd x4_1 x7_3) == ((rd_T91 l0_4 x5_1).f1)) = false := beq_eq_false_iff_ne.mpr c69
               have c69b1 : ((rd x4_1 x7_3) != ((rd_T91 l0_4 x5_1).f1)) = true := bne_iff_ne.mpr c69
               have H' := Aside0.mk H
               clear H
               obtain ⟨Ao72, co72, eo72⟩ := Kd.R_slice HO_4.out
               subst eo72
               try go_wp2
               replace HO_3 := am__ (Kd.R_drew HO_3.out)
               replace HO_4 := am__ (Kd.R_drew HO_4.out)
               replace BK147 := am__ (blk_drew BK147.out)
               replace BK155 := am__ (blk_drew BK155.out)
               replace HB := am__ (below_drew1 HB.out)
               have p164 : 0 ≤ (x7_3 : Int) := of_decide_eq_true (by first | (with_reducible assumption) | assumption)
               have q164 : x7_3 < (x4_1.length : Int) := of_decide_eq_true (by first | (with_reducible assumption) | assumption)
               obtain ⟨ad164, e164, hx164_0⟩ := Kd.at_int (Kd.R_reads' HO_4.out).2.2 x7_3 p164 q164
               cases e164
               replace p164 := eq_true p164
               replace q164 := eq_true q164
               refine st__ 7 (c4a__ BK155.out (cxe__ hx164_0)) fun hHeld => ?_
               generalize wr.drew = w73 at HO_3 HO_4 BK147 BK155 HB hx164_0 hHeld ⊢
               refine pure_ (i := 0) (N := some 86) (v := ?_) (a' := ?_) (mk__ 7 1) rfl rfl (by kernel_rfl) (fun _ _ _ h => h) (Or.inl ⟨by rfl, ?_⟩) ?_ ?_
               rotate_left
               ·intro w'
                go_simp
                with_reducible rfl
               rotate_left
               ·simp only [Act.put, List.setIfInBounds_toArray, List.set_cons_zero, List.set_cons_succ, i64_w, i32_w]
                rfl
               refine pure_ (i := 1) (N := some 87) (v := ?_) (a' := ?_) (mk__ 7 3) rfl rfl (by kernel_rfl) (fun _ _ _ h => h) (Or.inl ⟨by rfl, ?_⟩) ?_ ?_
               rotate_left
               ·intro w'
                go_simp
                with_reducible rfl
               rotate_left
               ·simp only [Act.put, List.setIfInBounds_toArray, List.set_cons_zero, List.set_cons_succ, i64_w, i32_w]
                rfl
               refine pure_ (i := 2) (N := some 88) (v := ?_) (a' := ?_) (mk__ 7 7) rfl rfl (by kernel_rfl) (fun _ _ _ h => h) (Or.inl ⟨by rfl, ?_⟩) ?_ ?_
               rotate_left
               ·intro w'
                go_simp
                with_reducible rfl
               rotate_left
               ·simp only [Act.put, List.setIfInBounds_toArray, List.set_cons_zero, List.set_cons_succ, i64_w, i32_w]
                rfl
               refine pure_ (i := 4) (N := some 90) (v := ?_) (a' := ?_) (mk__ 7 23) rfl rfl (by kernel_rfl) (fun _ _ _ h => h) (Or.inl ⟨by rfl, ?_⟩) ?_ ?_
               rotate_left
               ·intro w'
                go_simp
                with_reducible rfl
               rotate_left
               ·simp only [Act.put, List.setIfInBounds_toArray, List.set_cons_zero, List.set_cons_succ, i64_w, i32_w]
                rfl
               refine take_ (i := 3) (N := some 89) (v := ?_) (a' := ?_) (mk__ 7 31) rfl rfl (by kernel_rfl) (fun _ _ _ h => h) (Or.inl ⟨by rfl, ?_⟩) hHeld ?_ ?_
               rotate_left
               ·rintro w' ⟨s0, s1, s2, s3, s4⟩
                go_simp
                with_reducible rfl
               rotate_left
               ·simp only [Act.put, List.setIfInBounds_toArray, List.set_cons_zero, List.set_cons_succ, i64_w, i32_w]
                rfl
               refine take_ (i := 5) (N := some 91) (v := ?_) (a' := ?_) (mk__ 7 63) rfl rfl (by kernel_rfl) (fun _ _ _ h => h) (Or.inl ⟨by rfl, ?_⟩) hHeld ?_ ?_
               rotate_left
               ·rintro w' ⟨s0, s1, s2, s3, s4⟩
                go_simp
                with_reducible rfl
               rotate_left
               ·simp only [Act.put, List.setIfInBounds_toArray, List.set_cons_zero, List.set_cons_succ, i64_w, i32_w]
                rfl
               refine pure_ (i := 6) (N := some 92) (v := ?_) (a' := ?_) (mk__ 7 127) rfl rfl (by kernel_rfl) (fun _ _ _ h => h) (Or.inl ⟨by rfl, ?_⟩) ?_ ?_
               rotate_left
               ·intro w'
                go_simp
                with_reducible rfl
               rotate_left
               ·simp only [Act.put, List.setIfInBounds_toArray, List.set_cons_zero, List.set_cons_succ, i64_w, i32_w]
                rfl
               refine done_ (by kernel_rfl) ?_
               try go_wp2
               go_roundg k3
               case measure => have := HK1.out; have := HJ9.out; have := HK3.out; omega
               case rel => exact ⟨(wrap64 (x7_3 + 1)), (rf__), H', ⟨by have := HK1.out; have := HJ9.out; have := HK3.out; omega⟩, ⟨rr__ HO_3.out⟩, ⟨rr__ HO_4.out⟩, ⟨blk__ BK147.out⟩, ⟨blk__ BK155.out⟩, ⟨bel__⟩⟩
             ·rw [if_neg c68] at H
              exact absurd H (by simp)
            ·rw [if_neg c67] at H
             have c67b0 := decide_eq_false c67
             clear c67
             by_cases c74 : x4_1.length < 17592186044416
             ·rw [if_pos c74] at H
              have LMc74 := Aside0.mk c74
              clear c74
              obtain ⟨y165, hy165⟩ : ∃ y_ : List Int, y_ = (x4_1 ++ [((rd_T91 l0_4 x5_1).f1)]) := ⟨_, rfl⟩
              replace H : (spec_l4ThingsOk.l0 k3 x3_1 y165 (wrap64 (x5_1 + 1)) a0_0 a0_1 a0_2 a0_3 l0_4 l0_5 l0_6) = some r := by first | (rw [hy165]; with_reducible exact H) | (have H2_ := (Option.bind_some _ _).symm.trans H; rw [hy165]; with_reducible exact H2_) | (have H2_ := (Option.bind_some _ _).symm.trans H; with_reducible exact H2_) | with_reducible exact H | (rw [hy165]; exact H) | exact H
              have Ny165 := Aside0.mk hy165
              clear hy165
              have H' := Aside0.mk H
              clear H
              obtain ⟨Ao75, co75, eo75⟩ := Kd.R_slice HO_4.out
              subst eo75
              have hnb76 := NB155_147.out
              have hnc76 := NB147_155.out
              obtain ⟨hcz77_0, hcz77_1, hcz77_2, hcz77_3, hfz77_0, hfz77_1, hfz77_2, hfz77_3⟩ := bk4__ BK155.out
              go_wp2_with (first | ((with_reducible refine gate_builtin (b := .append) (xs := #[.tmp 93, .tmp 96]) rfl ?_); at_builtin; refine Kd.R_append (Kd.int .i64) (w0 := w) w.heap.size rfl (.tmp 93) (.tmp 96) 136 3 (.int .i64 0) 8 rfl Try.underlying136 info3 rfl (by decide) (by omega) (.slice Ao75 x4_1.length co75) x4_1 ((rd_T91 l0_4 x5_1).f1) [.int .i64 ((rd_T91 l0_4 x5_1).f1)] (fun _ => True) (fun _ => False) rfl rfl ?aP (fun _ hk => hk.elim) ?aF ?aO ?aB ?aS ?aL ?_; (case aP => exact rfl); (case aB => exact (bel__)); (case aF => exact (fun _ _ => trivial)); (case aO => exact (rr__ HO_4.out)); (case aS => exact (below_size (bel__))); (case aL => have := LMc74.out; omega); intro v166 w78 ho hb hg hat; rw [← Ny165.out] at ho; have n0_ := am__ (Kd.R_over' (rr__ HO_3.out) (Kd.R_typed (rr__ HO_4.out)) (by decide) hg); have n1_ := am__ (bgr__ BK147.out hg (Kd.R_ne HO_4.out BK147.out (by decide))); have n2_ := am__ (bgr__ BK155.out hg (Kd.R_ne HO_4.out BK155.out (by decide))); have n3_ := am__ (hb); have n4_ := am__ (ho); clear HO_3; clear BK147; clear BK155; clear HB; clear HO_4; have HO_3 := n0_; have BK147 := n1_; have BK155 := n2_; have HB := n3_; have HO167 := n4_; clear n0_ n1_ n2_ n3_ n4_; clear ho hb hg hat))
              go_roundg k3
              case measure => have := HK1.out; have := HJ9.out; have := HK3.out; omega
              case rel => exact ⟨(x3_1), (y165), (wrap64 (x5_1 + 1)), (rf__), H', ⟨by have := HK1.out; have := HJ9.out; have := HK3.out; omega⟩, ⟨rr__ HO_3.out⟩, ⟨rr__ HO167.out⟩, ⟨blk__ BK147.out⟩, ⟨bel__⟩⟩
             ·rw [if_neg c74] at H
              exact absurd H (by simp)
     ·rw [if_neg c9] at H
      exact absurd H (by simp)
    ·as_aux_lemma =>
     rw [if_neg c8] at H
     have c8b0 := decide_eq_false c8
     clear c8
     have H' := Aside0.mk H
     clear H
     obtain ⟨hcz79_0, hcz79_1, hcz79_2, hcz79_3, hcz79_4, hcz79_5, hcz79_6, hfz79_0, hfz79_1, hfz79_2, hfz79_3, hfz79_4, hfz79_5, hfz79_6⟩ := bk7__ BK147.out
     go_wp2
     go_loopg [8] k1 (fun kq v8 w' => ∃ (x8_2 : Int), v8 = .int .i64 x8_2 ∧ Aside0 (spec_l4ThingsOk.l2 kq x8_2 a0_0 a0_1 a0_2 a0_3 l0_4 l0_5 l0_6 = some r) ∧ Aside0 (kq ≤ k1) ∧ Aside0 (w'.heap[gb147]? = some (.cells #[.int .i64 a0_0, .int .i64 a0_1, .int .i64 a0_2, .int .i64 a0_3, (.slice A0_4 l0_4.length c0_4), (.slice A0_5 l0_5.length c0_5), (.slice A0_6 l0_6.length c0_6)] 33 (0, 0))) ∧ Aside0 (Below w.heap.size w w'))
     case atStart => exact ⟨(0), (rf__), H', ⟨Nat.le_refl _⟩, ⟨blk__ BK147.out⟩, ⟨bel__⟩⟩
     case round =>
      as_aux_lemma =>
      clear H'
      try clear c1
      try clear p1
      try clear q1
      try clear hx1
      try clear p2
      try clear c3
      try clear c5
      try clear p5
      try clear q5
      try clear hx5
      try clear hf5
      try clear c6
      try clear p6
      try clear c7
      try clear c8
      try clear c8b0
      try clear c9
      try clear c15
      try clear c16
      try clear p16
      try clear q16
      try clear hx16
      try clear c33
      try clear c34
      try clear c50
      try clear c51
      try clear c51b0
      try clear c52
      try clear c52b0
      try clear c53
      try clear c53b0
      try clear q54
      try clear c55
      try clear c56
      try clear p59
      try clear q59
      try clear hx59
      try clear hf59
      try clear c60
      try clear p64
      try clear c65
      try clear c67
      try clear c67b0
      try clear c68
      try clear c68b0
      try clear c69
      try clear c69b0
      try clear c69b1
      try clear c74
      try clear c76
      try clear hcz57_0 hcz57_1 hcz57_2 hcz57_3 hfz57_0 hfz57_1 hfz57_2 hfz57_3
      try clear hcz61_0 hcz61_1 hcz61_2 hcz61_3 hfz61_0 hfz61_1 hfz61_2 hfz61_3
      try clear hcz66_0 hcz66_1 hcz66_2 hcz66_3 hfz66_0 hfz66_1 hfz66_2 hfz66_3
      try clear hcz77_0 hcz77_1 hcz77_2 hcz77_3 hfz77_0 hfz77_1 hfz77_2 hfz77_3
      try clear hcz79_0 hcz79_1 hcz79_2 hcz79_3 hcz79_4 hcz79_5 hcz79_6 hfz79_0 hfz79_1 hfz79_2 hfz79_3 hfz79_4 hfz79_5 hfz79_6
      try clear hx162_0
      try clear hx164_0
      try clear hx59_0
      try clear p1
      try clear p16
      try clear p162
      try clear p164
      try clear p2
      try clear p5
      try clear p59
      try clear p6
      try clear p64
      try clear q1
      try clear q16
      try clear q162
      try clear q164
      try clear q5
      try clear q54
      try clear q59
      obtain ⟨x8_2, rfl, HA, HK2, BK147, HB⟩ := hrel
      cases gk with
      | zero => exact absurd HA.out (by simp [spec_l4ThingsOk.l2])
      | succ k2 =>
       have H := HA.out
       clear HA
       simp only [spec_l4ThingsOk.l2] at H
       by_cases c80 : x8_2 < (l0_4.length : Int)
       ·as_aux_lemma =>
        rw [if_pos c80] at H
        have c80b0 := decide_eq_true c80
        clear c80
        have H' := Aside0.mk H
        clear H
        obtain ⟨hcz81_0, hcz81_1, hcz81_2, hcz81_3, hcz81_4, hcz81_5, hcz81_6, hfz81_0, hfz81_1, hfz81_2, hfz81_3, hfz81_4, hfz81_5, hfz81_6⟩ := bk7__ BK147.out
        go_wp2
        go_loopg [9] k2 (fun kq v9 w' => ∃ (x9_3 : Int), v9 = .int .i64 x9_3 ∧ Aside0 (spec_l4ThingsOk.l3 kq x8_2 x9_3 a0_0 a0_1 a0_2 a0_3 l0_4 l0_5 l0_6 = some r) ∧ Aside0 (kq ≤ k2) ∧ Aside0 (w'.heap[gb147]? = some (.cells #[.int .i64 a0_0, .int .i64 a0_1, .int .i64 a0_2, .int .i64 a0_3, (.slice A0_4 l0_4.length c0_4), (.slice A0_5 l0_5.length c0_5), (.slice A0_6 l0_6.length c0_6)] 33 (0, 0))) ∧ Aside0 (Below w.heap.size w w'))
        case atStart => exact ⟨(0), (rf__), H', ⟨Nat.le_refl _⟩, ⟨blk__ BK147.out⟩, ⟨bel__⟩⟩
        case round =>
         as_aux_lemma =>
         clear H'
         try clear c1
         try clear p1
         try clear q1
         try clear hx1
         try clear p2
         try clear c3
         try clear c5
         try clear p5
         try clear q5
         try clear hx5
         try clear hf5
         try clear c6
         try clear p6
         try clear c7
         try clear c8
         try clear c8b0
         try clear c9
         try clear c15
         try clear c16
         try clear p16
         try clear q16
         try clear hx16
         try clear c33
         try clear c34
         try clear c50
         try clear c51
         try clear c51b0
         try clear c52
         try clear c52b0
         try clear c53
         try clear c53b0
         try clear q54
         try clear c55
         try clear c56
         try clear p59
         try clear q59
         try clear hx59
         try clear hf59
         try clear c60
         try clear p64
         try clear c65
         try clear c67
         try clear c67b0
         try clear c68
         try clear c68b0
         try clear c69
         try clear c69b0
         try clear c69b1
         try clear c74
         try clear c76
         try clear c80
         try clear c80b0
         try clear hcz57_0 hcz57_1 hcz57_2 hcz57_3 hfz57_0 hfz57_1 hfz57_2 hfz57_3
         try clear hcz61_0 hcz61_1 hcz61_2 hcz61_3 hfz61_0 hfz61_1 hfz61_2 hfz61_3
         try clear hcz66_0 hcz66_1 hcz66_2 hcz66_3 hfz66_0 hfz66_1 hfz66_2 hfz66_3
         try clear hcz77_0 hcz77_1 hcz77_2 hcz77_3 hfz77_0 hfz77_1 hfz77_2 hfz77_3
         try clear hcz79_0 hcz79_1 hcz79_2 hcz79_3 hcz79_4 hcz79_5 hcz79_6 hfz79_0 hfz79_1 hfz79_2 hfz79_3 hfz79_4 hfz79_5 hfz79_6
         try clear hcz81_0 hcz81_1 hcz81_2 hcz81_3 hcz81_4 hcz81_5 hcz81_6 hfz81_0 hfz81_1 hfz81_2 hfz81_3 hfz81_4 hfz81_5 hfz81_6
         try clear hx162_0
         try clear hx164_0
         try clear hx59_0
         try clear p1
         try clear p16
         try clear p162
         try clear p164
         try clear p2
         try clear p5
         try clear p59
         try clear p6
         try clear p64
         try clear q1
         try clear q16
         try clear q162
         try clear q164
         try clear q5
         try clear q54
         try clear q59
         obtain ⟨x9_3, rfl, HA, HK3, BK147, HB⟩ := hrel
         cases gk with
         | zero => exact absurd HA.out (by simp [spec_l4ThingsOk.l3])
         | succ k3 =>
          have H := HA.out
          clear HA
          simp only [spec_l4ThingsOk.l3] at H
          by_cases c82 : 0 ≤ x8_2
          ·as_aux_lemma =>
           rw [if_pos c82] at H
           have c82b0 := decide_eq_true c82
           clear c82
           by_cases c83 : x8_2 < (l0_4.length : Int)
           ·as_aux_lemma =>
            rw [if_pos c83] at H
            have c83b0 := decide_eq_true c83
            clear c83
            by_cases c84 : x9_3 < (((rd_T91 l0_4 x8_2).f2.f1).length : Int)
            ·as_aux_lemma =>
             rw [if_pos c84] at H
             have c84b0 := decide_eq_true c84
             clear c84
             by_cases c85 : 0 ≤ x9_3
             ·as_aux_lemma =>
              rw [if_pos c85] at H
              have c85b0 := decide_eq_true c85
              clear c85
              replace H := Option.bind_eq_some_iff.mp H
              obtain ⟨t171, A860, H⟩ := H
              have A86 := Aside0.mk A860
              clear A860
              have HC87 := Aside0.mk H
              clear H
              obtain ⟨hcz88_0, hcz88_1, hcz88_2, hcz88_3, hcz88_4, hcz88_5, hcz88_6, hfz88_0, hfz88_1, hfz88_2, hfz88_3, hfz88_4, hfz88_5, hfz88_6⟩ := bk7__ BK147.out
              have p168 : 0 ≤ (x8_2 : Int) := of_decide_eq_true (by first | (with_reducible assumption) | assumption)
              have q168 : x8_2 < (l0_4.length : Int) := of_decide_eq_true (by first | (with_reducible assumption) | assumption)
              obtain ⟨ad168, A168_3, c168_3, e168, hx168_0, hx168_1, hx168_2, hx168_3, hl168_3, hi168_3⟩ := at_T91 HR0_4.out x8_2 p168 q168
              cases e168
              try replace hx168_0 := hb__ HB.out hx168_0
              try replace hx168_1 := hb__ HB.out hx168_1
              try replace hx168_2 := hb__ HB.out hx168_2
              try replace hx168_3 := hb__ HB.out hx168_3
              have HR168_3 := Aside0.mk hi168_3
              have HC168_3 := Aside0.mk hl168_3
              clear hi168_3 hl168_3
              replace p168 := eq_true p168
              replace q168 := eq_true q168
              try go_wp2
              replace BK147 := am__ (blk_drew BK147.out)
              replace HB := am__ (below_drew1 HB.out)
              have p169 : 0 ≤ (x8_2 : Int) := of_decide_eq_true (by first | (with_reducible assumption) | assumption)
              have q169 : x8_2 < (l0_4.length : Int) := of_decide_eq_true (by first | (with_reducible assumption) | assumption)
              obtain ⟨ad169, A169_3, c169_3, e169, hx169_0, hx169_1, hx169_2, hx169_3, hl169_3, hi169_3⟩ := at_T91 HR0_4.out x8_2 p169 q169
              have hw169_3 := hx169_3
              have hw169_2 := hx169_2
              have hw169_1 := hx169_1
              have hw169_0 := hx169_0
              obtain rfl : ad168 = ad169 := (by injection e169)
              try replace hx169_0 := hb__ HB.out hx169_0
              try replace hx169_1 := hb__ HB.out hx169_1
              try replace hx169_2 := hb__ HB.out hx169_2
              try replace hx169_3 := hb__ HB.out hx169_3
              have HR169_3 := Aside0.mk hi169_3
              have HC169_3 := Aside0.mk hl169_3
              clear hi169_3 hl169_3
              replace p169 := eq_true p169
              replace q169 := eq_true q169
              have p170 : 0 ≤ (x9_3 : Int) := of_decide_eq_true (by first | (with_reducible assumption) | assumption)
              have q170 : x9_3 < (((rd_T91 l0_4 x8_2).f2.f1).length : Int) := of_decide_eq_true (by first | (with_reducible assumption) | assumption)
              obtain ⟨ad170, e170, hx170_0⟩ := Kd.at_string HR169_3.out x9_3 p170 q170
              have hw170_0 := hx170_0
              cases e170
              try replace hx170_0 := hb__ HB.out hx170_0
              replace p170 := eq_true p170
              replace q170 := eq_true q170
              refine st__ 13 (c7a__ BK147.out (cha__ HB.out hw169_0 (cha__ HB.out hw169_1 (cha__ HB.out hw169_2 (cha__ HB.out hw169_3 (che__ HB.out hw170_0)))))) fun hHeld => ?_; refine with_tabW spec_l4ThingsOk.tab25 spec_l4ThingsOk.bits25 (fun HT_ HW_ => ?_)
              generalize wr.drew = w89 at BK147 HB HR169_3 hx169_0 hx169_1 hx169_2 hx169_3 hx170_0 hHeld ⊢
              refine v_ 1 ?_
              refine v_ 3 ?_
              refine v_ 8 ?_
              refine t_ 0 ?_
              refine t_ 2 ?_
              refine v_ 4 ?_
              refine v_ 5 ?_
              refine v_ 6 ?_
              refine t_ 7 ?_
              refine v_ 9 ?_
              refine t_ 10 ?_
              refine o_ 11 fun K hK => ?_
              refine gs__ Try.func49 #[.agg #[.int .i64 a0_0, .int .i64 a0_1, .int .i64 a0_2, .int .i64 a0_3, .slice (some ad168) l0_4.length c0_4, .slice A0_5 l0_5.length c0_5, .slice A0_6 l0_6.length c0_6], .string (rdOf ByteArray.empty ((rd_T91 l0_4 x8_2).f2.f1) x9_3)] ?_
              with_reducible refine (spec_l4Find.calls k3 a0_0 a0_1 a0_2 a0_3 _ _ l0_4 _ _ l0_5 _ _ l0_6 (rdOf ByteArray.empty ((rd_T91 l0_4 x8_2).f2.f1) x9_3) t171 _ ?side1 ?side2 ?side3 ?side4 ?side5 ?side6 A86.out).mono ?_
              (case side1 => repeat (first | exact (Kd.C_below HR0_4.out HB.out) | (with_reducible refine Kd.C_alloc ?_ _) | (with_reducible refine Kd.C_drewN ?_ _) | (with_reducible refine Kd.C_drew ?_)))
              (case side2 => exact HC0_4.out)
              (case side3 => repeat (first | exact (Kd.C_below HR0_5.out HB.out) | (with_reducible refine Kd.C_alloc ?_ _) | (with_reducible refine Kd.C_drewN ?_ _) | (with_reducible refine Kd.C_drew ?_)))
              (case side4 => exact HC0_5.out)
              (case side5 => repeat (first | exact (Kd.C_below HR0_6.out HB.out) | (with_reducible refine Kd.C_alloc ?_ _) | (with_reducible refine Kd.C_drewN ?_ _) | (with_reducible refine Kd.C_drew ?_)))
              (case side6 => exact HC0_6.out)
              rintro e w90 ⟨rfl, hb⟩
              refine ⟨_, rfl, ?_⟩
              replace BK147 := am__ (blb__ BK147.out hb)
              replace HB := am__ (below_step (bel__) hb)
              (try clear hb)
              (try clear hb2)
              (try clear hk)
              (try clear hi)
              refine hK.out _ _ ⟨bc__ BK147.out 0, bc__ BK147.out 1, bc__ BK147.out 2, bc__ BK147.out 3, bc__ BK147.out 4, bc__ BK147.out 5, bc__ BK147.out 6, (hd__ HB.out hw169_0), (hd__ HB.out hw169_1), (hd__ HB.out hw169_2), (hd__ HB.out hw169_3), (hd__ HB.out hw170_0)⟩ (fun hHeld => ?_)
              clear hK K
              refine na__ 128 ?_
              refine v_ 12 ?_
              refine done_ (done_of HT_.out (by kernel_rfl)) ?_
              go_upto_region 26 with (fail)
              go_cut [145] (fun v145 wc => ∃ (kq : Nat) (x145_86 : Bool), v145 = .bool x145_86 ∧ Aside0 (spec_l4ThingsOk.j5 kq x8_2 x9_3 x145_86 a0_0 a0_1 a0_2 a0_3 l0_4 l0_5 l0_6 = some r) ∧ Aside0 (kq ≤ k3) ∧ Aside0 (wc.heap[gb147]? = some (.cells #[.int .i64 a0_0, .int .i64 a0_1, .int .i64 a0_2, .int .i64 a0_3, (.slice (some ad168) l0_4.length c0_4), (.slice A0_5 l0_5.length c0_5), (.slice A0_6 l0_6.length c0_6)] 33 (0, 0))) ∧ Aside0 (Below w.heap.size w wc))
              case first =>
               as_aux_lemma =>
               have H := HC87.out
               clear HC87
               by_cases c91 : t171 < 0
               ·rw [if_pos c91] at H
                have c91b0 := decide_eq_true c91
                clear c91
                (first | rw [c91b0] | (simp only [i64_w, i32_w]; rw [c91b0]) | skip)
                have H' := Aside0.mk H
                clear H
                try go_wp2
                replace BK147 := am__ (blk_drew BK147.out)
                replace HB := am__ (below_drew1 HB.out)
                refine st__ 17 ctr__ fun hHeld => ?_; refine with_tabW spec_l4ThingsOk.tab26 spec_l4ThingsOk.bits26 (fun HT_ HW_ => ?_)
                generalize w90.drew = w92 at BK147 HB hHeld ⊢
                refine v_ 0 ?_
                refine v_ 1 ?_
                refine v_ 2 ?_
                refine u_ 3 ?_
                refine u_ 4 ?_
                refine u_ 5 ?_
                refine u_ 6 ?_
                refine u_ 7 ?_
                refine u_ 8 ?_
                refine u_ 9 ?_
                refine u_ 10 ?_
                refine u_ 11 ?_
                refine u_ 12 ?_
                refine u_ 13 ?_
                refine u_ 14 ?_
                refine u_ 15 ?_
                refine v_ 16 ?_
                refine done_ (done_of HT_.out (by kernel_rfl)) ?_
                try go_wp2
                go_meet
                case rel => exact ⟨_, (true), (rf__), H', ⟨by have := HK1.out; have := HK2.out; have := HK3.out; first | omega | exact Nat.le_refl _⟩, ⟨blk__ BK147.out⟩, ⟨bel__⟩⟩
               ·as_aux_lemma =>
                rw [if_neg c91] at H
                have c91b0 := decide_eq_false c91
                clear c91
                (first | rw [c91b0] | (simp only [i64_w, i32_w]; rw [c91b0]) | skip)
                by_cases c93 : 0 ≤ t171
                ·as_aux_lemma =>
                 rw [if_pos c93] at H
                 have c93b0 := decide_eq_true c93
                 clear c93
                 by_cases c94 : t171 < (l0_4.length : Int)
                 ·as_aux_lemma =>
                  rw [if_pos c94] at H
                  have c94b0 := decide_eq_true c94
                  clear c94
                  have H' := Aside0.mk H
                  clear H
                  try go_wp2
                  replace BK147 := am__ (blk_drew BK147.out)
                  replace HB := am__ (below_drew1 HB.out)
                  have p172 : 0 ≤ (t171 : Int) := of_decide_eq_true (by first | (with_reducible assumption) | assumption)
                  have q172 : t171 < (l0_4.length : Int) := of_decide_eq_true (by first | (with_reducible assumption) | assumption)
                  obtain ⟨ad172, A172_3, c172_3, e172, hx172_0, hx172_1, hx172_2, hx172_3, hl172_3, hi172_3⟩ := at_T91 HR0_4.out t171 p172 q172
                  have hw172_3 := hx172_3
                  have hw172_2 := hx172_2
                  have hw172_1 := hx172_1
                  have hw172_0 := hx172_0
                  obtain rfl : ad168 = ad172 := (by injection e172)
                  try replace hx172_0 := hb__ HB.out hx172_0
                  try replace hx172_1 := hb__ HB.out hx172_1
                  try replace hx172_2 := hb__ HB.out hx172_2
                  try replace hx172_3 := hb__ HB.out hx172_3
                  have HR172_3 := Aside0.mk hi172_3
                  have HC172_3 := Aside0.mk hl172_3
                  clear hi172_3 hl172_3
                  replace p172 := eq_true p172
                  replace q172 := eq_true q172
                  have p173 : 0 ≤ (x8_2 : Int) := of_decide_eq_true (by first | (with_reducible assumption) | assumption)
                  have q173 : x8_2 < (l0_4.length : Int) := of_decide_eq_true (by first | (with_reducible assumption) | assumption)
                  obtain ⟨ad173, A173_3, c173_3, e173, hx173_0, hx173_1, hx173_2, hx173_3, hl173_3, hi173_3⟩ := at_T91 HR0_4.out x8_2 p173 q173
                  have hw173_3 := hx173_3
                  have hw173_2 := hx173_2
                  have hw173_1 := hx173_1
                  have hw173_0 := hx173_0
                  obtain rfl : ad168 = ad173 := (by injection e173)
                  try replace hx173_0 := hb__ HB.out hx173_0
                  try replace hx173_1 := hb__ HB.out hx173_1
                  try replace hx173_2 := hb__ HB.out hx173_2
                  try replace hx173_3 := hb__ HB.out hx173_3
                  have HR173_3 := Aside0.mk hi173_3
                  have HC173_3 := Aside0.mk hl173_3
                  clear hi173_3 hl173_3
                  replace p173 := eq_true p173
                  replace q173 := eq_true q173
                  refine st__ 17 (c7a__ BK147.out (cha__ HB.out hw172_0 (cha__ HB.out hw172_1 (cha__ HB.out hw172_2 (cha__ HB.out hw172_3 (cha__ HB.out hw173_0 (cha__ HB.out hw173_1 (cha__ HB.out hw173_2 (che__ HB.out hw173_3))))))))) fun hHeld => ?_; refine with_tabW spec_l4ThingsOk.tab26 spec_l4ThingsOk.bits26 (fun HT_ HW_ => ?_)
                  generalize w90.drew = w95 at BK147 HB HR172_3 HR173_3 hx172_0 hx172_1 hx172_2 hx172_3 hx173_0 hx173_1 hx173_2 hx173_3 hHeld ⊢
                  refine v_ 0 ?_
                  refine v_ 1 ?_
                  refine v_ 2 ?_
                  refine v_ 3 ?_
                  refine v_ 5 ?_
                  refine v_ 9 ?_
                  refine v_ 11 ?_
                  refine t_ 4 ?_
                  refine v_ 6 ?_
                  refine v_ 7 ?_
                  refine t_ 8 ?_
                  refine t_ 10 ?_
                  refine v_ 12 ?_
                  refine v_ 13 ?_
                  refine t_ 14 ?_
                  refine v_ 15 ?_
                  refine v_ 16 ?_
                  refine done_ (done_of HT_.out (by kernel_rfl)) ?_
                  try go_wp2
                  go_meet
                  case rel => exact ⟨_, (decide (((rd_T91 l0_4 t171).f1) ≥ ((rd_T91 l0_4 x8_2).f1))), (rf__), H', ⟨by have := HK1.out; have := HK2.out; have := HK3.out; first | omega | exact Nat.le_refl _⟩, ⟨blk__ BK147.out⟩, ⟨bel__⟩⟩
                 ·rw [if_neg c94] at H
                  exact absurd H (by simp)
                ·rw [if_neg c93] at H
                 exact absurd H (by simp)
              case rest =>
               as_aux_lemma =>
               clear HC87
               try clear c1
               try clear p1
               try clear q1
               try clear hx1
               try clear p2
               try clear c4
               try clear p5
               try clear q5
               try clear hx5
               try clear p6
               try clear c8
               try clear c9
               try clear c16
               try clear p16
               try clear q16
               try clear hx16
               try clear c17
               try clear p17
               try clear q17
               try clear hx17
               try clear c49
               try clear q54
               try clear p59
               try clear q59
               try clear hx59
               try clear p64
               try clear c82
               try clear c82b0
               try clear c83
               try clear c83b0
               try clear c84
               try clear c84b0
               try clear c85
               try clear c85b0
               try clear c91
               try clear c91b0
               try clear c93
               try clear c93b0
               try clear c94
               try clear c94b0
               try clear hcz66_3 hfz66_0 hfz66_1 hfz66_2 hfz66_3
               try clear hcz77_0 hcz77_1 hcz77_2 hcz77_3 hfz77_0 hfz77_1 hfz77_2 hfz77_3
               try clear hcz79_0 hcz79_1 hcz79_2 hcz79_3 hcz79_4 hcz79_5 hcz79_6 hfz79_0 hfz79_1 hfz79_2 hfz79_3 hfz79_4 hfz79_5 hfz79_6
               try clear hcz81_0 hcz81_1 hcz81_2 hcz81_3 hcz81_4 hcz81_5 hcz81_6 hfz81_0 hfz81_1 hfz81_2 hfz81_3 hfz81_4 hfz81_5 hfz81_6
               try clear hcz88_0 hcz88_1 hcz88_2 hcz88_3 hcz88_4 hcz88_5 hcz88_6 hfz88_0 hfz88_1 hfz88_2 hfz88_3 hfz88_4 hfz88_5 hfz88_6
               try clear hfz57_0 hfz57_1 hfz57_2 hfz57_3
               try clear hfz61_0 hfz61_1 hfz61_2 hfz61_3
               try clear hx162_0
               try clear hx164_0
               try clear hx168_0
               try clear hx168_1
               try clear hx168_2
               try clear hx168_3
               try clear hx169_0
               try clear hx169_1
               try clear hx169_2
               try clear hx169_3
               try clear hx170_0
               try clear hx172_0
               try clear hx172_1
               try clear hx172_2
               try clear hx172_3
               try clear hx173_0
               try clear hx173_1
               try clear hx173_2
               try clear hx173_3
               try clear hx59_0
               try clear p1
               try clear p16
               try clear p162
               try clear p164
               try clear p168
               try clear p169
               try clear p170
               try clear p172
               try clear p173
               try clear p2
               try clear p5
               try clear p59
               try clear p6
               try clear p64
               try clear q1
               try clear q16
               try clear q162
               try clear q164
               try clear q168
               try clear q169
               try clear q170
               try clear q172
               try clear q173
               try clear q5
               try clear q54
               try clear q59
               obtain ⟨kq, x145_86, rfl, HA, HJ86, BK147, HB⟩ := hcut
               cases kq with
               | zero => exact absurd HA.out (by simp [spec_l4ThingsOk.j5])
               | succ kj86 =>
                have H := HA.out
                clear HA
                simp only [spec_l4ThingsOk.j5] at H
                by_cases c96 : x145_86 = true
                ·subst c96
                 rw [if_pos rfl] at H
                 obtain rfl := Option.some.inj H
                 go_wp2
                 go_ret
                 exact ⟨ee__, bel__⟩
                ·replace c96 := Bool.eq_false_iff.mpr c96
                 subst c96
                 have H1 : (spec_l4ThingsOk.l3 kj86 x8_2 (wrap64 (x9_3 + 1)) a0_0 a0_1 a0_2 a0_3 l0_4 l0_5 l0_6) = some r := by rw [if_neg (show ¬ (false = true) by decide)] at H; exact H
                 clear H
                 have H := H1
                 clear H1
                 have H' := Aside0.mk H
                 clear H
                 go_wp2
                 go_roundg kj86
                 case measure => have := HK1.out; have := HK2.out; have := HK3.out; have := HJ86.out; omega
                 case rel => exact ⟨(wrap64 (x9_3 + 1)), (rf__), H', ⟨by have := HK1.out; have := HK2.out; have := HK3.out; have := HJ86.out; omega⟩, ⟨blk__ BK147.out⟩, ⟨bel__⟩⟩
             ·rw [if_neg c85] at H
              exact absurd H (by simp)
            ·rw [if_neg c84] at H
             have c84b0 := decide_eq_false c84
             clear c84
             have H' := Aside0.mk H
             clear H
             obtain ⟨hcz97_0, hcz97_1, hcz97_2, hcz97_3, hcz97_4, hcz97_5, hcz97_6, hfz97_0, hfz97_1, hfz97_2, hfz97_3, hfz97_4, hfz97_5, hfz97_6⟩ := bk7__ BK147.out
             have p168 : 0 ≤ (x8_2 : Int) := of_decide_eq_true (by first | (with_reducible assumption) | assumption)
             have q168 : x8_2 < (l0_4.length : Int) := of_decide_eq_true (by first | (with_reducible assumption) | assumption)
             obtain ⟨ad168, A168_3, c168_3, e168, hx168_0, hx168_1, hx168_2, hx168_3, hl168_3, hi168_3⟩ := at_T91 HR0_4.out x8_2 p168 q168
             cases e168
             try replace hx168_0 := hb__ HB.out hx168_0
             try replace hx168_1 := hb__ HB.out hx168_1
             try replace hx168_2 := hb__ HB.out hx168_2
             try replace hx168_3 := hb__ HB.out hx168_3
             have HR168_3 := Aside0.mk hi168_3
             have HC168_3 := Aside0.mk hl168_3
             clear hi168_3 hl168_3
             replace p168 := eq_true p168
             replace q168 := eq_true q168
             go_wp2
             go_roundg k3
             case measure => have := HK1.out; have := HK2.out; have := HK3.out; omega
             case rel => exact ⟨(wrap64 (x8_2 + 1)), (rf__), H', ⟨by have := HK1.out; have := HK2.out; have := HK3.out; omega⟩, ⟨blk__ BK147.out⟩, ⟨bel__⟩⟩
           ·rw [if_neg c83] at H
            exact absurd H (by simp)
          ·rw [if_neg c82] at H
           exact absurd H (by simp)
       ·rw [if_neg c80] at H
        have c80b0 := decide_eq_false c80
        clear c80
        obtain rfl := Option.some.inj H
        obtain ⟨hcz98_0, hcz98_1, hcz98_2, hcz98_3, hcz98_4, hcz98_5, hcz98_6, hfz98_0, hfz98_1, hfz98_2, hfz98_3, hfz98_4, hfz98_5, hfz98_6⟩ := bk7__ BK147.out
        go_wp2
        go_ret
        exact ⟨ee__, bel__⟩
 ·rw [if_neg c2] at H
  exact absurd H (by simp)
end Go.Proofs.Ytcijlemojododaa.P
