/- Part 3 of the proof of FnExactValidRound: what it leans on. -/
import Derived.Test.YtcijlemojododaaM1
import Derived.Test.YtcijlemojododaaM2

namespace Go.Proofs.Ytcijlemojododaa.P
open Go.RowKit Go.Proofs.YtcijlemojododaaW.PrintWords Go.Proofs.YtcijlemojododaaW.PrintLast Go.Proofs.YtcijlemojododaaW.PrintMore
attribute [local go_sem] max2_int min2_int max_two min_two max_three min_three max_four min_four   -- for this text's walks alone
set_option linter.unusedVariables false
set_option linter.unusedSimpArgs false
/-! ### spec_l4Range: function 46 -/
def spec_l4Range.f (a0 : Int) (a1 : Int) (a2 : Int) : Option (Bool) := if a0 ≥ a1 then (some (decide (a0 ≤ a2))) else (some false)
set_option maxHeartbeats 8000000 in
set_option maxRecDepth 100000 in
theorem spec_l4Range.calls (a0 : Int) (a1 : Int) (a2 : Int) (r : Bool) (w : World) (h : spec_l4Range.f a0 a1 a2 = some r) :
  Calls Try.prog 46 #[.int .i64 a0, .int .i64 a1, .int .i64 a2] w fun e w' => e = .returned (.bool r) ∧ Drawn0 w w' := by
 have H : (if a0 ≥ a1 then (some (decide (a0 ≤ a2))) else (some false)) = some r := h
 clear h
 by_cases c4 : a0 ≥ a1
 ·rw [if_pos c4] at H
  have c4b0 : decide (a1 ≤ a0) = true := decide_eq_true c4
  clear c4
  obtain rfl := Option.some.inj H
  go_enter Try.func46, Try.ntmps46
  go_wp2
  go_ret
  exact ⟨by first | rfl | (simp; done) | (simp [*]; done), by repeat (first | exact Drawn0.refl _ | apply Drawn0.step)⟩
 ·rw [if_neg c4] at H
  have c4b0 : decide (a1 ≤ a0) = false := decide_eq_false c4
  clear c4
  obtain rfl := Option.some.inj H
  go_enter Try.func46, Try.ntmps46
  go_wp2
  go_ret
  exact ⟨by first | rfl | (simp; done) | (simp [*]; done), by repeat (first | exact Drawn0.refl _ | apply Drawn0.step)⟩
end Go.Proofs.Ytcijlemojododaa.P

namespace Go.Proofs.Ytcijlemojododaa.P
open Go.RowKit Go.Proofs.YtcijlemojododaaW.PrintWords Go.Proofs.YtcijlemojododaaW.PrintLast Go.Proofs.YtcijlemojododaaW.PrintMore
attribute [local go_sem] max2_int min2_int max_two min_two max_three min_three max_four min_four   -- for this text's walks alone
set_option linter.unusedVariables false
set_option linter.unusedSimpArgs false
/-! ### spec_l4Find: function 49 -/
def spec_l4Find.l0 : Nat → ByteArray → Int → Int → Int → Int → Int → List (S91) → List (S82) → List (S85) → Option (Int)
 | 0, _, _, _, _, _, _, _, _, _ => none
 | k + 1, x1, x5, x146000, x146001, x146002, x146003, x146004, x146005, x146006 => if x5 < (x146004.length : Int) then (if 0 ≤ x5 then (if ((rd_T91 x146004 x5).f0).toList = x1.toList then (some x5) else (spec_l4Find.l0 k x1 (wrap64 (x5 + 1)) x146000 x146001 x146002 x146003 x146004 x146005 x146006)) else (none)) else (some (-1))
def spec_l4Find.f (k : Nat) (a0_0 : Int) (a0_1 : Int) (a0_2 : Int) (a0_3 : Int) (l0_4 : List (S91)) (l0_5 : List (S82)) (l0_6 : List (S85)) (a1 : ByteArray) : Option (Int) := spec_l4Find.l0 k a1 0 a0_0 a0_1 a0_2 a0_3 l0_4 l0_5 l0_6
set_option maxHeartbeats 8000000 in
set_option maxRecDepth 100000 in
theorem spec_l4Find.calls (k : Nat) (a0_0 : Int) (a0_1 : Int) (a0_2 : Int) (a0_3 : Int) (A0_4 : Option Addr) (c0_4 : Nat) (l0_4 : List (S91)) (A0_5 : Option Addr) (c0_5 : Nat) (l0_5 : List (S82)) (A0_6 : Option Addr) (c0_6 : Nat) (l0_6 : List (S85)) (a1 : ByteArray) (r : Int) (w : World) (hr0_4 : Kd.C k91 w A0_4 l0_4.length l0_4) (hc0_4 : l0_4.length ≤ c0_4) (hr0_5 : Kd.C k82 w A0_5 l0_5.length l0_5) (hc0_5 : l0_5.length ≤ c0_5) (hr0_6 : Kd.C k85 w A0_6 l0_6.length l0_6) (hc0_6 : l0_6.length ≤ c0_6) (h : spec_l4Find.f k a0_0 a0_1 a0_2 a0_3 l0_4 l0_5 l0_6 a1 = some r) :
  Calls Try.prog 49 #[.agg #[.int .i64 a0_0, .int .i64 a0_1, .int .i64 a0_2, .int .i64 a0_3, .slice A0_4 l0_4.length c0_4, .slice A0_5 l0_5.length c0_5, .slice A0_6 l0_6.length c0_6], .string a1] w fun e w' => e = .returned (.int .i64 r) ∧ Below w.heap.size w w' := by
 have hu33 := Try.underlying33
 have HR0_4 := Aside0.mk hr0_4
 have HC0_4 := Aside0.mk hc0_4
 clear hr0_4 hc0_4
 have HR0_5 := Aside0.mk hr0_5
 have HC0_5 := Aside0.mk hc0_5
 clear hr0_5 hc0_5
 have HR0_6 := Aside0.mk hr0_6
 have HC0_6 := Aside0.mk hc0_6
 clear hr0_6 hc0_6
 have HB := am__ (Below.refl w.heap.size w)
 have H : (spec_l4Find.l0 k a1 0 a0_0 a0_1 a0_2 a0_3 l0_4 l0_5 l0_6) = some r := h
 clear h
 have H' := Aside0.mk H
 clear H
 go_enter Try.func49, Try.ntmps49
 go_wp2_with (first | ((with_reducible refine gate_dst (N := 2) rfl ?_); refine be__ 2 #[.int .i64 a0_0, .int .i64 a0_1, .int .i64 a0_2, .int .i64 a0_3, .slice A0_4 l0_4.length c0_4, .slice A0_5 l0_5.length c0_5, .slice A0_6 l0_6.length c0_6] 33 ?_; intro gb145 hg w3 hbox hb; have BK145 := am__ (hbox); have GW145 := am__ ((bsz__ hg bel__ : w.heap.size ≤ gb145)); have GE145 := am__ ((bsz__ hg bel__ : w.heap.size ≤ gb145)); replace HB := am__ (below_step (bel__) hb); clear hb hbox hg))
 go_loopg [5] k (fun kq v5 w' => ∃ (x5_1 : Int), v5 = .int .i64 x5_1 ∧ Aside0 (spec_l4Find.l0 kq a1 x5_1 a0_0 a0_1 a0_2 a0_3 l0_4 l0_5 l0_6 = some r) ∧ Aside0 (kq ≤ k) ∧ Aside0 (w'.heap[gb145]? = some (.cells #[.int .i64 a0_0, .int .i64 a0_1, .int .i64 a0_2, .int .i64 a0_3, (.slice A0_4 l0_4.length c0_4), (.slice A0_5 l0_5.length c0_5), (.slice A0_6 l0_6.length c0_6)] 33 (0, 0))) ∧ Aside0 (Below w.heap.size w w'))
 case atStart => exact ⟨(0), (rf__), H', ⟨Nat.le_refl _⟩, ⟨blk__ BK145.out⟩, ⟨bel__⟩⟩
 case round =>
  clear H'
  try clear p2
  obtain ⟨x5_1, rfl, HA, HK1, BK145, HB⟩ := hrel
  cases gk with
  | zero => exact absurd HA.out (by simp [spec_l4Find.l0])
  | succ k1 =>
   have H := HA.out
   clear HA
   simp only [spec_l4Find.l0] at H
   by_cases c4 : x5_1 < (l0_4.length : Int)
   ·rw [if_pos c4] at H
    have c4b0 := decide_eq_true c4
    clear c4
    by_cases c5 : 0 ≤ x5_1
    ·rw [if_pos c5] at H
     have c5b0 := decide_eq_true c5
     clear c5
     by_cases c6 : ((rd_T91 l0_4 x5_1).f0).toList = a1.toList
     ·rw [if_pos c6] at H
      have c6b0 : (((rd_T91 l0_4 x5_1).f0).toList == a1.toList) = true := beq_iff_eq.mpr c6
      have c6b1 : (((rd_T91 l0_4 x5_1).f0).toList != a1.toList) = false := bne_eq_false_iff_eq.mpr c6
      clear c6
      obtain rfl := Option.some.inj H
      obtain ⟨hcz7_0, hcz7_1, hcz7_2, hcz7_3, hcz7_4, hcz7_5, hcz7_6, hfz7_0, hfz7_1, hfz7_2, hfz7_3, hfz7_4, hfz7_5, hfz7_6⟩ := bk7__ BK145.out
      have p146 : 0 ≤ (x5_1 : Int) := of_decide_eq_true (by first | (with_reducible assumption) | assumption)
      have q146 : x5_1 < (l0_4.length : Int) := of_decide_eq_true (by first | (with_reducible assumption) | assumption)
      obtain ⟨ad146, A146_3, c146_3, e146, hx146_0, hx146_1, hx146_2, hx146_3, hl146_3, hi146_3⟩ := at_T91 HR0_4.out x5_1 p146 q146
      cases e146
      try replace hx146_0 := hb__ HB.out hx146_0
      try replace hx146_1 := hb__ HB.out hx146_1
      try replace hx146_2 := hb__ HB.out hx146_2
      try replace hx146_3 := hb__ HB.out hx146_3
      have HR146_3 := Aside0.mk hi146_3
      have HC146_3 := Aside0.mk hl146_3
      clear hi146_3 hl146_3
      replace p146 := eq_true p146
      replace q146 := eq_true q146
      go_wp2
      go_ret
      exact ⟨ee__, bel__⟩
     ·rw [if_neg c6] at H
      have c6b0 : (((rd_T91 l0_4 x5_1).f0).toList == a1.toList) = false := beq_eq_false_iff_ne.mpr c6
      have c6b1 : (((rd_T91 l0_4 x5_1).f0).toList != a1.toList) = true := bne_iff_ne.mpr c6
      have H' := Aside0.mk H
      clear H
      obtain ⟨hcz8_0, hcz8_1, hcz8_2, hcz8_3, hcz8_4, hcz8_5, hcz8_6, hfz8_0, hfz8_1, hfz8_2, hfz8_3, hfz8_4, hfz8_5, hfz8_6⟩ := bk7__ BK145.out
      have p146 : 0 ≤ (x5_1 : Int) := of_decide_eq_true (by first | (with_reducible assumption) | assumption)
      have q146 : x5_1 < (l0_4.length : Int) := of_decide_eq_true (by first | (with_reducible assumption) | assumption)
      obtain ⟨ad146, A146_3, c146_3, e146, hx146_0, hx146_1, hx146_2, hx146_3, hl146_3, hi146_3⟩ := at_T91 HR0_4.out x5_1 p146 q146
      cases e146
      try replace hx146_0 := hb__ HB.out hx146_0
      try replace hx146_1 := hb__ HB.out hx146_1
      try replace hx146_2 := hb__ HB.out hx146_2
      try replace hx146_3 := hb__ HB.out hx146_3
      have HR146_3 := Aside0.mk hi146_3
      have HC146_3 := Aside0.mk hl146_3
      clear hi146_3 hl146_3
      replace p146 := eq_true p146
      replace q146 := eq_true q146
      go_wp2
      go_roundg k1
      case measure => have := HK1.out; omega
      case rel => exact ⟨(wrap64 (x5_1 + 1)), (rf__), H', ⟨by have := HK1.out; omega⟩, ⟨blk__ BK145.out⟩, ⟨bel__⟩⟩
    ·rw [if_neg c5] at H
     exact absurd H (by simp)
   ·rw [if_neg c4] at H
    have c4b0 := decide_eq_false c4
    clear c4
    obtain rfl := Option.some.inj H
    obtain ⟨hcz9_0, hcz9_1, hcz9_2, hcz9_3, hcz9_4, hcz9_5, hcz9_6, hfz9_0, hfz9_1, hfz9_2, hfz9_3, hfz9_4, hfz9_5, hfz9_6⟩ := bk7__ BK145.out
    go_wp2
    go_ret
    exact ⟨ee__, bel__⟩
end Go.Proofs.Ytcijlemojododaa.P

namespace Go.Proofs.Ytcijlemojododaa.P
open Go.RowKit Go.Proofs.YtcijlemojododaaW.PrintWords Go.Proofs.YtcijlemojododaaW.PrintLast Go.Proofs.YtcijlemojododaaW.PrintMore
attribute [local go_sem] max2_int min2_int max_two min_two max_three min_three max_four min_four   -- for this text's walks alone
set_option linter.unusedVariables false
set_option linter.unusedSimpArgs false
/-! ### spec_Sum: function 33 -/
mutual
def spec_Sum.l0 : Nat → ByteArray → Int → Int → Int → Option (ByteArray)
 | 0, _, _, _, _ => none
 | k + 1, x0, x1, x5, x6 => if x6 < (x0.size : Int) then (if 0 ≤ x6 then (spec_Sum.l0 k x0 x1 (IntKind.u64.wrap ((Go.bits .xor .u64 x5 (IntKind.u64.wrap (bt x0 x6))) * 1099511628211)) (wrap64 (x6 + 1))) else (none)) else (spec_Sum.l1 k x1 x5 (([] : List Int)) 0)
def spec_Sum.l1 : Nat → Int → Int → List Int → Int → Option (ByteArray)
 | 0, _, _, _, _ => none
 | k + 1, x1, x5, x7, x8 => if x8 < x1 then ((some (([(Int.tmod x5 256) % 256] : List Int) : List Int)).bind fun y122 => (if y122.length + x7.length < 140737488355328 then (spec_Sum.l1 k x1 (IntKind.u64.wrap (Int.tdiv x5 256)) (y122 ++ x7) (wrap64 (x8 + 1))) else (none))) else (some (strOfNums x7))
end
def spec_Sum.f (k : Nat) (a0 : ByteArray) (a1 : Int) : Option (ByteArray) := (spec_l1Width.f a1).bind fun t118 => (if t118 = true then (spec_Sum.l0 k a0 a1 14695981039346656037 0) else (some (⟨#[]⟩ : ByteArray)))
set_option maxHeartbeats 8000000 in
set_option maxRecDepth 100000 in
theorem spec_Sum.calls (k : Nat) (a0 : ByteArray) (a1 : Int) (r : ByteArray) (w : World) (h : spec_Sum.f k a0 a1 = some r) :
  Calls Try.prog 33 #[.string a0, .int .i64 a1] w fun e w' => e = .returned (.string r) ∧ Below w.heap.size w w' := by
 have HB := am__ (Below.refl w.heap.size w)
 have H : ((spec_l1Width.f a1).bind fun t118 => (if t118 = true then (spec_Sum.l0 k a0 a1 14695981039346656037 0) else (some (⟨#[]⟩ : ByteArray)))) = some r := h
 clear h
 replace H := Option.bind_eq_some_iff.mp H
 obtain ⟨t118, A30, H⟩ := H
 have A3 := Aside0.mk A30
 clear A30
 by_cases c4 : t118 = true
 ·subst c4
  rw [if_pos rfl] at H
  have H' := Aside0.mk H
  clear H
  go_enter Try.func33, Try.ntmps33
  go_wp2_with (first | ((with_reducible refine gate_callee (f := 45) rfl ?_); refine gl__ (some 10) Try.func45 #[.int .i64 a1] ?_; (with_reducible refine (spec_l1Width.calls a1 true _ A3.out).mono ?_); rintro e w' ⟨rfl, ⟨nd, rfl⟩⟩; refine ⟨_, rfl, ?_⟩))
  go_loopg [5, 6] k (fun kq v5 v6 w' => ∃ (x5_1 : Int) (x6_1 : Int), v5 = .int .u64 x5_1 ∧ v6 = .int .i64 x6_1 ∧ Aside0 (spec_Sum.l0 kq a0 a1 x5_1 x6_1 = some r) ∧ Aside0 (kq ≤ k) ∧ Aside0 (Below w.heap.size w w'))
  case atStart => exact ⟨(14695981039346656037), (0), (rf__), (rf__), H', ⟨Nat.le_refl _⟩, ⟨bel__⟩⟩
  case round =>
   clear H'
   try clear p2
   try clear c3
   try clear c4
   obtain ⟨x5_1, x6_1, rfl, rfl, HA, HK1, HB⟩ := hrel
   cases gk with
   | zero => exact absurd HA.out (by simp [spec_Sum.l0])
   | succ k1 =>
    have H := HA.out
    clear HA
    simp only [spec_Sum.l0] at H
    by_cases c5 : x6_1 < (a0.size : Int)
    ·rw [if_pos c5] at H
     have c5b0 := decide_eq_true c5
     clear c5
     by_cases c6 : 0 ≤ x6_1
     ·rw [if_pos c6] at H
      have c6b0 := decide_eq_true c6
      clear c6
      have H' := Aside0.mk H
      clear H
      have p7 : 0 ≤ (x6_1 : Int) := of_decide_eq_true (by first | (with_reducible assumption) | assumption)
      have q7 : x6_1 < (a0.size : Int) := of_decide_eq_true (by first | (with_reducible assumption) | assumption)
      have hx7 := bt_at a0 x6_1
      replace p7 := eq_true p7
      replace q7 := eq_true q7
      go_wp2
      go_roundg k1
      case measure => have := HK1.out; omega
      case rel => exact ⟨(IntKind.u64.wrap ((Go.bits .xor .u64 x5_1 (IntKind.u64.wrap (bt a0 x6_1))) * 1099511628211)), (wrap64 (x6_1 + 1)), (rf__), (rf__), H', ⟨by have := HK1.out; omega⟩, ⟨bel__⟩⟩
     ·rw [if_neg c6] at H
      exact absurd H (by simp)
    ·rw [if_neg c5] at H
     have c5b0 := decide_eq_false c5
     clear c5
     obtain ⟨y119, hy119⟩ : ∃ y_ : List Int, y_ = (([] : List Int)) := ⟨_, rfl⟩
     replace H : (spec_Sum.l1 k1 a1 x5_1 y119 0) = some r := by first | (rw [hy119]; with_reducible exact H) | (have H2_ := (Option.bind_some _ _).symm.trans H; rw [hy119]; with_reducible exact H2_) | (have H2_ := (Option.bind_some _ _).symm.trans H; with_reducible exact H2_) | with_reducible exact H | (rw [hy119]; exact H) | exact H
     have Ny119 := Aside0.mk hy119
     clear hy119
     have H' := Aside0.mk H
     clear H
     go_wp2_with (first | ((with_reducible refine gate_dst (N := 25) rfl ?_); refine Kd.R_lit (Kd.int .u8) _ 5 ?hg (N := 25) ?hd (xs := ([] : List Int)) (inner := []) (ok := fun _ => True) (okp := fun _ => True) ?hr ?hp (fun _ hk => hk) trivial (Below.refl _ _) (Nat.le_refl _) (by simp) ?_; (case hd => rfl); (case hg => rfl); (case hr => first | (go_simp; done) | (go_simp; rfl)); (case hp => exact (Reps.none _ _)); intro v120 w8 ho9 hb hg_ hnew_; clear hg_ hnew_; (first | rw [← Ny119.out] at ho9 | (simp only [Int.reduceToNat] at ho9; rw [← Ny119.out] at ho9)); have HO121 := am__ (Kd.R_lower ho9 (below_size (bel__))); replace HB := am__ (below_step (bel__) hb); clear hb ho9))
     go_loopg [5, 7, 8] k1 (fun kq v5 v7 v8 w' => ∃ (x5_2 : Int) (x7_2 : List Int) (x8_2 : Int), v5 = .int .u64 x5_2 ∧ v8 = .int .i64 x8_2 ∧ Aside0 (spec_Sum.l1 kq a1 x5_2 x7_2 x8_2 = some r) ∧ Aside0 (kq ≤ k1) ∧ Aside0 (Kd.R (Kd.int .u8) 5 w' w.heap.size (fun _ => True) v7 x7_2) ∧ Aside0 (Below w.heap.size w w'))
     case atStart => exact ⟨(x5_1), (y119), (0), (rf__), (rf__), H', ⟨Nat.le_refl _⟩, ⟨rr__ HO121.out⟩, ⟨bel__⟩⟩
     case round =>
      clear H'
      try clear p2
      try clear c3
      try clear c4
      try clear c5
      try clear c5b0
      try clear c6
      try clear c6b0
      try clear p6
      try clear p7
      try clear q7
      try clear hx7
      try clear p2
      try clear p7
      try clear q7
      obtain ⟨x5_2, x7_2, x8_2, rfl, rfl, HA, HK2, HO_7, HB⟩ := hrel
      cases gk with
      | zero => exact absurd HA.out (by simp [spec_Sum.l1])
      | succ k2 =>
       have H := HA.out
       clear HA
       simp only [spec_Sum.l1] at H
       by_cases c10 : x8_2 < a1
       ·rw [if_pos c10] at H
        have c10b0 := decide_eq_true c10
        clear c10
        obtain ⟨y122, hy122⟩ : ∃ y_ : List Int, y_ = (([(Int.tmod x5_2 256) % 256] : List Int)) := ⟨_, rfl⟩
        replace H : (if y122.length + x7_2.length < 140737488355328 then (spec_Sum.l1 k2 a1 (IntKind.u64.wrap (Int.tdiv x5_2 256)) (y122 ++ x7_2) (wrap64 (x8_2 + 1))) else (none)) = some r := by first | (rw [hy122]; with_reducible exact H) | (have H2_ := (Option.bind_some _ _).symm.trans H; rw [hy122]; with_reducible exact H2_) | (have H2_ := (Option.bind_some _ _).symm.trans H; with_reducible exact H2_) | with_reducible exact H | (rw [hy122]; exact H) | exact H
        have Ny122 := Aside0.mk hy122
        clear hy122
        by_cases c11 : y122.length + x7_2.length < 140737488355328
        ·rw [if_pos c11] at H
         have LMc11 := Aside0.mk c11
         clear c11
         obtain ⟨y125, hy125⟩ : ∃ y_ : List Int, y_ = (y122 ++ x7_2) := ⟨_, rfl⟩
         replace H : (spec_Sum.l1 k2 a1 (IntKind.u64.wrap (Int.tdiv x5_2 256)) y125 (wrap64 (x8_2 + 1))) = some r := by first | (rw [hy125]; with_reducible exact H) | (have H2_ := (Option.bind_some _ _).symm.trans H; rw [hy125]; with_reducible exact H2_) | (have H2_ := (Option.bind_some _ _).symm.trans H; with_reducible exact H2_) | with_reducible exact H | (rw [hy125]; exact H) | exact H
         have Ny125 := Aside0.mk hy125
         clear hy125
         have H' := Aside0.mk H
         clear H
         go_wp2_with (first | ((with_reducible refine gate_dst (N := 34) rfl ?_); refine Kd.R_lit (Kd.int .u8) _ 5 ?hg (N := 34) ?hd (xs := ([(Int.tmod x5_2 256) % 256] : List Int)) (inner := [.int .u8 ((Int.tmod x5_2 256) % 256)]) (ok := fun _ => True) (okp := fun _ => True) ?hr ?hp (fun _ hk => hk) trivial (Below.refl _ _) (Nat.le_refl _) (by simp) ?_; (case hd => rfl); (case hg => rfl); (case hr => first | (go_simp; done) | (go_simp; rfl)); (case hp => exact (Reps.one (show Kd.M (Kd.int .u8) _ _ _ ((Int.tmod x5_2 256) % 256) [.int .u8 ((Int.tmod x5_2 256) % 256)] from rfl) (Reps.none _ _))); intro v123 w12 ho13 hb hg_ hnew_; clear hg_ hnew_; (first | rw [← Ny122.out] at ho13 | (simp only [Int.reduceToNat] at ho13; rw [← Ny122.out] at ho13)); have HO124 := am__ (Kd.R_lower (Kd.R_new' ho13 (Kd.R_lt (rr__ HO_7.out))) (below_size (bel__))); replace HO_7 := am__ (Kd.R_elder' (rr__ HO_7.out) (Kd.R_base ho13) hb); replace HB := am__ (below_step (bel__) hb); clear hb ho13; obtain ⟨Ao15, co15, eo15⟩ := Kd.R_slice HO_7.out; subst eo15) | ((with_reducible refine gate_builtin (b := .append) (xs := #[.tmp 34, .tmp 35]) rfl ?_); at_builtin; refine Kd.R_append_rows (Kd.int .u8) (w0 := w) w.heap.size rfl (.tmp 34) (.tmp 35) 51 5 (.int .u8 0) 1 rfl Try.underlying51 info5 rfl (by decide) (by omega) v123 y122 x7_2 _ _ _ (fun k_ => some k_ ≠ (ob__ Ao15 x7_2.length co15)) (fun _ => False) rfl rfl ?aO ?aR (fun _ _ h => h) (fun _ h => h.elim) ?aF ?aB ?aS ?aL ?_; (case aR => repeat (first | exact (Kd.R_reads' HO_7.out).2.2 | (with_reducible refine Kd.C_alloc ?_ _) | (with_reducible refine Kd.C_drewN ?_ _) | (with_reducible refine Kd.C_drew ?_))); (case aB => exact (bel__)); (case aF => exact (fun k_ hk => Kd.fresh' (Kd.R_lt (rr__ HO_7.out)) k_ hk)); (case aO => exact (by refine rps__ ?_; exact Kd.R_mono HO124.out h2__)); (case aS => exact (below_size (bel__))); (case aL => have := LMc11.out; omega); intro v126 w14 ho hb hg hat; rw [← Ny125.out] at ho; have n0_ := am__ (Kd.R_after (ok := (fun _ => True)) (rr__ HO_7.out) hg hat); have n1_ := am__ (hb); have n2_ := am__ (ho); clear HO_7; clear HB; clear HO124; have HO_7 := n0_; have HB := n1_; have HO127 := n2_; clear n0_ n1_ n2_; clear ho hb hg hat))
         go_roundg k2
         case measure => have := HK1.out; have := HK2.out; omega
         case rel => exact ⟨(IntKind.u64.wrap (Int.tdiv x5_2 256)), (y125), (wrap64 (x8_2 + 1)), (rf__), (rf__), H', ⟨by have := HK1.out; have := HK2.out; omega⟩, ⟨by refine rps__ ?_; exact Kd.R_mono HO127.out (fun _ hk => trivial)⟩, ⟨bel__⟩⟩
        ·rw [if_neg c11] at H
         exact absurd H (by simp)
       ·rw [if_neg c10] at H
        have c10b0 := decide_eq_false c10
        clear c10
        obtain rfl := Option.some.inj H
        have hcv16 := own_string (P := Try.prog) Try.underlying51 Try.underlying5 Try.underlying9 (Kd.own_of_R HO_7.out)
        go_wp2
        go_ret
        exact ⟨ee__, bel__⟩
 ·replace c4 := Bool.eq_false_iff.mpr c4
  subst c4
  have H1 : (some (⟨#[]⟩ : ByteArray)) = some r := by rw [if_neg (show ¬ (false = true) by decide)] at H; exact H
  clear H
  have H := H1
  clear H1
  obtain rfl := Option.some.inj H
  go_enter Try.func33, Try.ntmps33
  go_wp2_with (first | ((with_reducible refine gate_callee (f := 45) rfl ?_); refine gl__ (some 10) Try.func45 #[.int .i64 a1] ?_; (with_reducible refine (spec_l1Width.calls a1 false _ A3.out).mono ?_); rintro e w' ⟨rfl, ⟨nd, rfl⟩⟩; refine ⟨_, rfl, ?_⟩))
  go_ret
  exact ⟨ee__, bel__⟩
end Go.Proofs.Ytcijlemojododaa.P

namespace Go.Proofs.Ytcijlemojododaa.P
open Go.RowKit Go.Proofs.YtcijlemojododaaW.PrintWords Go.Proofs.YtcijlemojododaaW.PrintLast Go.Proofs.YtcijlemojododaaW.PrintMore
attribute [local go_sem] max2_int min2_int max_two min_two max_three min_three max_four min_four   -- for this text's walks alone
set_option linter.unusedVariables false
set_option linter.unusedSimpArgs false
/-! ### spec_l1ThingOk: function 89 -/
mutual
def spec_l1ThingOk.j0 : Nat → Int → Bool → ByteArray → List ByteArray → Option (Bool)
 | 0, _, _, _, _ => none
 | k + 1, x1, x20, x129000, x129001 => if x20 = true then (some false) else (spec_l1ThingOk.l0 k x1 0 x129000 x129001)
def spec_l1ThingOk.l0 : Nat → Int → Int → ByteArray → List ByteArray → Option (Bool)
 | 0, _, _, _, _ => none
 | k + 1, x1, x5, x129000, x129001 => if x5 < (x129001.length : Int) then (if 0 ≤ x5 then (if ((rdOf ByteArray.empty x129001 x5).size : Int) = x1 then (if x5 > 0 then (if 0 ≤ (wrap64 (x5 - 1)) then (if (wrap64 (x5 - 1)) < (x129001.length : Int) then (if ((Op.bytesLess ((rdOf ByteArray.empty x129001 (wrap64 (x5 - 1))).toList) ((rdOf ByteArray.empty x129001 x5).toList)) = true) then (spec_l1ThingOk.l0 k x1 (wrap64 (x5 + 1)) x129000 x129001) else (some false)) else (none)) else (none)) else (spec_l1ThingOk.l0 k x1 (wrap64 (x5 + 1)) x129000 x129001)) else (some false)) else (none)) else (some true)
end
def spec_l1ThingOk.f (k : Nat) (a0_0 : ByteArray) (l0_1 : List ByteArray) (a1 : Int) : Option (Bool) := (spec_l1Width.f a1).bind fun t129 => (if t129 = true then (if (a0_0.size : Int) > 2000 then (spec_l1ThingOk.j0 k a1 true a0_0 l0_1) else (spec_l1ThingOk.j0 k a1 (decide ((l0_1.length : Int) > 30)) a0_0 l0_1)) else (spec_l1ThingOk.j0 k a1 true a0_0 l0_1))
set_option maxHeartbeats 8000000 in
set_option maxRecDepth 100000 in
theorem spec_l1ThingOk.calls (k : Nat) (a0_0 : ByteArray) (A0_1 : Option Addr) (c0_1 : Nat) (l0_1 : List ByteArray) (a1 : Int) (r : Bool) (w : World) (hr0_1 : Kd.C Kd.string w A0_1 l0_1.length l0_1) (hc0_1 : l0_1.length ≤ c0_1) (h : spec_l1ThingOk.f k a0_0 l0_1 a1 = some r) :
  Calls Try.prog 89 #[.agg #[.string a0_0, .slice A0_1 l0_1.length c0_1], .int .i64 a1] w fun e w' => e = .returned (.bool r) ∧ Below w.heap.size w w' := by
 have hu61 := Try.underlying61
 have HR0_1 := Aside0.mk hr0_1
 have HC0_1 := Aside0.mk hc0_1
 clear hr0_1 hc0_1
 have HB := am__ (Below.refl w.heap.size w)
 have H : ((spec_l1Width.f a1).bind fun t129 => (if t129 = true then (if (a0_0.size : Int) > 2000 then (spec_l1ThingOk.j0 k a1 true a0_0 l0_1) else (spec_l1ThingOk.j0 k a1 (decide ((l0_1.length : Int) > 30)) a0_0 l0_1)) else (spec_l1ThingOk.j0 k a1 true a0_0 l0_1))) = some r := h
 clear h
 have HC3 := Aside0.mk H
 clear H
 go_enter Try.func89, Try.ntmps89
 go_upto_region 1 with (first | ((with_reducible refine gate_dst (N := 2) rfl ?_); (try (refine gate_guard (by rfl) ?_; dsimp only)); refine be__ 2 #[.string a0_0, .slice A0_1 l0_1.length c0_1] 61 ?_; intro gb128 hg w4 hbox hb; have BK128 := am__ (hbox); have GW128 := am__ ((bsz__ hg bel__ : w.heap.size ≤ gb128)); have GE128 := am__ ((bsz__ hg bel__ : w.heap.size ≤ gb128)); replace HB := am__ (below_step (bel__) hb); clear hb hbox hg))
 repeat (go_quiet (first | ((with_reducible refine gate_dst (N := 2) rfl ?_); (try (refine gate_guard (by rfl) ?_; dsimp only)); refine be__ 2 #[.string a0_0, .slice A0_1 l0_1.length c0_1] 61 ?_; intro gb128 hg w4 hbox hb; have BK128 := am__ (hbox); have GW128 := am__ ((bsz__ hg bel__ : w.heap.size ≤ gb128)); have GE128 := am__ ((bsz__ hg bel__ : w.heap.size ≤ gb128)); replace HB := am__ (below_step (bel__) hb); clear hb hbox hg)); go_upto_region 1 with (first | ((with_reducible refine gate_dst (N := 2) rfl ?_); (try (refine gate_guard (by rfl) ?_; dsimp only)); refine be__ 2 #[.string a0_0, .slice A0_1 l0_1.length c0_1] 61 ?_; intro gb128 hg w4 hbox hb; have BK128 := am__ (hbox); have GW128 := am__ ((bsz__ hg bel__ : w.heap.size ≤ gb128)); have GE128 := am__ ((bsz__ hg bel__ : w.heap.size ≤ gb128)); replace HB := am__ (below_step (bel__) hb); clear hb hbox hg)))
 (try simp only [Act.put, List.setIfInBounds_toArray, List.set_cons_zero, List.set_cons_succ])
 go_cut [20] (fun v20 wc => ∃ (kq : Nat) (x20_2 : Bool), v20 = .bool x20_2 ∧ Aside0 (spec_l1ThingOk.j0 kq a1 x20_2 a0_0 l0_1 = some r) ∧ Aside0 (kq ≤ k) ∧ Aside0 (wc.heap[gb128]? = some (.cells #[.string a0_0, (.slice A0_1 l0_1.length c0_1)] 61 (0, 0))) ∧ Aside0 (Below w.heap.size w wc))
 case first =>
  have H := HC3.out
  clear HC3
  replace H := Option.bind_eq_some_iff.mp H
  obtain ⟨t129, A50, H⟩ := H
  have A5 := Aside0.mk A50
  clear A50
  by_cases c6 : t129 = true
  ·subst c6
   rw [if_pos rfl] at H
   by_cases c7 : (a0_0.size : Int) > 2000
   ·rw [if_pos c7] at H
    have c7b0 : decide (2000 < (a0_0.size : Int)) = true := decide_eq_true c7
    have c7b1 : decide (2000 < a0_0.size) = true := decide_eq_true (by omega)
    clear c7
    (first | rw [c7b0] | (simp only [i64_w, i32_w]; rw [c7b0]) | skip)
    have H' := Aside0.mk H
    clear H
    go_wp2_with (first | (go_at_call 45; (with_reducible refine (spec_l1Width.calls a1 true _ A5.out).mono ?_); rintro e w' ⟨rfl, ⟨nd, rfl⟩⟩; (try exact dd__); obtain ⟨hcz8_0, hcz8_1, hfz8_0, hfz8_1⟩ := bk2__ BK128.out))
    repeat (go_quiet (first | (go_at_call 45; (with_reducible refine (spec_l1Width.calls a1 true _ A5.out).mono ?_); rintro e w' ⟨rfl, ⟨nd, rfl⟩⟩; (try exact dd__); obtain ⟨hcz8_0, hcz8_1, hfz8_0, hfz8_1⟩ := bk2__ BK128.out)); try go_wp2_with (first | (go_at_call 45; (with_reducible refine (spec_l1Width.calls a1 true _ A5.out).mono ?_); rintro e w' ⟨rfl, ⟨nd, rfl⟩⟩; (try exact dd__); obtain ⟨hcz8_0, hcz8_1, hfz8_0, hfz8_1⟩ := bk2__ BK128.out)))
    go_meet
    case rel => exact ⟨_, (true), (rf__), H', ⟨by first | omega | exact Nat.le_refl _⟩, ⟨blk__ BK128.out⟩, ⟨bel__⟩⟩
   ·rw [if_neg c7] at H
    have c7b0 : decide (2000 < (a0_0.size : Int)) = false := decide_eq_false c7
    have c7b1 : decide (2000 < a0_0.size) = false := decide_eq_false (by omega)
    clear c7
    (first | rw [c7b0] | (simp only [i64_w, i32_w]; rw [c7b0]) | skip)
    have H' := Aside0.mk H
    clear H
    go_wp2_with (first | (go_at_call 45; (with_reducible refine (spec_l1Width.calls a1 true _ A5.out).mono ?_); rintro e w' ⟨rfl, ⟨nd, rfl⟩⟩; (try exact dd__); obtain ⟨hcz9_0, hcz9_1, hfz9_0, hfz9_1⟩ := bk2__ BK128.out))
    repeat (go_quiet (first | (go_at_call 45; (with_reducible refine (spec_l1Width.calls a1 true _ A5.out).mono ?_); rintro e w' ⟨rfl, ⟨nd, rfl⟩⟩; (try exact dd__); obtain ⟨hcz9_0, hcz9_1, hfz9_0, hfz9_1⟩ := bk2__ BK128.out)); try go_wp2_with (first | (go_at_call 45; (with_reducible refine (spec_l1Width.calls a1 true _ A5.out).mono ?_); rintro e w' ⟨rfl, ⟨nd, rfl⟩⟩; (try exact dd__); obtain ⟨hcz9_0, hcz9_1, hfz9_0, hfz9_1⟩ := bk2__ BK128.out)))
    go_meet
    case rel => exact ⟨_, (decide ((l0_1.length : Int) > 30)), (rf__), H', ⟨by first | omega | exact Nat.le_refl _⟩, ⟨blk__ BK128.out⟩, ⟨bel__⟩⟩
  ·replace c6 := Bool.eq_false_iff.mpr c6
   subst c6
   have H1 : (spec_l1ThingOk.j0 k a1 true a0_0 l0_1) = some r := by rw [if_neg (show ¬ (false = true) by decide)] at H; exact H
   clear H
   have H := H1
   clear H1
   have H' := Aside0.mk H
   clear H
   go_wp2_with (first | (go_at_call 45; (with_reducible refine (spec_l1Width.calls a1 false _ A5.out).mono ?_); rintro e w' ⟨rfl, ⟨nd, rfl⟩⟩; (try exact dd__)))
   repeat (go_quiet (first | (go_at_call 45; (with_reducible refine (spec_l1Width.calls a1 false _ A5.out).mono ?_); rintro e w' ⟨rfl, ⟨nd, rfl⟩⟩; (try exact dd__))); try go_wp2_with (first | (go_at_call 45; (with_reducible refine (spec_l1Width.calls a1 false _ A5.out).mono ?_); rintro e w' ⟨rfl, ⟨nd, rfl⟩⟩; (try exact dd__))))
   go_meet
   case rel => exact ⟨_, (true), (rf__), H', ⟨by first | omega | exact Nat.le_refl _⟩, ⟨blk__ BK128.out⟩, ⟨bel__⟩⟩
 case rest =>
  clear HC3
  try clear p2
  try clear c6
  try clear c7
  try clear c7b0
  try clear c7b1
  try clear c8
  try clear hcz8_0 hcz8_1 hfz8_0 hfz8_1
  try clear hcz9_0 hcz9_1 hfz9_0 hfz9_1
  obtain ⟨kq, x20_2, rfl, HA, HJ2, BK128, HB⟩ := hcut
  cases kq with
  | zero => exact absurd HA.out (by simp [spec_l1ThingOk.j0])
  | succ kj2 =>
   have H := HA.out
   clear HA
   simp only [spec_l1ThingOk.j0] at H
   by_cases c10 : x20_2 = true
   ·subst c10
    rw [if_pos rfl] at H
    obtain rfl := Option.some.inj H
    go_wp2
    repeat (go_quiet (fail); try go_wp2)
    go_ret
    exact ⟨ee__, bel__⟩
   ·replace c10 := Bool.eq_false_iff.mpr c10
    subst c10
    have H1 : (spec_l1ThingOk.l0 kj2 a1 0 a0_0 l0_1) = some r := by rw [if_neg (show ¬ (false = true) by decide)] at H; exact H
    clear H
    have H := H1
    clear H1
    have H' := Aside0.mk H
    clear H
    go_wp2
    repeat (go_quiet (fail); try go_wp2)
    go_loopg [5] kj2 (fun kq v5 w' => ∃ (x5_2 : Int), v5 = .int .i64 x5_2 ∧ Aside0 (spec_l1ThingOk.l0 kq a1 x5_2 a0_0 l0_1 = some r) ∧ Aside0 (kq ≤ kj2) ∧ Aside0 (w'.heap[gb128]? = some (.cells #[.string a0_0, (.slice A0_1 l0_1.length c0_1)] 61 (0, 0))) ∧ Aside0 (Below w.heap.size w w'))
    case atStart => exact ⟨(0), (rf__), H', ⟨Nat.le_refl _⟩, ⟨blk__ BK128.out⟩, ⟨bel__⟩⟩
    case round =>
     clear H'
     try clear c1
     try clear p2
     try clear c6
     try clear c7
     try clear c7b0
     try clear c7b1
     try clear c8
     try clear c10
     try clear hcz8_0 hcz8_1 hfz8_0 hfz8_1
     try clear hcz9_0 hcz9_1 hfz9_0 hfz9_1
     try clear p2
     obtain ⟨x5_2, rfl, HA, HK2, BK128, HB⟩ := hrel
     cases gk with
     | zero => exact absurd HA.out (by simp [spec_l1ThingOk.l0])
     | succ k2 =>
      have H := HA.out
      clear HA
      simp only [spec_l1ThingOk.l0] at H
      by_cases c11 : x5_2 < (l0_1.length : Int)
      ·rw [if_pos c11] at H
       have c11b0 := decide_eq_true c11
       clear c11
       by_cases c12 : 0 ≤ x5_2
       ·rw [if_pos c12] at H
        have c12b0 := decide_eq_true c12
        clear c12
        by_cases c13 : ((rdOf ByteArray.empty l0_1 x5_2).size : Int) = a1
        ·rw [if_pos c13] at H
         have c13b0 : (((rdOf ByteArray.empty l0_1 x5_2).size : Int) == a1) = true := beq_iff_eq.mpr c13
         have c13b1 : (((rdOf ByteArray.empty l0_1 x5_2).size : Int) != a1) = false := bne_eq_false_iff_eq.mpr c13
         clear c13
         by_cases c14 : x5_2 > 0
         ·rw [if_pos c14] at H
          have c14b0 : decide (0 < x5_2) = true := decide_eq_true c14
          clear c14
          obtain ⟨ji15, hji15⟩ : ∃ j_ : Int, (wrap64 (x5_2 - 1)) = j_ := ⟨_, rfl⟩
          first | rw [hji15] at H | simp only [hji15] at H
          have hji15w : (IntKind.i64.wrap (x5_2 - 1)) = ji15 := (i64_w _).trans hji15
          by_cases c16 : 0 ≤ (ji15)
          ·rw [if_pos c16] at H
           have c16b0 := decide_eq_true c16
           clear c16
           by_cases c17 : (ji15) < (l0_1.length : Int)
           ·rw [if_pos c17] at H
            have c17b0 := decide_eq_true c17
            clear c17
            by_cases c18 : ((Op.bytesLess ((rdOf ByteArray.empty l0_1 (ji15)).toList) ((rdOf ByteArray.empty l0_1 x5_2).toList)) = true)
            ·rw [if_pos c18] at H
             have c18b0 : (Op.bytesLess ((rdOf ByteArray.empty l0_1 (ji15)).toList) ((rdOf ByteArray.empty l0_1 x5_2).toList)) = true := c18
             clear c18
             have H' := Aside0.mk H
             clear H
             obtain ⟨hcz19_0, hcz19_1, hfz19_0, hfz19_1⟩ := bk2__ BK128.out
             have p130 : 0 ≤ (x5_2 : Int) := of_decide_eq_true (by first | (with_reducible assumption) | assumption)
             have q130 : x5_2 < (l0_1.length : Int) := of_decide_eq_true (by first | (with_reducible assumption) | assumption)
             obtain ⟨ad130, e130, hx130_0⟩ := Kd.at_string HR0_1.out x5_2 p130 q130
             cases e130
             try replace hx130_0 := hb__ HB.out hx130_0
             replace p130 := eq_true p130
             replace q130 := eq_true q130
             have p131 : 0 ≤ ((ji15) : Int) := of_decide_eq_true (by first | (with_reducible assumption) | assumption)
             have q131 : (ji15) < (l0_1.length : Int) := of_decide_eq_true (by first | (with_reducible assumption) | assumption)
             obtain ⟨ad131, e131, hx131_0⟩ := Kd.at_string HR0_1.out (ji15) p131 q131
             obtain rfl : ad130 = ad131 := (by injection e131)
             try replace hx131_0 := hb__ HB.out hx131_0
             replace p131 := eq_true p131
             replace q131 := eq_true q131
             have p132 : 0 ≤ (x5_2 : Int) := of_decide_eq_true (by first | (with_reducible assumption) | assumption)
             have q132 : x5_2 < (l0_1.length : Int) := of_decide_eq_true (by first | (with_reducible assumption) | assumption)
             obtain ⟨ad132, e132, hx132_0⟩ := Kd.at_string HR0_1.out x5_2 p132 q132
             obtain rfl : ad130 = ad132 := (by injection e132)
             try replace hx132_0 := hb__ HB.out hx132_0
             replace p132 := eq_true p132
             replace q132 := eq_true q132
             go_wp2
             repeat (go_quiet (fail); try go_wp2)
             go_roundg k2
             case measure => have := HJ2.out; have := HK2.out; omega
             case rel => exact ⟨(wrap64 (x5_2 + 1)), (rf__), H', ⟨by have := HJ2.out; have := HK2.out; omega⟩, ⟨blk__ BK128.out⟩, ⟨bel__⟩⟩
            ·rw [if_neg c18] at H
             have c18b0 : (Op.bytesLess ((rdOf ByteArray.empty l0_1 (ji15)).toList) ((rdOf ByteArray.empty l0_1 x5_2).toList)) = false := by simpa using c18
             clear c18
             obtain rfl := Option.some.inj H
             obtain ⟨hcz20_0, hcz20_1, hfz20_0, hfz20_1⟩ := bk2__ BK128.out
             have p130 : 0 ≤ (x5_2 : Int) := of_decide_eq_true (by first | (with_reducible assumption) | assumption)
             have q130 : x5_2 < (l0_1.length : Int) := of_decide_eq_true (by first | (with_reducible assumption) | assumption)
             obtain ⟨ad130, e130, hx130_0⟩ := Kd.at_string HR0_1.out x5_2 p130 q130
             cases e130
             try replace hx130_0 := hb__ HB.out hx130_0
             replace p130 := eq_true p130
             replace q130 := eq_true q130
             have p131 : 0 ≤ ((ji15) : Int) := of_decide_eq_true (by first | (with_reducible assumption) | assumption)
             have q131 : (ji15) < (l0_1.length : Int) := of_decide_eq_true (by first | (with_reducible assumption) | assumption)
             obtain ⟨ad131, e131, hx131_0⟩ := Kd.at_string HR0_1.out (ji15) p131 q131
             obtain rfl : ad130 = ad131 := (by injection e131)
             try replace hx131_0 := hb__ HB.out hx131_0
             replace p131 := eq_true p131
             replace q131 := eq_true q131
             have p132 : 0 ≤ (x5_2 : Int) := of_decide_eq_true (by first | (with_reducible assumption) | assumption)
             have q132 : x5_2 < (l0_1.length : Int) := of_decide_eq_true (by first | (with_reducible assumption) | assumption)
             obtain ⟨ad132, e132, hx132_0⟩ := Kd.at_string HR0_1.out x5_2 p132 q132
             obtain rfl : ad130 = ad132 := (by injection e132)
             try replace hx132_0 := hb__ HB.out hx132_0
             replace p132 := eq_true p132
             replace q132 := eq_true q132
             go_wp2
             repeat (go_quiet (fail); try go_wp2)
             go_ret
             exact ⟨by first | rfl | (simp [errW_none, errW_some] <;> rfl) | (simp only [← hji15]; first | rfl | (simp [errW_none, errW_some] <;> rfl)) | (simp [*, errW_none, errW_some] <;> rfl), bel__⟩
           ·rw [if_neg c17] at H
            exact absurd H (by simp)
          ·rw [if_neg c16] at H
           exact absurd H (by simp)
         ·rw [if_neg c14] at H
          have c14b0 : decide (0 < x5_2) = false := decide_eq_false c14
          clear c14
          have H' := Aside0.mk H
          clear H
          obtain ⟨hcz21_0, hcz21_1, hfz21_0, hfz21_1⟩ := bk2__ BK128.out
          have p130 : 0 ≤ (x5_2 : Int) := of_decide_eq_true (by first | (with_reducible assumption) | assumption)
          have q130 : x5_2 < (l0_1.length : Int) := of_decide_eq_true (by first | (with_reducible assumption) | assumption)
          obtain ⟨ad130, e130, hx130_0⟩ := Kd.at_string HR0_1.out x5_2 p130 q130
          cases e130
          try replace hx130_0 := hb__ HB.out hx130_0
          replace p130 := eq_true p130
          replace q130 := eq_true q130
          go_wp2
          repeat (go_quiet (fail); try go_wp2)
          go_roundg k2
          case measure => have := HJ2.out; have := HK2.out; omega
          case rel => exact ⟨(wrap64 (x5_2 + 1)), (rf__), H', ⟨by have := HJ2.out; have := HK2.out; omega⟩, ⟨blk__ BK128.out⟩, ⟨bel__⟩⟩
        ·rw [if_neg c13] at H
         have c13b0 : (((rdOf ByteArray.empty l0_1 x5_2).size : Int) == a1) = false := beq_eq_false_iff_ne.mpr c13
         have c13b1 : (((rdOf ByteArray.empty l0_1 x5_2).size : Int) != a1) = true := bne_iff_ne.mpr c13
         obtain rfl := Option.some.inj H
         obtain ⟨hcz22_0, hcz22_1, hfz22_0, hfz22_1⟩ := bk2__ BK128.out
         have p130 : 0 ≤ (x5_2 : Int) := of_decide_eq_true (by first | (with_reducible assumption) | assumption)
         have q130 : x5_2 < (l0_1.length : Int) := of_decide_eq_true (by first | (with_reducible assumption) | assumption)
         obtain ⟨ad130, e130, hx130_0⟩ := Kd.at_string HR0_1.out x5_2 p130 q130
         cases e130
         try replace hx130_0 := hb__ HB.out hx130_0
         replace p130 := eq_true p130
         replace q130 := eq_true q130
         go_wp2
         repeat (go_quiet (fail); try go_wp2)
         go_ret
         exact ⟨ee__, bel__⟩
       ·rw [if_neg c12] at H
        exact absurd H (by simp)
      ·rw [if_neg c11] at H
       have c11b0 := decide_eq_false c11
       clear c11
       obtain rfl := Option.some.inj H
       obtain ⟨hcz23_0, hcz23_1, hfz23_0, hfz23_1⟩ := bk2__ BK128.out
       go_wp2
       repeat (go_quiet (fail); try go_wp2)
       go_ret
       exact ⟨ee__, bel__⟩
end Go.Proofs.Ytcijlemojododaa.P

namespace Go.Proofs.Ytcijlemojododaa.P
open Go.RowKit Go.Proofs.YtcijlemojododaaW.PrintWords Go.Proofs.YtcijlemojododaaW.PrintLast Go.Proofs.YtcijlemojododaaW.PrintMore
attribute [local go_sem] max2_int min2_int max_two min_two max_three min_three max_four min_four   -- for this text's walks alone
set_option linter.unusedVariables false
set_option linter.unusedSimpArgs false
/-! ### spec_FormThing: function 34 -/
def spec_FormThing.l0 : Nat → List Int → Int → ByteArray → List ByteArray → Option (ByteArray)
 | 0, _, _, _, _ => none
 | k + 1, x5, x6, x134000, x134001 => if x6 < (x134001.length : Int) then (if 0 ≤ x6 then (if x5.length + (rdOf ByteArray.empty x134001 x6).size < 140737488355328 then (spec_FormThing.l0 k (x5 ++ bytesOf (rdOf ByteArray.empty x134001 x6)) (wrap64 (x6 + 1)) x134000 x134001) else (none)) else (none)) else (if x5.length + x134000.size < 140737488355328 then (some (strOfNums (x5 ++ bytesOf x134000))) else (none))
def spec_FormThing.f (k : Nat) (a0_0 : ByteArray) (l0_1 : List ByteArray) (a1 : Int) : Option (ByteArray) := (spec_l1ThingOk.f k a0_0 l0_1 a1).bind fun t134 => (if t134 = true then (spec_FormThing.l0 k (([((l0_1.length : Int)) % 256] : List Int)) 0 a0_0 l0_1) else (some (⟨#[]⟩ : ByteArray)))
set_option maxHeartbeats 8000000 in
set_option maxRecDepth 100000 in
theorem spec_FormThing.calls (k : Nat) (a0_0 : ByteArray) (A0_1 : Option Addr) (c0_1 : Nat) (l0_1 : List ByteArray) (a1 : Int) (r : ByteArray) (w : World) (hr0_1 : Kd.C Kd.string w A0_1 l0_1.length l0_1) (hc0_1 : l0_1.length ≤ c0_1) (h : spec_FormThing.f k a0_0 l0_1 a1 = some r) :
  Calls Try.prog 34 #[.agg #[.string a0_0, .slice A0_1 l0_1.length c0_1], .int .i64 a1] w fun e w' => e = .returned (.string r) ∧ Below w.heap.size w w' := by
 have hu61 := Try.underlying61
 have HR0_1 := Aside0.mk hr0_1
 have HC0_1 := Aside0.mk hc0_1
 clear hr0_1 hc0_1
 have HB := am__ (Below.refl w.heap.size w)
 have H : ((spec_l1ThingOk.f k a0_0 l0_1 a1).bind fun t134 => (if t134 = true then (spec_FormThing.l0 k (([((l0_1.length : Int)) % 256] : List Int)) 0 a0_0 l0_1) else (some (⟨#[]⟩ : ByteArray)))) = some r := h
 clear h
 replace H := Option.bind_eq_some_iff.mp H
 obtain ⟨t134, A30, H⟩ := H
 have A3 := Aside0.mk A30
 clear A30
 by_cases c4 : t134 = true
 ·subst c4
  rw [if_pos rfl] at H
  obtain ⟨y135, hy135⟩ : ∃ y_ : List Int, y_ = (([((l0_1.length : Int)) % 256] : List Int)) := ⟨_, rfl⟩
  replace H : (spec_FormThing.l0 k y135 0 a0_0 l0_1) = some r := by first | (rw [hy135]; with_reducible exact H) | (have H2_ := (Option.bind_some _ _).symm.trans H; rw [hy135]; with_reducible exact H2_) | (have H2_ := (Option.bind_some _ _).symm.trans H; with_reducible exact H2_) | with_reducible exact H | (rw [hy135]; exact H) | exact H
  have Ny135 := Aside0.mk hy135
  clear hy135
  have H' := Aside0.mk H
  clear H
  go_enter Try.func34, Try.ntmps34
  go_wp2_with (first | ((with_reducible refine gate_dst (N := 2) rfl ?_); refine be__ 2 #[.string a0_0, .slice A0_1 l0_1.length c0_1] 61 ?_; intro gb133 hg w5 hbox hb; have BK133 := am__ (hbox); have GW133 := am__ ((bsz__ hg bel__ : w.heap.size ≤ gb133)); have GE133 := am__ ((bsz__ hg bel__ : w.heap.size ≤ gb133)); replace HB := am__ (below_step (bel__) hb); clear hb hbox hg; obtain ⟨hcz6_0, hcz6_1, hfz6_0, hfz6_1⟩ := bk2__ BK133.out) | ((with_reducible refine gate_callee (f := 89) rfl ?_); refine gl__ (some 9) Try.func89 #[.agg #[.string a0_0, .slice A0_1 l0_1.length c0_1], .int .i64 a1] ?_; (with_reducible refine (spec_l1ThingOk.calls k a0_0 _ _ l0_1 a1 true _ ?side1 HC0_1.out A3.out).mono ?_); (case side1 => repeat (first | exact (Kd.C_below HR0_1.out HB.out) | (with_reducible refine Kd.C_alloc ?_ _) | (with_reducible refine Kd.C_drewN ?_ _) | (with_reducible refine Kd.C_drew ?_))); rintro e w7 ⟨rfl, hb⟩; refine ⟨_, rfl, ?_⟩; replace BK133 := am__ (blb__ BK133.out hb); replace HB := am__ (below_step (bel__) hb); clear hb; obtain ⟨hcz8_0, hcz8_1, hfz8_0, hfz8_1⟩ := bk2__ BK133.out) | ((with_reducible refine gate_dst (N := 15) rfl ?_); refine Kd.R_lit (Kd.int .u8) _ 5 ?hg (N := 15) ?hd (xs := ([((l0_1.length : Int)) % 256] : List Int)) (inner := [.int .u8 (((l0_1.length : Int)) % 256)]) (ok := fun _ => True) (okp := fun _ => True) ?hr ?hp (fun _ hk => hk) trivial (Below.refl _ _) (Nat.le_refl _) (by simp) ?_; (case hd => rfl); (case hg => rfl); (case hr => first | (go_simp; done) | (go_simp; rfl)); (case hp => exact (Reps.one (show Kd.M (Kd.int .u8) _ _ _ (((l0_1.length : Int)) % 256) [.int .u8 (((l0_1.length : Int)) % 256)] from rfl) (Reps.none _ _))); intro v136 w9 ho10 hb hg_ hnew_; clear hg_ hnew_; (first | rw [← Ny135.out] at ho10 | (simp only [Int.reduceToNat] at ho10; rw [← Ny135.out] at ho10)); have HO137 := am__ (Kd.R_lower ho10 (below_size (bel__))); replace BK133 := am__ (blb__ BK133.out hb); replace HB := am__ (below_step (bel__) hb); clear hb ho10))
  go_loopg [5, 6] k (fun kq v5 v6 w' => ∃ (x5_1 : List Int) (x6_1 : Int), v6 = .int .i64 x6_1 ∧ Aside0 (spec_FormThing.l0 kq x5_1 x6_1 a0_0 l0_1 = some r) ∧ Aside0 (kq ≤ k) ∧ Aside0 (Kd.R (Kd.int .u8) 5 w' w.heap.size (fun _ => True) v5 x5_1) ∧ Aside0 (w'.heap[gb133]? = some (.cells #[.string a0_0, (.slice A0_1 l0_1.length c0_1)] 61 (0, 0))) ∧ Aside0 (Below w.heap.size w w'))
  case atStart => exact ⟨(y135), (0), (rf__), H', ⟨Nat.le_refl _⟩, ⟨rr__ HO137.out⟩, ⟨blk__ BK133.out⟩, ⟨bel__⟩⟩
  case round =>
   clear H'
   try clear p2
   try clear c3
   try clear c4
   try clear c8
   try clear hcz6_0 hcz6_1 hfz6_0 hfz6_1
   try clear hcz8_0 hcz8_1 hfz8_0 hfz8_1
   obtain ⟨x5_1, x6_1, rfl, HA, HK1, HO_5, BK133, HB⟩ := hrel
   cases gk with
   | zero => exact absurd HA.out (by simp [spec_FormThing.l0])
   | succ k1 =>
    have H := HA.out
    clear HA
    simp only [spec_FormThing.l0] at H
    by_cases c11 : x6_1 < (l0_1.length : Int)
    ·rw [if_pos c11] at H
     have c11b0 := decide_eq_true c11
     clear c11
     by_cases c12 : 0 ≤ x6_1
     ·rw [if_pos c12] at H
      have c12b0 := decide_eq_true c12
      clear c12
      by_cases c13 : x5_1.length + (rdOf ByteArray.empty l0_1 x6_1).size < 140737488355328
      ·rw [if_pos c13] at H
       have LMc13 := Aside0.mk c13
       clear c13
       obtain ⟨y139, hy139⟩ : ∃ y_ : List Int, y_ = (x5_1 ++ bytesOf (rdOf ByteArray.empty l0_1 x6_1)) := ⟨_, rfl⟩
       replace H : (spec_FormThing.l0 k1 y139 (wrap64 (x6_1 + 1)) a0_0 l0_1) = some r := by first | (rw [hy139]; with_reducible exact H) | (have H2_ := (Option.bind_some _ _).symm.trans H; rw [hy139]; with_reducible exact H2_) | (have H2_ := (Option.bind_some _ _).symm.trans H; with_reducible exact H2_) | with_reducible exact H | (rw [hy139]; exact H) | exact H
       have Ny139 := Aside0.mk hy139
       clear hy139
       have H' := Aside0.mk H
       clear H
       obtain ⟨hcz14_0, hcz14_1, hfz14_0, hfz14_1⟩ := bk2__ BK133.out
       have p138 : 0 ≤ (x6_1 : Int) := of_decide_eq_true (by first | (with_reducible assumption) | assumption)
       have q138 : x6_1 < (l0_1.length : Int) := of_decide_eq_true (by first | (with_reducible assumption) | assumption)
       obtain ⟨ad138, e138, hx138_0⟩ := Kd.at_string HR0_1.out x6_1 p138 q138
       cases e138
       try replace hx138_0 := hb__ HB.out hx138_0
       replace p138 := eq_true p138
       replace q138 := eq_true q138
       go_wp2_with (first | (at_builtin; refine print_append_str (w0 := w) w.heap.size rfl (.tmp 23) _ 51 9 5 rfl Try.underlying51 Try.underlying9 info5 u5 x5_1 (rdOf ByteArray.empty l0_1 x6_1) rfl rfl ?aO ?aB ?aS ?aL ?_; (case aB => exact (bel__)); (case aO => exact (Kd.own_of_R (rr__ HO_5.out))); (case aS => exact (below_size (bel__))); (case aL => have := LMc13.out; omega); intro v140 w15 ho0 hb hg; have ho := Kd.R_of_own (h1 := fun _ => rfl) (ok := fun _ => True) ho0 (fun _ _ => trivial); clear ho0; have hat := True.intro; rw [← Ny139.out] at ho; change Kd.R (Kd.int .u8) 5 w15 w.heap.size (fun _ => True) v140 y139 at ho; have n0_ := am__ (bgr__ BK133.out hg (Kd.R_ne HO_5.out BK133.out (by decide))); have n1_ := am__ (hb); have n2_ := am__ (ho); clear BK133; clear HB; clear HO_5; have BK133 := n0_; have HB := n1_; have HO141 := n2_; clear n0_ n1_ n2_; clear ho hb hg hat))
       go_roundg k1
       case measure => have := HK1.out; omega
       case rel => exact ⟨(y139), (wrap64 (x6_1 + 1)), (rf__), H', ⟨by have := HK1.out; omega⟩, ⟨rr__ HO141.out⟩, ⟨blk__ BK133.out⟩, ⟨bel__⟩⟩
      ·rw [if_neg c13] at H
       exact absurd H (by simp)
     ·rw [if_neg c12] at H
      exact absurd H (by simp)
    ·rw [if_neg c11] at H
     have c11b0 := decide_eq_false c11
     clear c11
     by_cases c16 : x5_1.length + a0_0.size < 140737488355328
     ·rw [if_pos c16] at H
      have LMc16 := Aside0.mk c16
      clear c16
      obtain ⟨y142, hy142⟩ : ∃ y_ : List Int, y_ = (x5_1 ++ bytesOf a0_0) := ⟨_, rfl⟩
      replace H : (some (strOfNums y142)) = some r := by first | (rw [hy142]; with_reducible exact H) | (have H2_ := (Option.bind_some _ _).symm.trans H; rw [hy142]; with_reducible exact H2_) | (have H2_ := (Option.bind_some _ _).symm.trans H; with_reducible exact H2_) | with_reducible exact H | (rw [hy142]; exact H) | exact H
      have Ny142 := Aside0.mk hy142
      clear hy142
      obtain rfl := Option.some.inj H
      obtain ⟨hcz17_0, hcz17_1, hfz17_0, hfz17_1⟩ := bk2__ BK133.out
      go_wp2_with (first | (at_builtin; refine print_append_str (w0 := w) w.heap.size rfl (.tmp 30) _ 51 9 5 rfl Try.underlying51 Try.underlying9 info5 u5 x5_1 a0_0 rfl rfl ?aO ?aB ?aS ?aL ?_; (case aB => exact (bel__)); (case aO => exact (Kd.own_of_R (rr__ HO_5.out))); (case aS => exact (below_size (bel__))); (case aL => have := LMc16.out; omega); intro v143 w18 ho0 hb hg; have ho := Kd.R_of_own (h1 := fun _ => rfl) (ok := fun _ => True) ho0 (fun _ _ => trivial); clear ho0; have hat := True.intro; rw [← Ny142.out] at ho; change Kd.R (Kd.int .u8) 5 w18 w.heap.size (fun _ => True) v143 y142 at ho; have n0_ := am__ (bgr__ BK133.out hg (Kd.R_ne HO_5.out BK133.out (by decide))); have n1_ := am__ (hb); have n2_ := am__ (ho); clear BK133; clear HB; clear HO_5; have BK133 := n0_; have HB := n1_; have HO144 := n2_; clear n0_ n1_ n2_; clear ho hb hg hat; have hcv19 := own_string (P := Try.prog) Try.underlying51 Try.underlying5 Try.underlying9 (Kd.own_of_R HO144.out)))
      go_ret
      exact ⟨ee__, bel__⟩
     ·rw [if_neg c16] at H
      exact absurd H (by simp)
 ·replace c4 := Bool.eq_false_iff.mpr c4
  subst c4
  have H1 : (some (⟨#[]⟩ : ByteArray)) = some r := by rw [if_neg (show ¬ (false = true) by decide)] at H; exact H
  clear H
  have H := H1
  clear H1
  obtain rfl := Option.some.inj H
  go_enter Try.func34, Try.ntmps34
  go_wp2_with (first | ((with_reducible refine gate_dst (N := 2) rfl ?_); refine be__ 2 #[.string a0_0, .slice A0_1 l0_1.length c0_1] 61 ?_; intro gb133 hg w20 hbox hb; have BK133 := am__ (hbox); have GW133 := am__ ((bsz__ hg bel__ : w.heap.size ≤ gb133)); have GE133 := am__ ((bsz__ hg bel__ : w.heap.size ≤ gb133)); replace HB := am__ (below_step (bel__) hb); clear hb hbox hg; obtain ⟨hcz21_0, hcz21_1, hfz21_0, hfz21_1⟩ := bk2__ BK133.out) | ((with_reducible refine gate_callee (f := 89) rfl ?_); refine gl__ (some 9) Try.func89 #[.agg #[.string a0_0, .slice A0_1 l0_1.length c0_1], .int .i64 a1] ?_; (with_reducible refine (spec_l1ThingOk.calls k a0_0 _ _ l0_1 a1 false _ ?side1 HC0_1.out A3.out).mono ?_); (case side1 => repeat (first | exact (Kd.C_below HR0_1.out HB.out) | (with_reducible refine Kd.C_alloc ?_ _) | (with_reducible refine Kd.C_drewN ?_ _) | (with_reducible refine Kd.C_drew ?_))); rintro e w22 ⟨rfl, hb⟩; refine ⟨_, rfl, ?_⟩; replace BK133 := am__ (blb__ BK133.out hb); replace HB := am__ (below_step (bel__) hb); clear hb))
  go_ret
  exact ⟨ee__, bel__⟩
end Go.Proofs.Ytcijlemojododaa.P
