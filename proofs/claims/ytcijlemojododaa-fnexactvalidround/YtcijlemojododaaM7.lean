/- Part 7 of the proof of FnExactValidRound: what it leans on. -/
import Derived.Test.YtcijlemojododaaM1
import Derived.Test.YtcijlemojododaaM2
import Derived.Test.YtcijlemojododaaM3
import Derived.Test.YtcijlemojododaaM4
import Derived.Test.YtcijlemojododaaM5
import Derived.Test.YtcijlemojododaaM6
import Derived.Maps.OwnOps
import Derived.Shelf.Abstract

namespace Go.Proofs.Ytcijlemojododaa.P
open Go.RowKit Go.Proofs.YtcijlemojododaaW.PrintWords Go.Proofs.YtcijlemojododaaW.PrintLast Go.Proofs.YtcijlemojododaaW.PrintMore
attribute [local go_sem] max2_int min2_int max_two min_two max_three min_three max_four min_four   -- for this text's walks alone
set_option linter.unusedVariables false
set_option linter.unusedSimpArgs false
/-! ### spec_l4Has: function 78 -/
def spec_l4Has.l0 : Nat → List ByteArray → ByteArray → Int → Option (Bool)
 | 0, _, _, _ => none
 | k + 1, x0, x1, x5 => if x5 < (x0.length : Int) then (if 0 ≤ x5 then (if (rdOf ByteArray.empty x0 x5).toList = x1.toList then (some true) else (spec_l4Has.l0 k x0 x1 (wrap64 (x5 + 1)))) else (none)) else (some false)
def spec_l4Has.f (k : Nat) (l0 : List ByteArray) (a1 : ByteArray) : Option (Bool) := spec_l4Has.l0 k l0 a1 0
set_option maxHeartbeats 8000000 in
set_option maxRecDepth 100000 in
theorem spec_l4Has.calls (k : Nat) (A0 : Option Addr) (c0 : Nat) (l0 : List ByteArray) (a1 : ByteArray) (r : Bool) (w : World) (hr0 : Kd.C Kd.string w A0 l0.length l0) (hc0 : l0.length ≤ c0) (h : spec_l4Has.f k l0 a1 = some r) :
  Calls Try.prog 78 #[.slice A0 l0.length c0, .string a1] w fun e w' => e = .returned (.bool r) ∧ Drawn0 w w' := by
 have HR0 := Aside0.mk hr0
 have HC0 := Aside0.mk hc0
 clear hr0 hc0
 have H : (spec_l4Has.l0 k l0 a1 0) = some r := h
 clear h
 have H' := Aside0.mk H
 clear H
 go_enter Try.func78, Try.ntmps78
 go_wp2
 go_loopg [5] k (fun kq v5 w' => ∃ (x5_1 : Int), v5 = .int .i64 x5_1 ∧ Aside0 (spec_l4Has.l0 kq l0 a1 x5_1 = some r) ∧ Aside0 (kq ≤ k) ∧ Drawn0 w w')
 case atStart => exact ⟨(0), (rf__), H', ⟨Nat.le_refl _⟩, by repeat (first | exact Drawn0.refl _ | apply Drawn0.step)⟩
 case round =>
  clear H'
  try clear p2
  obtain ⟨x5_1, rfl, HA, HK1, ⟨m1, rfl⟩⟩ := hrel
  cases gk with
  | zero => exact absurd HA.out (by simp [spec_l4Has.l0])
  | succ k1 =>
   have H := HA.out
   clear HA
   simp only [spec_l4Has.l0] at H
   by_cases c3 : x5_1 < (l0.length : Int)
   ·rw [if_pos c3] at H
    have c3b0 := decide_eq_true c3
    clear c3
    by_cases c4 : 0 ≤ x5_1
    ·rw [if_pos c4] at H
     have c4b0 := decide_eq_true c4
     clear c4
     by_cases c5 : (rdOf ByteArray.empty l0 x5_1).toList = a1.toList
     ·rw [if_pos c5] at H
      have c5b0 : ((rdOf ByteArray.empty l0 x5_1).toList == a1.toList) = true := beq_iff_eq.mpr c5
      have c5b1 : ((rdOf ByteArray.empty l0 x5_1).toList != a1.toList) = false := bne_eq_false_iff_eq.mpr c5
      clear c5
      obtain rfl := Option.some.inj H
      have p433 : 0 ≤ (x5_1 : Int) := of_decide_eq_true (by first | (with_reducible assumption) | assumption)
      have q433 : x5_1 < (l0.length : Int) := of_decide_eq_true (by first | (with_reducible assumption) | assumption)
      obtain ⟨ad433, e433, hx433_0⟩ := Kd.at_string HR0.out x5_1 p433 q433
      cases e433
      replace p433 := eq_true p433
      replace q433 := eq_true q433
      go_wp2
      go_ret
      exact ⟨by first | rfl | (simp; done) | (simp [*]; done), by repeat (first | exact Drawn0.refl _ | apply Drawn0.step)⟩
     ·rw [if_neg c5] at H
      have c5b0 : ((rdOf ByteArray.empty l0 x5_1).toList == a1.toList) = false := beq_eq_false_iff_ne.mpr c5
      have c5b1 : ((rdOf ByteArray.empty l0 x5_1).toList != a1.toList) = true := bne_iff_ne.mpr c5
      have H' := Aside0.mk H
      clear H
      have p433 : 0 ≤ (x5_1 : Int) := of_decide_eq_true (by first | (with_reducible assumption) | assumption)
      have q433 : x5_1 < (l0.length : Int) := of_decide_eq_true (by first | (with_reducible assumption) | assumption)
      obtain ⟨ad433, e433, hx433_0⟩ := Kd.at_string HR0.out x5_1 p433 q433
      cases e433
      replace p433 := eq_true p433
      replace q433 := eq_true q433
      go_wp2
      go_roundg k1
      case measure => have := HK1.out; omega
      case rel => exact ⟨(wrap64 (x5_1 + 1)), (rf__), H', ⟨by have := HK1.out; omega⟩, by repeat (first | exact Drawn0.refl _ | apply Drawn0.step)⟩
    ·rw [if_neg c4] at H
     exact absurd H (by simp)
   ·rw [if_neg c3] at H
    have c3b0 := decide_eq_false c3
    clear c3
    obtain rfl := Option.some.inj H
    go_wp2
    go_ret
    exact ⟨by first | rfl | (simp; done) | (simp [*]; done), by repeat (first | exact Drawn0.refl _ | apply Drawn0.step)⟩
end Go.Proofs.Ytcijlemojododaa.P

namespace Go.Proofs.Ytcijlemojododaa.P
open Go.RowKit Go.Proofs.YtcijlemojododaaW.PrintWords Go.Proofs.YtcijlemojododaaW.PrintLast Go.Proofs.YtcijlemojododaaW.PrintMore
attribute [local go_sem] max2_int min2_int max_two min_two max_three min_three max_four min_four   -- for this text's walks alone
set_option linter.unusedVariables false
set_option linter.unusedSimpArgs false
/-! ### spec_l6Ok: function 66 -/
mutual
def spec_l6Ok.j0 : Nat → Bool → Int → Int → Int → Int → List (S91) → List (S82) → List (S85) → Int → List ByteArray → List ByteArray → Int → Int → Int → Option (Bool)
 | 0, _, _, _, _, _, _, _, _, _, _, _, _, _, _ => none
 | k + 1, x32, x435000, x435001, x435002, x435003, x435004, x435005, x435006, x436000, x436001, x436002, x436003, x436004, x436005 => if x32 = true then (some false) else (spec_l6Ok.l0 k 0 x435000 x435001 x435002 x435003 x435004 x435005 x435006 x436000 x436001 x436002 x436003 x436004 x436005)
def spec_l6Ok.l0 : Nat → Int → Int → Int → Int → Int → List (S91) → List (S82) → List (S85) → Int → List ByteArray → List ByteArray → Int → Int → Int → Option (Bool)
 | 0, _, _, _, _, _, _, _, _, _, _, _, _, _, _ => none
 | k + 1, x5, x435000, x435001, x435002, x435003, x435004, x435005, x435006, x436000, x436001, x436002, x436003, x436004, x436005 => if x5 < (x436001.length : Int) then (if 0 ≤ x5 then (if ((rdOf ByteArray.empty x436001 x5).size : Int) = x435000 then (spec_l6Ok.l0 k (wrap64 (x5 + 1)) x435000 x435001 x435002 x435003 x435004 x435005 x435006 x436000 x436001 x436002 x436003 x436004 x436005) else (some false)) else (none)) else (spec_l6Ok.l1 k 0 x435000 x435001 x435002 x435003 x435004 x435005 x435006 x436000 x436001 x436002 x436003 x436004 x436005)
def spec_l6Ok.l1 : Nat → Int → Int → Int → Int → Int → List (S91) → List (S82) → List (S85) → Int → List ByteArray → List ByteArray → Int → Int → Int → Option (Bool)
 | 0, _, _, _, _, _, _, _, _, _, _, _, _, _, _ => none
 | k + 1, x6, x435000, x435001, x435002, x435003, x435004, x435005, x435006, x436000, x436001, x436002, x436003, x436004, x436005 => if x6 < (x436002.length : Int) then (if 0 ≤ x6 then (if ((rdOf ByteArray.empty x436002 x6).size : Int) = x435000 then (if x6 ≤ (x436002.length : Int) then ((spec_l4Has.f k (x436002.take (x6 : Int).toNat) (rdOf ByteArray.empty x436002 x6)).bind fun t441 => (if t441 = true then (some false) else (spec_l6Ok.l1 k (wrap64 (x6 + 1)) x435000 x435001 x435002 x435003 x435004 x435005 x435006 x436000 x436001 x436002 x436003 x436004 x436005))) else (none)) else (some false)) else (none)) else (if x436000 = 0 then (if (x436001.length : Int) = 0 then (if (x436002.length : Int) = 0 then (if x436003 = 0 then (some (x436004 == 0)) else (some false)) else (some false)) else (some false)) else ((spec_l4Range.f x436003 0 x435003).bind fun t442 => (if t442 = true then ((spec_l4Range.f x436004 1 (wrap64 (x436003 + 1))).bind fun t443 => (if t443 = true then (if x436000 = 2 then (some true) else (some (x436004 == (wrap64 (x436003 + 1))))) else (some false))) else (some false))))
end
def spec_l6Ok.f (k : Nat) (a0_0 : Int) (a0_1 : Int) (a0_2 : Int) (a0_3 : Int) (l0_4 : List (S91)) (l0_5 : List (S82)) (l0_6 : List (S85)) (a1_0 : Int) (l1_1 : List ByteArray) (l1_2 : List ByteArray) (a1_3 : Int) (a1_4 : Int) (a1_5 : Int) : Option (Bool) := if a1_0 < 0 then (spec_l6Ok.j0 k true a0_0 a0_1 a0_2 a0_3 l0_4 l0_5 l0_6 a1_0 l1_1 l1_2 a1_3 a1_4 a1_5) else (if a1_0 > 2 then (spec_l6Ok.j0 k true a0_0 a0_1 a0_2 a0_3 l0_4 l0_5 l0_6 a1_0 l1_1 l1_2 a1_3 a1_4 a1_5) else ((spec_l4Range.f a1_5 0 1000000000).bind fun t436 => (if t436 = true then (if (l1_1.length : Int) > 23200 then (spec_l6Ok.j0 k true a0_0 a0_1 a0_2 a0_3 l0_4 l0_5 l0_6 a1_0 l1_1 l1_2 a1_3 a1_4 a1_5) else (spec_l6Ok.j0 k (decide ((l1_2.length : Int) > 600)) a0_0 a0_1 a0_2 a0_3 l0_4 l0_5 l0_6 a1_0 l1_1 l1_2 a1_3 a1_4 a1_5)) else (spec_l6Ok.j0 k true a0_0 a0_1 a0_2 a0_3 l0_4 l0_5 l0_6 a1_0 l1_1 l1_2 a1_3 a1_4 a1_5))))
set_option maxHeartbeats 8000000 in
set_option maxRecDepth 100000 in
theorem spec_l6Ok.calls (k : Nat) (a0_0 : Int) (a0_1 : Int) (a0_2 : Int) (a0_3 : Int) (A0_4 : Option Addr) (c0_4 : Nat) (l0_4 : List (S91)) (A0_5 : Option Addr) (c0_5 : Nat) (l0_5 : List (S82)) (A0_6 : Option Addr) (c0_6 : Nat) (l0_6 : List (S85)) (a1_0 : Int) (A1_1 : Option Addr) (c1_1 : Nat) (l1_1 : List ByteArray) (A1_2 : Option Addr) (c1_2 : Nat) (l1_2 : List ByteArray) (a1_3 : Int) (a1_4 : Int) (a1_5 : Int) (r : Bool) (w : World) (hr0_4 : Kd.C k91 w A0_4 l0_4.length l0_4) (hc0_4 : l0_4.length ≤ c0_4) (hr0_5 : Kd.C k82 w A0_5 l0_5.length l0_5) (hc0_5 : l0_5.length ≤ c0_5) (hr0_6 : Kd.C k85 w A0_6 l0_6.length l0_6) (hc0_6 : l0_6.length ≤ c0_6) (hr1_1 : Kd.C Kd.string w A1_1 l1_1.length l1_1) (hc1_1 : l1_1.length ≤ c1_1) (hr1_2 : Kd.C Kd.string w A1_2 l1_2.length l1_2) (hc1_2 : l1_2.length ≤ c1_2) (h : spec_l6Ok.f k a0_0 a0_1 a0_2 a0_3 l0_4 l0_5 l0_6 a1_0 l1_1 l1_2 a1_3 a1_4 a1_5 = some r) :
  Calls Try.prog 66 #[.agg #[.int .i64 a0_0, .int .i64 a0_1, .int .i64 a0_2, .int .i64 a0_3, .slice A0_4 l0_4.length c0_4, .slice A0_5 l0_5.length c0_5, .slice A0_6 l0_6.length c0_6], .agg #[.int .i64 a1_0, .slice A1_1 l1_1.length c1_1, .slice A1_2 l1_2.length c1_2, .int .i64 a1_3, .int .i64 a1_4, .int .i64 a1_5]] w fun e w' => e = .returned (.bool r) ∧ Below w.heap.size w w' := by
 have hu33 := Try.underlying33
 have hu43 := Try.underlying43
 have HR0_4 := Aside0.mk hr0_4
 have HC0_4 := Aside0.mk hc0_4
 clear hr0_4 hc0_4
 have HR0_5 := Aside0.mk hr0_5
 have HC0_5 := Aside0.mk hc0_5
 clear hr0_5 hc0_5
 have HR0_6 := Aside0.mk hr0_6
 have HC0_6 := Aside0.mk hc0_6
 clear hr0_6 hc0_6
 have HR1_1 := Aside0.mk hr1_1
 have HC1_1 := Aside0.mk hc1_1
 clear hr1_1 hc1_1
 have HR1_2 := Aside0.mk hr1_2
 have HC1_2 := Aside0.mk hc1_2
 clear hr1_2 hc1_2
 have HB := am__ (Below.refl w.heap.size w)
 have H : (if a1_0 < 0 then (spec_l6Ok.j0 k true a0_0 a0_1 a0_2 a0_3 l0_4 l0_5 l0_6 a1_0 l1_1 l1_2 a1_3 a1_4 a1_5) else (if a1_0 > 2 then (spec_l6Ok.j0 k true a0_0 a0_1 a0_2 a0_3 l0_4 l0_5 l0_6 a1_0 l1_1 l1_2 a1_3 a1_4 a1_5) else ((spec_l4Range.f a1_5 0 1000000000).bind fun t436 => (if t436 = true then (if (l1_1.length : Int) > 23200 then (spec_l6Ok.j0 k true a0_0 a0_1 a0_2 a0_3 l0_4 l0_5 l0_6 a1_0 l1_1 l1_2 a1_3 a1_4 a1_5) else (spec_l6Ok.j0 k (decide ((l1_2.length : Int) > 600)) a0_0 a0_1 a0_2 a0_3 l0_4 l0_5 l0_6 a1_0 l1_1 l1_2 a1_3 a1_4 a1_5)) else (spec_l6Ok.j0 k true a0_0 a0_1 a0_2 a0_3 l0_4 l0_5 l0_6 a1_0 l1_1 l1_2 a1_3 a1_4 a1_5))))) = some r := h
 clear h
 have HC3 := Aside0.mk H
 clear H
 go_enter Try.func66, Try.ntmps66
 go_upto_region 1 with (first | ((with_reducible refine gate_dst (N := 2) rfl ?_); (try (refine gate_guard (by rfl) ?_; dsimp only)); refine be__ 2 #[.int .i64 a0_0, .int .i64 a0_1, .int .i64 a0_2, .int .i64 a0_3, .slice A0_4 l0_4.length c0_4, .slice A0_5 l0_5.length c0_5, .slice A0_6 l0_6.length c0_6] 33 ?_; intro gb434 hg w4 hbox hb; have BK434 := am__ (hbox); have GW434 := am__ ((bsz__ hg bel__ : w.heap.size ≤ gb434)); have GE434 := am__ ((bsz__ hg bel__ : w.heap.size ≤ gb434)); replace HB := am__ (below_step (bel__) hb); clear hb hbox hg) | ((with_reducible refine gate_dst (N := 3) rfl ?_); (try (refine gate_guard (by rfl) ?_; dsimp only)); refine be__ 3 #[.int .i64 a1_0, .slice A1_1 l1_1.length c1_1, .slice A1_2 l1_2.length c1_2, .int .i64 a1_3, .int .i64 a1_4, .int .i64 a1_5] 43 ?_; intro gb435 hg w5 hbox hb; have BK435 := am__ (hbox); have GW435 := am__ ((bsz__ hg bel__ : w.heap.size ≤ gb435)); have GE435 := am__ ((bsz__ hg bel__ : w.heap.size ≤ gb435)); replace HB := am__ (below_step (bel__) hb); have NB434_435 := am__ ((nl__ hg BK434.out : gb434 ≠ gb435)); have NB435_434 := am__ ((ng__ hg BK434.out : gb435 ≠ gb434)); replace BK434 := am__ (blb__ BK434.out hb); clear hb hbox hg))
 repeat (go_quiet (first | ((with_reducible refine gate_dst (N := 2) rfl ?_); (try (refine gate_guard (by rfl) ?_; dsimp only)); refine be__ 2 #[.int .i64 a0_0, .int .i64 a0_1, .int .i64 a0_2, .int .i64 a0_3, .slice A0_4 l0_4.length c0_4, .slice A0_5 l0_5.length c0_5, .slice A0_6 l0_6.length c0_6] 33 ?_; intro gb434 hg w4 hbox hb; have BK434 := am__ (hbox); have GW434 := am__ ((bsz__ hg bel__ : w.heap.size ≤ gb434)); have GE434 := am__ ((bsz__ hg bel__ : w.heap.size ≤ gb434)); replace HB := am__ (below_step (bel__) hb); clear hb hbox hg) | ((with_reducible refine gate_dst (N := 3) rfl ?_); (try (refine gate_guard (by rfl) ?_; dsimp only)); refine be__ 3 #[.int .i64 a1_0, .slice A1_1 l1_1.length c1_1, .slice A1_2 l1_2.length c1_2, .int .i64 a1_3, .int .i64 a1_4, .int .i64 a1_5] 43 ?_; intro gb435 hg w5 hbox hb; have BK435 := am__ (hbox); have GW435 := am__ ((bsz__ hg bel__ : w.heap.size ≤ gb435)); have GE435 := am__ ((bsz__ hg bel__ : w.heap.size ≤ gb435)); replace HB := am__ (below_step (bel__) hb); have NB434_435 := am__ ((nl__ hg BK434.out : gb434 ≠ gb435)); have NB435_434 := am__ ((ng__ hg BK434.out : gb435 ≠ gb434)); replace BK434 := am__ (blb__ BK434.out hb); clear hb hbox hg)); go_upto_region 1 with (first | ((with_reducible refine gate_dst (N := 2) rfl ?_); (try (refine gate_guard (by rfl) ?_; dsimp only)); refine be__ 2 #[.int .i64 a0_0, .int .i64 a0_1, .int .i64 a0_2, .int .i64 a0_3, .slice A0_4 l0_4.length c0_4, .slice A0_5 l0_5.length c0_5, .slice A0_6 l0_6.length c0_6] 33 ?_; intro gb434 hg w4 hbox hb; have BK434 := am__ (hbox); have GW434 := am__ ((bsz__ hg bel__ : w.heap.size ≤ gb434)); have GE434 := am__ ((bsz__ hg bel__ : w.heap.size ≤ gb434)); replace HB := am__ (below_step (bel__) hb); clear hb hbox hg) | ((with_reducible refine gate_dst (N := 3) rfl ?_); (try (refine gate_guard (by rfl) ?_; dsimp only)); refine be__ 3 #[.int .i64 a1_0, .slice A1_1 l1_1.length c1_1, .slice A1_2 l1_2.length c1_2, .int .i64 a1_3, .int .i64 a1_4, .int .i64 a1_5] 43 ?_; intro gb435 hg w5 hbox hb; have BK435 := am__ (hbox); have GW435 := am__ ((bsz__ hg bel__ : w.heap.size ≤ gb435)); have GE435 := am__ ((bsz__ hg bel__ : w.heap.size ≤ gb435)); replace HB := am__ (below_step (bel__) hb); have NB434_435 := am__ ((nl__ hg BK434.out : gb434 ≠ gb435)); have NB435_434 := am__ ((ng__ hg BK434.out : gb435 ≠ gb434)); replace BK434 := am__ (blb__ BK434.out hb); clear hb hbox hg)))
 (try simp only [Act.put, List.setIfInBounds_toArray, List.set_cons_zero, List.set_cons_succ])
 go_cut [32] (fun v32 wc => ∃ (kq : Nat) (x32_2 : Bool), v32 = .bool x32_2 ∧ Aside0 (spec_l6Ok.j0 kq x32_2 a0_0 a0_1 a0_2 a0_3 l0_4 l0_5 l0_6 a1_0 l1_1 l1_2 a1_3 a1_4 a1_5 = some r) ∧ Aside0 (kq ≤ k) ∧ Aside0 (wc.heap[gb434]? = some (.cells #[.int .i64 a0_0, .int .i64 a0_1, .int .i64 a0_2, .int .i64 a0_3, (.slice A0_4 l0_4.length c0_4), (.slice A0_5 l0_5.length c0_5), (.slice A0_6 l0_6.length c0_6)] 33 (0, 0))) ∧ Aside0 (wc.heap[gb435]? = some (.cells #[.int .i64 a1_0, (.slice A1_1 l1_1.length c1_1), (.slice A1_2 l1_2.length c1_2), .int .i64 a1_3, .int .i64 a1_4, .int .i64 a1_5] 43 (0, 0))) ∧ Aside0 (Below w.heap.size w wc))
 case first =>
  have H := HC3.out
  clear HC3
  by_cases c6 : a1_0 < 0
  ·rw [if_pos c6] at H
   have c6b0 := decide_eq_true c6
   clear c6
   (first | rw [c6b0] | (simp only [i64_w, i32_w]; rw [c6b0]) | skip)
   have H' := Aside0.mk H
   clear H
   have hnb7 := NB435_434.out
   have hnc7 := NB434_435.out
   obtain ⟨hcz8_0, hcz8_1, hcz8_2, hcz8_3, hcz8_4, hcz8_5, hfz8_0, hfz8_1, hfz8_2, hfz8_3, hfz8_4, hfz8_5⟩ := bk6__ BK435.out
   go_wp2
   repeat (go_quiet (fail); try go_wp2)
   go_meet
   case rel => exact ⟨_, (true), (rf__), H', ⟨by first | omega | exact Nat.le_refl _⟩, ⟨blk__ BK434.out⟩, ⟨blk__ BK435.out⟩, ⟨bel__⟩⟩
  ·rw [if_neg c6] at H
   have c6b0 := decide_eq_false c6
   clear c6
   (first | rw [c6b0] | (simp only [i64_w, i32_w]; rw [c6b0]) | skip)
   by_cases c9 : a1_0 > 2
   ·rw [if_pos c9] at H
    have c9b0 : decide (2 < a1_0) = true := decide_eq_true c9
    clear c9
    have H' := Aside0.mk H
    clear H
    have hnb10 := NB435_434.out
    have hnc10 := NB434_435.out
    obtain ⟨hcz11_0, hcz11_1, hcz11_2, hcz11_3, hcz11_4, hcz11_5, hfz11_0, hfz11_1, hfz11_2, hfz11_3, hfz11_4, hfz11_5⟩ := bk6__ BK435.out
    go_wp2
    repeat (go_quiet (fail); try go_wp2)
    go_meet
    case rel => exact ⟨_, (true), (rf__), H', ⟨by first | omega | exact Nat.le_refl _⟩, ⟨blk__ BK434.out⟩, ⟨blk__ BK435.out⟩, ⟨bel__⟩⟩
   ·rw [if_neg c9] at H
    have c9b0 : decide (2 < a1_0) = false := decide_eq_false c9
    clear c9
    replace H := Option.bind_eq_some_iff.mp H
    obtain ⟨t436, A120, H⟩ := H
    have A12 := Aside0.mk A120
    clear A120
    by_cases c13 : t436 = true
    ·subst c13
     rw [if_pos rfl] at H
     by_cases c14 : (l1_1.length : Int) > 23200
     ·rw [if_pos c14] at H
      have c14b0 : decide (23200 < (l1_1.length : Int)) = true := decide_eq_true c14
      have c14b1 : decide (23200 < l1_1.length) = true := decide_eq_true (by omega)
      clear c14
      have H' := Aside0.mk H
      clear H
      have hnb15 := NB435_434.out
      have hnc15 := NB434_435.out
      obtain ⟨hcz16_0, hcz16_1, hcz16_2, hcz16_3, hcz16_4, hcz16_5, hfz16_0, hfz16_1, hfz16_2, hfz16_3, hfz16_4, hfz16_5⟩ := bk6__ BK435.out
      go_wp2_with (first | (go_at_call 46; (with_reducible refine (spec_l4Range.calls a1_5 0 1000000000 true _ A12.out).mono ?_); rintro e w' ⟨rfl, ⟨nd, rfl⟩⟩; (try exact dd__)))
      repeat (go_quiet (first | (go_at_call 46; (with_reducible refine (spec_l4Range.calls a1_5 0 1000000000 true _ A12.out).mono ?_); rintro e w' ⟨rfl, ⟨nd, rfl⟩⟩; (try exact dd__))); try go_wp2_with (first | (go_at_call 46; (with_reducible refine (spec_l4Range.calls a1_5 0 1000000000 true _ A12.out).mono ?_); rintro e w' ⟨rfl, ⟨nd, rfl⟩⟩; (try exact dd__))))
      go_meet
      case rel => exact ⟨_, (true), (rf__), H', ⟨by first | omega | exact Nat.le_refl _⟩, ⟨blk__ BK434.out⟩, ⟨blk__ BK435.out⟩, ⟨bel__⟩⟩
     ·rw [if_neg c14] at H
      have c14b0 : decide (23200 < (l1_1.length : Int)) = false := decide_eq_false c14
      have c14b1 : decide (23200 < l1_1.length) = false := decide_eq_false (by omega)
      clear c14
      have H' := Aside0.mk H
      clear H
      have hnb17 := NB435_434.out
      have hnc17 := NB434_435.out
      obtain ⟨hcz18_0, hcz18_1, hcz18_2, hcz18_3, hcz18_4, hcz18_5, hfz18_0, hfz18_1, hfz18_2, hfz18_3, hfz18_4, hfz18_5⟩ := bk6__ BK435.out
      go_wp2_with (first | (go_at_call 46; (with_reducible refine (spec_l4Range.calls a1_5 0 1000000000 true _ A12.out).mono ?_); rintro e w' ⟨rfl, ⟨nd, rfl⟩⟩; (try exact dd__)))
      repeat (go_quiet (first | (go_at_call 46; (with_reducible refine (spec_l4Range.calls a1_5 0 1000000000 true _ A12.out).mono ?_); rintro e w' ⟨rfl, ⟨nd, rfl⟩⟩; (try exact dd__))); try go_wp2_with (first | (go_at_call 46; (with_reducible refine (spec_l4Range.calls a1_5 0 1000000000 true _ A12.out).mono ?_); rintro e w' ⟨rfl, ⟨nd, rfl⟩⟩; (try exact dd__))))
      go_meet
      case rel => exact ⟨_, (decide ((l1_2.length : Int) > 600)), (rf__), H', ⟨by first | omega | exact Nat.le_refl _⟩, ⟨blk__ BK434.out⟩, ⟨blk__ BK435.out⟩, ⟨bel__⟩⟩
    ·replace c13 := Bool.eq_false_iff.mpr c13
     subst c13
     have H1 : (spec_l6Ok.j0 k true a0_0 a0_1 a0_2 a0_3 l0_4 l0_5 l0_6 a1_0 l1_1 l1_2 a1_3 a1_4 a1_5) = some r := by rw [if_neg (show ¬ (false = true) by decide)] at H; exact H
     clear H
     have H := H1
     clear H1
     have H' := Aside0.mk H
     clear H
     have hnb19 := NB435_434.out
     have hnc19 := NB434_435.out
     obtain ⟨hcz20_0, hcz20_1, hcz20_2, hcz20_3, hcz20_4, hcz20_5, hfz20_0, hfz20_1, hfz20_2, hfz20_3, hfz20_4, hfz20_5⟩ := bk6__ BK435.out
     go_wp2_with (first | (go_at_call 46; (with_reducible refine (spec_l4Range.calls a1_5 0 1000000000 false _ A12.out).mono ?_); rintro e w' ⟨rfl, ⟨nd, rfl⟩⟩; (try exact dd__)))
     repeat (go_quiet (first | (go_at_call 46; (with_reducible refine (spec_l4Range.calls a1_5 0 1000000000 false _ A12.out).mono ?_); rintro e w' ⟨rfl, ⟨nd, rfl⟩⟩; (try exact dd__))); try go_wp2_with (first | (go_at_call 46; (with_reducible refine (spec_l4Range.calls a1_5 0 1000000000 false _ A12.out).mono ?_); rintro e w' ⟨rfl, ⟨nd, rfl⟩⟩; (try exact dd__))))
     go_meet
     case rel => exact ⟨_, (true), (rf__), H', ⟨by first | omega | exact Nat.le_refl _⟩, ⟨blk__ BK434.out⟩, ⟨blk__ BK435.out⟩, ⟨bel__⟩⟩
 case rest =>
  clear HC3
  try clear c1
  try clear p2
  try clear c6
  try clear c6b0
  try clear c7
  try clear c9
  try clear c9b0
  try clear c10
  try clear c13
  try clear c14
  try clear c14b0
  try clear c14b1
  try clear c15
  try clear c17
  try clear c19
  try clear hcz11_0 hcz11_1 hcz11_2 hcz11_3 hcz11_4 hcz11_5 hfz11_0 hfz11_1 hfz11_2 hfz11_3 hfz11_4 hfz11_5
  try clear hcz16_0 hcz16_1 hcz16_2 hcz16_3 hcz16_4 hcz16_5 hfz16_0 hfz16_1 hfz16_2 hfz16_3 hfz16_4 hfz16_5
  try clear hcz18_0 hcz18_1 hcz18_2 hcz18_3 hcz18_4 hcz18_5 hfz18_0 hfz18_1 hfz18_2 hfz18_3 hfz18_4 hfz18_5
  try clear hcz20_0 hcz20_1 hcz20_2 hcz20_3 hcz20_4 hcz20_5 hfz20_0 hfz20_1 hfz20_2 hfz20_3 hfz20_4 hfz20_5
  try clear hcz8_0 hcz8_1 hcz8_2 hcz8_3 hcz8_4 hcz8_5 hfz8_0 hfz8_1 hfz8_2 hfz8_3 hfz8_4 hfz8_5
  obtain ⟨kq, x32_2, rfl, HA, HJ2, BK434, BK435, HB⟩ := hcut
  cases kq with
  | zero => exact absurd HA.out (by simp [spec_l6Ok.j0])
  | succ kj2 =>
   have H := HA.out
   clear HA
   simp only [spec_l6Ok.j0] at H
   by_cases c21 : x32_2 = true
   ·subst c21
    rw [if_pos rfl] at H
    obtain rfl := Option.some.inj H
    go_wp2
    repeat (go_quiet (fail); try go_wp2)
    go_ret
    exact ⟨ee__, bel__⟩
   ·replace c21 := Bool.eq_false_iff.mpr c21
    subst c21
    have H1 : (spec_l6Ok.l0 kj2 0 a0_0 a0_1 a0_2 a0_3 l0_4 l0_5 l0_6 a1_0 l1_1 l1_2 a1_3 a1_4 a1_5) = some r := by rw [if_neg (show ¬ (false = true) by decide)] at H; exact H
    clear H
    have H := H1
    clear H1
    have H' := Aside0.mk H
    clear H
    go_wp2
    repeat (go_quiet (fail); try go_wp2)
    go_loopg [5] kj2 (fun kq v5 w' => ∃ (x5_2 : Int), v5 = .int .i64 x5_2 ∧ Aside0 (spec_l6Ok.l0 kq x5_2 a0_0 a0_1 a0_2 a0_3 l0_4 l0_5 l0_6 a1_0 l1_1 l1_2 a1_3 a1_4 a1_5 = some r) ∧ Aside0 (kq ≤ kj2) ∧ Aside0 (w'.heap[gb434]? = some (.cells #[.int .i64 a0_0, .int .i64 a0_1, .int .i64 a0_2, .int .i64 a0_3, (.slice A0_4 l0_4.length c0_4), (.slice A0_5 l0_5.length c0_5), (.slice A0_6 l0_6.length c0_6)] 33 (0, 0))) ∧ Aside0 (w'.heap[gb435]? = some (.cells #[.int .i64 a1_0, (.slice A1_1 l1_1.length c1_1), (.slice A1_2 l1_2.length c1_2), .int .i64 a1_3, .int .i64 a1_4, .int .i64 a1_5] 43 (0, 0))) ∧ Aside0 (Below w.heap.size w w'))
    case atStart => exact ⟨(0), (rf__), H', ⟨Nat.le_refl _⟩, ⟨blk__ BK434.out⟩, ⟨blk__ BK435.out⟩, ⟨bel__⟩⟩
    case round =>
     clear H'
     try clear c1
     try clear c2
     try clear p2
     try clear c6
     try clear c6b0
     try clear c7
     try clear c9
     try clear c9b0
     try clear c10
     try clear c13
     try clear c14
     try clear c14b0
     try clear c14b1
     try clear c15
     try clear c17
     try clear c19
     try clear c21
     try clear hcz11_0 hcz11_1 hcz11_2 hcz11_3 hcz11_4 hcz11_5 hfz11_0 hfz11_1 hfz11_2 hfz11_3 hfz11_4 hfz11_5
     try clear hcz16_0 hcz16_1 hcz16_2 hcz16_3 hcz16_4 hcz16_5 hfz16_0 hfz16_1 hfz16_2 hfz16_3 hfz16_4 hfz16_5
     try clear hcz18_0 hcz18_1 hcz18_2 hcz18_3 hcz18_4 hcz18_5 hfz18_0 hfz18_1 hfz18_2 hfz18_3 hfz18_4 hfz18_5
     try clear hcz20_0 hcz20_1 hcz20_2 hcz20_3 hcz20_4 hcz20_5 hfz20_0 hfz20_1 hfz20_2 hfz20_3 hfz20_4 hfz20_5
     try clear hcz8_0 hcz8_1 hcz8_2 hcz8_3 hcz8_4 hcz8_5 hfz8_0 hfz8_1 hfz8_2 hfz8_3 hfz8_4 hfz8_5
     try clear p2
     obtain ⟨x5_2, rfl, HA, HK2, BK434, BK435, HB⟩ := hrel
     cases gk with
     | zero => exact absurd HA.out (by simp [spec_l6Ok.l0])
     | succ k2 =>
      have H := HA.out
      clear HA
      simp only [spec_l6Ok.l0] at H
      by_cases c22 : x5_2 < (l1_1.length : Int)
      ·rw [if_pos c22] at H
       have c22b0 := decide_eq_true c22
       clear c22
       by_cases c23 : 0 ≤ x5_2
       ·rw [if_pos c23] at H
        have c23b0 := decide_eq_true c23
        clear c23
        by_cases c24 : ((rdOf ByteArray.empty l1_1 x5_2).size : Int) = a0_0
        ·rw [if_pos c24] at H
         have c24b0 : (((rdOf ByteArray.empty l1_1 x5_2).size : Int) == a0_0) = true := beq_iff_eq.mpr c24
         have c24b1 : (((rdOf ByteArray.empty l1_1 x5_2).size : Int) != a0_0) = false := bne_eq_false_iff_eq.mpr c24
         clear c24
         have H' := Aside0.mk H
         clear H
         have hnb25 := NB435_434.out
         have hnc25 := NB434_435.out
         obtain ⟨hcz26_0, hcz26_1, hcz26_2, hcz26_3, hcz26_4, hcz26_5, hfz26_0, hfz26_1, hfz26_2, hfz26_3, hfz26_4, hfz26_5⟩ := bk6__ BK435.out
         have p437 : 0 ≤ (x5_2 : Int) := of_decide_eq_true (by first | (with_reducible assumption) | assumption)
         have q437 : x5_2 < (l1_1.length : Int) := of_decide_eq_true (by first | (with_reducible assumption) | assumption)
         obtain ⟨ad437, e437, hx437_0⟩ := Kd.at_string HR1_1.out x5_2 p437 q437
         cases e437
         try replace hx437_0 := hb__ HB.out hx437_0
         replace p437 := eq_true p437
         replace q437 := eq_true q437
         obtain ⟨hcz27_0, hcz27_1, hcz27_2, hcz27_3, hcz27_4, hcz27_5, hcz27_6, hfz27_0, hfz27_1, hfz27_2, hfz27_3, hfz27_4, hfz27_5, hfz27_6⟩ := bk7__ BK434.out
         go_wp2
         repeat (go_quiet (fail); try go_wp2)
         go_roundg k2
         case measure => have := HJ2.out; have := HK2.out; omega
         case rel => exact ⟨(wrap64 (x5_2 + 1)), (rf__), H', ⟨by have := HJ2.out; have := HK2.out; omega⟩, ⟨blk__ BK434.out⟩, ⟨blk__ BK435.out⟩, ⟨bel__⟩⟩
        ·rw [if_neg c24] at H
         have c24b0 : (((rdOf ByteArray.empty l1_1 x5_2).size : Int) == a0_0) = false := beq_eq_false_iff_ne.mpr c24
         have c24b1 : (((rdOf ByteArray.empty l1_1 x5_2).size : Int) != a0_0) = true := bne_iff_ne.mpr c24
         obtain rfl := Option.some.inj H
         have hnb28 := NB435_434.out
         have hnc28 := NB434_435.out
         obtain ⟨hcz29_0, hcz29_1, hcz29_2, hcz29_3, hcz29_4, hcz29_5, hfz29_0, hfz29_1, hfz29_2, hfz29_3, hfz29_4, hfz29_5⟩ := bk6__ BK435.out
         have p437 : 0 ≤ (x5_2 : Int) := of_decide_eq_true (by first | (with_reducible assumption) | assumption)
         have q437 : x5_2 < (l1_1.length : Int) := of_decide_eq_true (by first | (with_reducible assumption) | assumption)
         obtain ⟨ad437, e437, hx437_0⟩ := Kd.at_string HR1_1.out x5_2 p437 q437
         cases e437
         try replace hx437_0 := hb__ HB.out hx437_0
         replace p437 := eq_true p437
         replace q437 := eq_true q437
         obtain ⟨hcz30_0, hcz30_1, hcz30_2, hcz30_3, hcz30_4, hcz30_5, hcz30_6, hfz30_0, hfz30_1, hfz30_2, hfz30_3, hfz30_4, hfz30_5, hfz30_6⟩ := bk7__ BK434.out
         go_wp2
         repeat (go_quiet (fail); try go_wp2)
         go_ret
         exact ⟨ee__, bel__⟩
       ·rw [if_neg c23] at H
        exact absurd H (by simp)
      ·rw [if_neg c22] at H
       have c22b0 := decide_eq_false c22
       clear c22
       have H' := Aside0.mk H
       clear H
       have hnb31 := NB435_434.out
       have hnc31 := NB434_435.out
       obtain ⟨hcz32_0, hcz32_1, hcz32_2, hcz32_3, hcz32_4, hcz32_5, hfz32_0, hfz32_1, hfz32_2, hfz32_3, hfz32_4, hfz32_5⟩ := bk6__ BK435.out
       go_wp2
       repeat (go_quiet (fail); try go_wp2)
       go_loopg [6] k2 (fun kq v6 w' => ∃ (x6_3 : Int), v6 = .int .i64 x6_3 ∧ Aside0 (spec_l6Ok.l1 kq x6_3 a0_0 a0_1 a0_2 a0_3 l0_4 l0_5 l0_6 a1_0 l1_1 l1_2 a1_3 a1_4 a1_5 = some r) ∧ Aside0 (kq ≤ k2) ∧ Aside0 (w'.heap[gb434]? = some (.cells #[.int .i64 a0_0, .int .i64 a0_1, .int .i64 a0_2, .int .i64 a0_3, (.slice A0_4 l0_4.length c0_4), (.slice A0_5 l0_5.length c0_5), (.slice A0_6 l0_6.length c0_6)] 33 (0, 0))) ∧ Aside0 (w'.heap[gb435]? = some (.cells #[.int .i64 a1_0, (.slice A1_1 l1_1.length c1_1), (.slice A1_2 l1_2.length c1_2), .int .i64 a1_3, .int .i64 a1_4, .int .i64 a1_5] 43 (0, 0))) ∧ Aside0 (Below w.heap.size w w'))
       case atStart => exact ⟨(0), (rf__), H', ⟨Nat.le_refl _⟩, ⟨blk__ BK434.out⟩, ⟨blk__ BK435.out⟩, ⟨bel__⟩⟩
       case round =>
        clear H'
        try clear c1
        try clear c2
        try clear p2
        try clear c3
        try clear p4
        try clear q4
        try clear hx4
        try clear c6
        try clear c6b0
        try clear p6
        try clear c7
        try clear c9
        try clear c9b0
        try clear c10
        try clear c13
        try clear c14
        try clear c14b0
        try clear c14b1
        try clear c15
        try clear c17
        try clear c19
        try clear c21
        try clear c22
        try clear c22b0
        try clear c23
        try clear c23b0
        try clear c24
        try clear c24b0
        try clear c24b1
        try clear c25
        try clear c28
        try clear c31
        try clear hcz11_0 hcz11_1 hcz11_2 hcz11_3 hcz11_4 hcz11_5 hfz11_0 hfz11_1 hfz11_2 hfz11_3 hfz11_4 hfz11_5
        try clear hcz16_0 hcz16_1 hcz16_2 hcz16_3 hcz16_4 hcz16_5 hfz16_0 hfz16_1 hfz16_2 hfz16_3 hfz16_4 hfz16_5
        try clear hcz18_0 hcz18_1 hcz18_2 hcz18_3 hcz18_4 hcz18_5 hfz18_0 hfz18_1 hfz18_2 hfz18_3 hfz18_4 hfz18_5
        try clear hcz20_0 hcz20_1 hcz20_2 hcz20_3 hcz20_4 hcz20_5 hfz20_0 hfz20_1 hfz20_2 hfz20_3 hfz20_4 hfz20_5
        try clear hcz26_0 hcz26_1 hcz26_2 hcz26_3 hcz26_4 hcz26_5 hfz26_0 hfz26_1 hfz26_2 hfz26_3 hfz26_4 hfz26_5
        try clear hcz27_0 hcz27_1 hcz27_2 hcz27_3 hcz27_4 hcz27_5 hcz27_6 hfz27_0 hfz27_1 hfz27_2 hfz27_3 hfz27_4 hfz27_5 hfz27_6
        try clear hcz29_0 hcz29_1 hcz29_2 hcz29_3 hcz29_4 hcz29_5 hfz29_0 hfz29_1 hfz29_2 hfz29_3 hfz29_4 hfz29_5
        try clear hcz30_0 hcz30_1 hcz30_2 hcz30_3 hcz30_4 hcz30_5 hcz30_6 hfz30_0 hfz30_1 hfz30_2 hfz30_3 hfz30_4 hfz30_5 hfz30_6
        try clear hcz32_0 hcz32_1 hcz32_2 hcz32_3 hcz32_4 hcz32_5 hfz32_0 hfz32_1 hfz32_2 hfz32_3 hfz32_4 hfz32_5
        try clear hcz8_0 hcz8_1 hcz8_2 hcz8_3 hcz8_4 hcz8_5 hfz8_0 hfz8_1 hfz8_2 hfz8_3 hfz8_4 hfz8_5
        try clear hx437_0
        try clear p2
        try clear p437
        try clear q437
        obtain ⟨x6_3, rfl, HA, HK3, BK434, BK435, HB⟩ := hrel
        cases gk with
        | zero => exact absurd HA.out (by simp [spec_l6Ok.l1])
        | succ k3 =>
         have H := HA.out
         clear HA
         simp only [spec_l6Ok.l1] at H
         by_cases c33 : x6_3 < (l1_2.length : Int)
         ·rw [if_pos c33] at H
          have c33b0 := decide_eq_true c33
          clear c33
          by_cases c34 : 0 ≤ x6_3
          ·rw [if_pos c34] at H
           have c34b0 := decide_eq_true c34
           clear c34
           by_cases c35 : ((rdOf ByteArray.empty l1_2 x6_3).size : Int) = a0_0
           ·rw [if_pos c35] at H
            have c35b0 : (((rdOf ByteArray.empty l1_2 x6_3).size : Int) == a0_0) = true := beq_iff_eq.mpr c35
            have c35b1 : (((rdOf ByteArray.empty l1_2 x6_3).size : Int) != a0_0) = false := bne_eq_false_iff_eq.mpr c35
            clear c35
            have c36b0 := eq_true (of_decide_eq_true (by first | (with_reducible assumption) | assumption) : 0 ≤ x6_3)
            by_cases c37 : x6_3 ≤ (l1_2.length : Int)
            ·rw [if_pos c37] at H
             have c37b0 := eq_true c37
             have c37b1 := decide_eq_true c37
             clear c37
             replace H := Option.bind_eq_some_iff.mp H
             obtain ⟨t441, A380, H⟩ := H
             have A38 := Aside0.mk A380
             clear A380
             by_cases c39 : t441 = true
             ·subst c39
              rw [if_pos rfl] at H
              obtain rfl := Option.some.inj H
              have hnb40 := NB435_434.out
              have hnc40 := NB434_435.out
              obtain ⟨hcz41_0, hcz41_1, hcz41_2, hcz41_3, hcz41_4, hcz41_5, hfz41_0, hfz41_1, hfz41_2, hfz41_3, hfz41_4, hfz41_5⟩ := bk6__ BK435.out
              have p438 : 0 ≤ (x6_3 : Int) := of_decide_eq_true (by first | (with_reducible assumption) | assumption)
              have q438 : x6_3 < (l1_2.length : Int) := of_decide_eq_true (by first | (with_reducible assumption) | assumption)
              obtain ⟨ad438, e438, hx438_0⟩ := Kd.at_string HR1_2.out x6_3 p438 q438
              cases e438
              try replace hx438_0 := hb__ HB.out hx438_0
              replace p438 := eq_true p438
              replace q438 := eq_true q438
              obtain ⟨hcz42_0, hcz42_1, hcz42_2, hcz42_3, hcz42_4, hcz42_5, hcz42_6, hfz42_0, hfz42_1, hfz42_2, hfz42_3, hfz42_4, hfz42_5, hfz42_6⟩ := bk7__ BK434.out
              obtain ⟨i043, hi043, _, hsz43, _⟩ := info_parts info9
              obtain ⟨hcut43, hA43, hC43⟩ := print_take_of (P := Try.prog) Value.string (⟨#[]⟩ : ByteArray) 38 9 .i64 Try.underlying38 hi043 hsz43 (some ad438) c1_2 l1_2 x6_3 (of_decide_eq_true (by first | (with_reducible assumption) | assumption)) (of_decide_eq_true (by first | (with_reducible assumption) | assumption)) HC1_2.out
              have HR439 := am__ (Kd.C_of_reads (h1 := fun _ => rfl) (hA43 _ (Kd.reads_of_C HR1_2.out)))
              have HC439 := Aside0.mk hC43
              clear hA43 hC43 hi043 hsz43
              have p440 : 0 ≤ (x6_3 : Int) := of_decide_eq_true (by first | (with_reducible assumption) | assumption)
              have q440 : x6_3 < (l1_2.length : Int) := of_decide_eq_true (by first | (with_reducible assumption) | assumption)
              obtain ⟨ad440, e440, hx440_0⟩ := Kd.at_string HR1_2.out x6_3 p440 q440
              obtain rfl : ad438 = ad440 := (by injection e440)
              try replace hx440_0 := hb__ HB.out hx440_0
              replace p440 := eq_true p440
              replace q440 := eq_true q440
              go_wp2_with (first | (go_at_call 78; refine calls_of_args (args' := #[.slice (some ad438) (l1_2.take (x6_3 : Int).toNat).length c1_2, .string (rdOf ByteArray.empty l1_2 x6_3)]) (by have h1_ := of_eq_true p438; have h2_ := of_eq_true q438; rw [show (l1_2.take (x6_3 : Int).toNat).length = (x6_3 : Int).toNat from by rw [List.length_take]; omega]) ?_; (with_reducible refine (spec_l4Has.calls k3 _ _ (l1_2.take (x6_3 : Int).toNat) (rdOf ByteArray.empty l1_2 x6_3) true _ ?side1 HC439.out A38.out).mono ?_); (case side1 => repeat (first | exact (Kd.C_below HR439.out HB.out) | (with_reducible refine Kd.C_alloc ?_ _) | (with_reducible refine Kd.C_drewN ?_ _) | (with_reducible refine Kd.C_drew ?_))); rintro e w' ⟨rfl, ⟨nd, rfl⟩⟩; (try exact dd__)))
              repeat (go_quiet (first | (go_at_call 78; refine calls_of_args (args' := #[.slice (some ad438) (l1_2.take (x6_3 : Int).toNat).length c1_2, .string (rdOf ByteArray.empty l1_2 x6_3)]) (by have h1_ := of_eq_true p438; have h2_ := of_eq_true q438; rw [show (l1_2.take (x6_3 : Int).toNat).length = (x6_3 : Int).toNat from by rw [List.length_take]; omega]) ?_; (with_reducible refine (spec_l4Has.calls k3 _ _ (l1_2.take (x6_3 : Int).toNat) (rdOf ByteArray.empty l1_2 x6_3) true _ ?side1 HC439.out A38.out).mono ?_); (case side1 => repeat (first | exact (Kd.C_below HR439.out HB.out) | (with_reducible refine Kd.C_alloc ?_ _) | (with_reducible refine Kd.C_drewN ?_ _) | (with_reducible refine Kd.C_drew ?_))); rintro e w' ⟨rfl, ⟨nd, rfl⟩⟩; (try exact dd__))); try go_wp2_with (first | (go_at_call 78; refine calls_of_args (args' := #[.slice (some ad438) (l1_2.take (x6_3 : Int).toNat).length c1_2, .string (rdOf ByteArray.empty l1_2 x6_3)]) (by have h1_ := of_eq_true p438; have h2_ := of_eq_true q438; rw [show (l1_2.take (x6_3 : Int).toNat).length = (x6_3 : Int).toNat from by rw [List.length_take]; omega]) ?_; (with_reducible refine (spec_l4Has.calls k3 _ _ (l1_2.take (x6_3 : Int).toNat) (rdOf ByteArray.empty l1_2 x6_3) true _ ?side1 HC439.out A38.out).mono ?_); (case side1 => repeat (first | exact (Kd.C_below HR439.out HB.out) | (with_reducible refine Kd.C_alloc ?_ _) | (with_reducible refine Kd.C_drewN ?_ _) | (with_reducible refine Kd.C_drew ?_))); rintro e w' ⟨rfl, ⟨nd, rfl⟩⟩; (try exact dd__))))
              go_ret
              exact ⟨ee__, bel__⟩
             ·replace c39 := Bool.eq_false_iff.mpr c39
              subst c39
              have H1 : (spec_l6Ok.l1 k3 (wrap64 (x6_3 + 1)) a0_0 a0_1 a0_2 a0_3 l0_4 l0_5 l0_6 a1_0 l1_1 l1_2 a1_3 a1_4 a1_5) = some r := by rw [if_neg (show ¬ (false = true) by decide)] at H; exact H
              clear H
              have H := H1
              clear H1
              have H' := Aside0.mk H
              clear H
              have hnb44 := NB435_434.out
              have hnc44 := NB434_435.out
              obtain ⟨hcz45_0, hcz45_1, hcz45_2, hcz45_3, hcz45_4, hcz45_5, hfz45_0, hfz45_1, hfz45_2, hfz45_3, hfz45_4, hfz45_5⟩ := bk6__ BK435.out
              have p438 : 0 ≤ (x6_3 : Int) := of_decide_eq_true (by first | (with_reducible assumption) | assumption)
              have q438 : x6_3 < (l1_2.length : Int) := of_decide_eq_true (by first | (with_reducible assumption) | assumption)
              obtain ⟨ad438, e438, hx438_0⟩ := Kd.at_string HR1_2.out x6_3 p438 q438
              cases e438
              try replace hx438_0 := hb__ HB.out hx438_0
              replace p438 := eq_true p438
              replace q438 := eq_true q438
              obtain ⟨hcz46_0, hcz46_1, hcz46_2, hcz46_3, hcz46_4, hcz46_5, hcz46_6, hfz46_0, hfz46_1, hfz46_2, hfz46_3, hfz46_4, hfz46_5, hfz46_6⟩ := bk7__ BK434.out
              obtain ⟨i047, hi047, _, hsz47, _⟩ := info_parts info9
              obtain ⟨hcut47, hA47, hC47⟩ := print_take_of (P := Try.prog) Value.string (⟨#[]⟩ : ByteArray) 38 9 .i64 Try.underlying38 hi047 hsz47 (some ad438) c1_2 l1_2 x6_3 (of_decide_eq_true (by first | (with_reducible assumption) | assumption)) (of_decide_eq_true (by first | (with_reducible assumption) | assumption)) HC1_2.out
              have HR439 := am__ (Kd.C_of_reads (h1 := fun _ => rfl) (hA47 _ (Kd.reads_of_C HR1_2.out)))
              have HC439 := Aside0.mk hC47
              clear hA47 hC47 hi047 hsz47
              have p440 : 0 ≤ (x6_3 : Int) := of_decide_eq_true (by first | (with_reducible assumption) | assumption)
              have q440 : x6_3 < (l1_2.length : Int) := of_decide_eq_true (by first | (with_reducible assumption) | assumption)
              obtain ⟨ad440, e440, hx440_0⟩ := Kd.at_string HR1_2.out x6_3 p440 q440
              obtain rfl : ad438 = ad440 := (by injection e440)
              try replace hx440_0 := hb__ HB.out hx440_0
              replace p440 := eq_true p440
              replace q440 := eq_true q440
              go_wp2_with (first | (go_at_call 78; refine calls_of_args (args' := #[.slice (some ad438) (l1_2.take (x6_3 : Int).toNat).length c1_2, .string (rdOf ByteArray.empty l1_2 x6_3)]) (by have h1_ := of_eq_true p438; have h2_ := of_eq_true q438; rw [show (l1_2.take (x6_3 : Int).toNat).length = (x6_3 : Int).toNat from by rw [List.length_take]; omega]) ?_; (with_reducible refine (spec_l4Has.calls k3 _ _ (l1_2.take (x6_3 : Int).toNat) (rdOf ByteArray.empty l1_2 x6_3) false _ ?side1 HC439.out A38.out).mono ?_); (case side1 => repeat (first | exact (Kd.C_below HR439.out HB.out) | (with_reducible refine Kd.C_alloc ?_ _) | (with_reducible refine Kd.C_drewN ?_ _) | (with_reducible refine Kd.C_drew ?_))); rintro e w' ⟨rfl, ⟨nd, rfl⟩⟩; (try exact dd__)))
              repeat (go_quiet (first | (go_at_call 78; refine calls_of_args (args' := #[.slice (some ad438) (l1_2.take (x6_3 : Int).toNat).length c1_2, .string (rdOf ByteArray.empty l1_2 x6_3)]) (by have h1_ := of_eq_true p438; have h2_ := of_eq_true q438; rw [show (l1_2.take (x6_3 : Int).toNat).length = (x6_3 : Int).toNat from by rw [List.length_take]; omega]) ?_; (with_reducible refine (spec_l4Has.calls k3 _ _ (l1_2.take (x6_3 : Int).toNat) (rdOf ByteArray.empty l1_2 x6_3) false _ ?side1 HC439.out A38.out).mono ?_); (case side1 => repeat (first | exact (Kd.C_below HR439.out HB.out) | (with_reducible refine Kd.C_alloc ?_ _) | (with_reducible refine Kd.C_drewN ?_ _) | (with_reducible refine Kd.C_drew ?_))); rintro e w' ⟨rfl, ⟨nd, rfl⟩⟩; (try exact dd__))); try go_wp2_with (first | (go_at_call 78; refine calls_of_args (args' := #[.slice (some ad438) (l1_2.take (x6_3 : Int).toNat).length c1_2, .string (rdOf ByteArray.empty l1_2 x6_3)]) (by have h1_ := of_eq_true p438; have h2_ := of_eq_true q438; rw [show (l1_2.take (x6_3 : Int).toNat).length = (x6_3 : Int).toNat from by rw [List.length_take]; omega]) ?_; (with_reducible refine (spec_l4Has.calls k3 _ _ (l1_2.take (x6_3 : Int).toNat) (rdOf ByteArray.empty l1_2 x6_3) false _ ?side1 HC439.out A38.out).mono ?_); (case side1 => repeat (first | exact (Kd.C_below HR439.out HB.out) | (with_reducible refine Kd.C_alloc ?_ _) | (with_reducible refine Kd.C_drewN ?_ _) | (with_reducible refine Kd.C_drew ?_))); rintro e w' ⟨rfl, ⟨nd, rfl⟩⟩; (try exact dd__))))
              go_roundg k3
              case measure => have := HJ2.out; have := HK2.out; have := HK3.out; omega
              case rel => exact ⟨(wrap64 (x6_3 + 1)), (rf__), H', ⟨by have := HJ2.out; have := HK2.out; have := HK3.out; omega⟩, ⟨blk__ BK434.out⟩, ⟨blk__ BK435.out⟩, ⟨bel__⟩⟩
            ·rw [if_neg c37] at H
             exact absurd H (by simp)
           ·rw [if_neg c35] at H
            have c35b0 : (((rdOf ByteArray.empty l1_2 x6_3).size : Int) == a0_0) = false := beq_eq_false_iff_ne.mpr c35
            have c35b1 : (((rdOf ByteArray.empty l1_2 x6_3).size : Int) != a0_0) = true := bne_iff_ne.mpr c35
            obtain rfl := Option.some.inj H
            have hnb48 := NB435_434.out
            have hnc48 := NB434_435.out
            obtain ⟨hcz49_0, hcz49_1, hcz49_2, hcz49_3, hcz49_4, hcz49_5, hfz49_0, hfz49_1, hfz49_2, hfz49_3, hfz49_4, hfz49_5⟩ := bk6__ BK435.out
            have p438 : 0 ≤ (x6_3 : Int) := of_decide_eq_true (by first | (with_reducible assumption) | assumption)
            have q438 : x6_3 < (l1_2.length : Int) := of_decide_eq_true (by first | (with_reducible assumption) | assumption)
            obtain ⟨ad438, e438, hx438_0⟩ := Kd.at_string HR1_2.out x6_3 p438 q438
            cases e438
            try replace hx438_0 := hb__ HB.out hx438_0
            replace p438 := eq_true p438
            replace q438 := eq_true q438
            obtain ⟨hcz50_0, hcz50_1, hcz50_2, hcz50_3, hcz50_4, hcz50_5, hcz50_6, hfz50_0, hfz50_1, hfz50_2, hfz50_3, hfz50_4, hfz50_5, hfz50_6⟩ := bk7__ BK434.out
            go_wp2
            repeat (go_quiet (fail); try go_wp2)
            go_ret
            exact ⟨ee__, bel__⟩
          ·rw [if_neg c34] at H
           exact absurd H (by simp)
         ·rw [if_neg c33] at H
          have c33b0 := decide_eq_false c33
          clear c33
          by_cases c51 : a1_0 = 0
          ·rw [if_pos c51] at H
           have c51b0 : (a1_0 == 0) = true := beq_iff_eq.mpr c51
           have c51b1 : (a1_0 != 0) = false := bne_eq_false_iff_eq.mpr c51
           clear c51
           by_cases c52 : (l1_1.length : Int) = 0
           ·rw [if_pos c52] at H
            have c52b0 : ((l1_1.length : Int) == 0) = true := beq_iff_eq.mpr c52
            have c52b1 : ((l1_1.length : Int) != 0) = false := bne_eq_false_iff_eq.mpr c52
            clear c52
            by_cases c53 : (l1_2.length : Int) = 0
            ·rw [if_pos c53] at H
             have c53b0 : ((l1_2.length : Int) == 0) = true := beq_iff_eq.mpr c53
             have c53b1 : ((l1_2.length : Int) != 0) = false := bne_eq_false_iff_eq.mpr c53
             clear c53
             by_cases c54 : a1_3 = 0
             ·rw [if_pos c54] at H
              have c54b0 : (a1_3 == 0) = true := beq_iff_eq.mpr c54
              have c54b1 : (a1_3 != 0) = false := bne_eq_false_iff_eq.mpr c54
              clear c54
              obtain rfl := Option.some.inj H
              have hnb55 := NB435_434.out
              have hnc55 := NB434_435.out
              obtain ⟨hcz56_0, hcz56_1, hcz56_2, hcz56_3, hcz56_4, hcz56_5, hfz56_0, hfz56_1, hfz56_2, hfz56_3, hfz56_4, hfz56_5⟩ := bk6__ BK435.out
              go_wp2
              repeat (go_quiet (fail); try go_wp2)
              go_ret
              exact ⟨ee__, bel__⟩
             ·rw [if_neg c54] at H
              have c54b0 : (a1_3 == 0) = false := beq_eq_false_iff_ne.mpr c54
              have c54b1 : (a1_3 != 0) = true := bne_iff_ne.mpr c54
              obtain rfl := Option.some.inj H
              have hnb57 := NB435_434.out
              have hnc57 := NB434_435.out
              obtain ⟨hcz58_0, hcz58_1, hcz58_2, hcz58_3, hcz58_4, hcz58_5, hfz58_0, hfz58_1, hfz58_2, hfz58_3, hfz58_4, hfz58_5⟩ := bk6__ BK435.out
              go_wp2
              repeat (go_quiet (fail); try go_wp2)
              go_ret
              exact ⟨ee__, bel__⟩
            ·rw [if_neg c53] at H
             have c53b0 : ((l1_2.length : Int) == 0) = false := beq_eq_false_iff_ne.mpr c53
             have c53b1 : ((l1_2.length : Int) != 0) = true := bne_iff_ne.mpr c53
             have c53b2 : ¬ (l1_2 = []) := fun h_ => c53 (by rw [h_]; rfl)
             obtain rfl := Option.some.inj H
             have hnb59 := NB435_434.out
             have hnc59 := NB434_435.out
             obtain ⟨hcz60_0, hcz60_1, hcz60_2, hcz60_3, hcz60_4, hcz60_5, hfz60_0, hfz60_1, hfz60_2, hfz60_3, hfz60_4, hfz60_5⟩ := bk6__ BK435.out
             go_wp2
             repeat (go_quiet (fail); try go_wp2)
             go_ret
             exact ⟨ee__, bel__⟩
           ·rw [if_neg c52] at H
            have c52b0 : ((l1_1.length : Int) == 0) = false := beq_eq_false_iff_ne.mpr c52
            have c52b1 : ((l1_1.length : Int) != 0) = true := bne_iff_ne.mpr c52
            have c52b2 : ¬ (l1_1 = []) := fun h_ => c52 (by rw [h_]; rfl)
            obtain rfl := Option.some.inj H
            have hnb61 := NB435_434.out
            have hnc61 := NB434_435.out
            obtain ⟨hcz62_0, hcz62_1, hcz62_2, hcz62_3, hcz62_4, hcz62_5, hfz62_0, hfz62_1, hfz62_2, hfz62_3, hfz62_4, hfz62_5⟩ := bk6__ BK435.out
            go_wp2
            repeat (go_quiet (fail); try go_wp2)
            go_ret
            exact ⟨ee__, bel__⟩
          ·rw [if_neg c51] at H
           have c51b0 : (a1_0 == 0) = false := beq_eq_false_iff_ne.mpr c51
           have c51b1 : (a1_0 != 0) = true := bne_iff_ne.mpr c51
           replace H := Option.bind_eq_some_iff.mp H
           obtain ⟨t442, A630, H⟩ := H
           have A63 := Aside0.mk A630
           clear A630
           by_cases c64 : t442 = true
           ·subst c64
            rw [if_pos rfl] at H
            replace H := Option.bind_eq_some_iff.mp H
            obtain ⟨t443, A650, H⟩ := H
            have A65 := Aside0.mk A650
            clear A650
            by_cases c66 : t443 = true
            ·subst c66
             rw [if_pos rfl] at H
             by_cases c67 : a1_0 = 2
             ·rw [if_pos c67] at H
              have c67b0 : (a1_0 == 2) = true := beq_iff_eq.mpr c67
              have c67b1 : (a1_0 != 2) = false := bne_eq_false_iff_eq.mpr c67
              clear c67
              obtain rfl := Option.some.inj H
              have hnb68 := NB435_434.out
              have hnc68 := NB434_435.out
              obtain ⟨hcz69_0, hcz69_1, hcz69_2, hcz69_3, hcz69_4, hcz69_5, hfz69_0, hfz69_1, hfz69_2, hfz69_3, hfz69_4, hfz69_5⟩ := bk6__ BK435.out
              obtain ⟨hcz70_0, hcz70_1, hcz70_2, hcz70_3, hcz70_4, hcz70_5, hcz70_6, hfz70_0, hfz70_1, hfz70_2, hfz70_3, hfz70_4, hfz70_5, hfz70_6⟩ := bk7__ BK434.out
              go_wp2_with (first | (go_at_call 46; (with_reducible refine (spec_l4Range.calls a1_3 0 a0_3 true _ A63.out).mono ?_); rintro e w' ⟨rfl, ⟨nd, rfl⟩⟩; (try exact dd__)) | (go_at_call 46; (with_reducible refine (spec_l4Range.calls a1_4 1 (wrap64 (a1_3 + 1)) true _ A65.out).mono ?_); rintro e w' ⟨rfl, ⟨nd, rfl⟩⟩; (try exact dd__)))
              repeat (go_quiet (first | (go_at_call 46; (with_reducible refine (spec_l4Range.calls a1_3 0 a0_3 true _ A63.out).mono ?_); rintro e w' ⟨rfl, ⟨nd, rfl⟩⟩; (try exact dd__)) | (go_at_call 46; (with_reducible refine (spec_l4Range.calls a1_4 1 (wrap64 (a1_3 + 1)) true _ A65.out).mono ?_); rintro e w' ⟨rfl, ⟨nd, rfl⟩⟩; (try exact dd__))); try go_wp2_with (first | (go_at_call 46; (with_reducible refine (spec_l4Range.calls a1_3 0 a0_3 true _ A63.out).mono ?_); rintro e w' ⟨rfl, ⟨nd, rfl⟩⟩; (try exact dd__)) | (go_at_call 46; (with_reducible refine (spec_l4Range.calls a1_4 1 (wrap64 (a1_3 + 1)) true _ A65.out).mono ?_); rintro e w' ⟨rfl, ⟨nd, rfl⟩⟩; (try exact dd__))))
              go_ret
              exact ⟨ee__, bel__⟩
             ·rw [if_neg c67] at H
              have c67b0 : (a1_0 == 2) = false := beq_eq_false_iff_ne.mpr c67
              have c67b1 : (a1_0 != 2) = true := bne_iff_ne.mpr c67
              obtain rfl := Option.some.inj H
              have hnb71 := NB435_434.out
              have hnc71 := NB434_435.out
              obtain ⟨hcz72_0, hcz72_1, hcz72_2, hcz72_3, hcz72_4, hcz72_5, hfz72_0, hfz72_1, hfz72_2, hfz72_3, hfz72_4, hfz72_5⟩ := bk6__ BK435.out
              obtain ⟨hcz73_0, hcz73_1, hcz73_2, hcz73_3, hcz73_4, hcz73_5, hcz73_6, hfz73_0, hfz73_1, hfz73_2, hfz73_3, hfz73_4, hfz73_5, hfz73_6⟩ := bk7__ BK434.out
              go_wp2_with (first | (go_at_call 46; (with_reducible refine (spec_l4Range.calls a1_3 0 a0_3 true _ A63.out).mono ?_); rintro e w' ⟨rfl, ⟨nd, rfl⟩⟩; (try exact dd__)) | (go_at_call 46; (with_reducible refine (spec_l4Range.calls a1_4 1 (wrap64 (a1_3 + 1)) true _ A65.out).mono ?_); rintro e w' ⟨rfl, ⟨nd, rfl⟩⟩; (try exact dd__)))
              repeat (go_quiet (first | (go_at_call 46; (with_reducible refine (spec_l4Range.calls a1_3 0 a0_3 true _ A63.out).mono ?_); rintro e w' ⟨rfl, ⟨nd, rfl⟩⟩; (try exact dd__)) | (go_at_call 46; (with_reducible refine (spec_l4Range.calls a1_4 1 (wrap64 (a1_3 + 1)) true _ A65.out).mono ?_); rintro e w' ⟨rfl, ⟨nd, rfl⟩⟩; (try exact dd__))); try go_wp2_with (first | (go_at_call 46; (with_reducible refine (spec_l4Range.calls a1_3 0 a0_3 true _ A63.out).mono ?_); rintro e w' ⟨rfl, ⟨nd, rfl⟩⟩; (try exact dd__)) | (go_at_call 46; (with_reducible refine (spec_l4Range.calls a1_4 1 (wrap64 (a1_3 + 1)) true _ A65.out).mono ?_); rintro e w' ⟨rfl, ⟨nd, rfl⟩⟩; (try exact dd__))))
              go_ret
              exact ⟨ee__, bel__⟩
            ·replace c66 := Bool.eq_false_iff.mpr c66
             subst c66
             have H1 : (some false) = some r := by rw [if_neg (show ¬ (false = true) by decide)] at H; exact H
             clear H
             have H := H1
             clear H1
             obtain rfl := Option.some.inj H
             have hnb74 := NB435_434.out
             have hnc74 := NB434_435.out
             obtain ⟨hcz75_0, hcz75_1, hcz75_2, hcz75_3, hcz75_4, hcz75_5, hfz75_0, hfz75_1, hfz75_2, hfz75_3, hfz75_4, hfz75_5⟩ := bk6__ BK435.out
             obtain ⟨hcz76_0, hcz76_1, hcz76_2, hcz76_3, hcz76_4, hcz76_5, hcz76_6, hfz76_0, hfz76_1, hfz76_2, hfz76_3, hfz76_4, hfz76_5, hfz76_6⟩ := bk7__ BK434.out
             go_wp2_with (first | (go_at_call 46; (with_reducible refine (spec_l4Range.calls a1_3 0 a0_3 true _ A63.out).mono ?_); rintro e w' ⟨rfl, ⟨nd, rfl⟩⟩; (try exact dd__)) | (go_at_call 46; (with_reducible refine (spec_l4Range.calls a1_4 1 (wrap64 (a1_3 + 1)) false _ A65.out).mono ?_); rintro e w' ⟨rfl, ⟨nd, rfl⟩⟩; (try exact dd__)))
             repeat (go_quiet (first | (go_at_call 46; (with_reducible refine (spec_l4Range.calls a1_3 0 a0_3 true _ A63.out).mono ?_); rintro e w' ⟨rfl, ⟨nd, rfl⟩⟩; (try exact dd__)) | (go_at_call 46; (with_reducible refine (spec_l4Range.calls a1_4 1 (wrap64 (a1_3 + 1)) false _ A65.out).mono ?_); rintro e w' ⟨rfl, ⟨nd, rfl⟩⟩; (try exact dd__))); try go_wp2_with (first | (go_at_call 46; (with_reducible refine (spec_l4Range.calls a1_3 0 a0_3 true _ A63.out).mono ?_); rintro e w' ⟨rfl, ⟨nd, rfl⟩⟩; (try exact dd__)) | (go_at_call 46; (with_reducible refine (spec_l4Range.calls a1_4 1 (wrap64 (a1_3 + 1)) false _ A65.out).mono ?_); rintro e w' ⟨rfl, ⟨nd, rfl⟩⟩; (try exact dd__))))
             go_ret
             exact ⟨ee__, bel__⟩
           ·replace c64 := Bool.eq_false_iff.mpr c64
            subst c64
            have H1 : (some false) = some r := by rw [if_neg (show ¬ (false = true) by decide)] at H; exact H
            clear H
            have H := H1
            clear H1
            obtain rfl := Option.some.inj H
            have hnb77 := NB435_434.out
            have hnc77 := NB434_435.out
            obtain ⟨hcz78_0, hcz78_1, hcz78_2, hcz78_3, hcz78_4, hcz78_5, hfz78_0, hfz78_1, hfz78_2, hfz78_3, hfz78_4, hfz78_5⟩ := bk6__ BK435.out
            obtain ⟨hcz79_0, hcz79_1, hcz79_2, hcz79_3, hcz79_4, hcz79_5, hcz79_6, hfz79_0, hfz79_1, hfz79_2, hfz79_3, hfz79_4, hfz79_5, hfz79_6⟩ := bk7__ BK434.out
            go_wp2_with (first | (go_at_call 46; (with_reducible refine (spec_l4Range.calls a1_3 0 a0_3 false _ A63.out).mono ?_); rintro e w' ⟨rfl, ⟨nd, rfl⟩⟩; (try exact dd__)))
            repeat (go_quiet (first | (go_at_call 46; (with_reducible refine (spec_l4Range.calls a1_3 0 a0_3 false _ A63.out).mono ?_); rintro e w' ⟨rfl, ⟨nd, rfl⟩⟩; (try exact dd__))); try go_wp2_with (first | (go_at_call 46; (with_reducible refine (spec_l4Range.calls a1_3 0 a0_3 false _ A63.out).mono ?_); rintro e w' ⟨rfl, ⟨nd, rfl⟩⟩; (try exact dd__))))
            go_ret
            exact ⟨ee__, bel__⟩
end Go.Proofs.Ytcijlemojododaa.P

namespace Go.Proofs.Ytcijlemojododaa.P
open Go.RowKit Go.Proofs.YtcijlemojododaaW.PrintWords Go.Proofs.YtcijlemojododaaW.PrintLast Go.Proofs.YtcijlemojododaaW.PrintMore
attribute [local go_sem] max2_int min2_int max_two min_two max_three min_three max_four min_four   -- for this text's walks alone
set_option linter.unusedVariables false
set_option linter.unusedSimpArgs false
/-! ### spec_ValidRound: function 18 -/
def spec_ValidRound.f (k : Nat) (a0_0 : Int) (a0_1 : Int) (a0_2 : Int) (a0_3 : Int) (l0_4 : List (S91)) (l0_5 : List (S82)) (l0_6 : List (S85)) (a1_0 : Int) (l1_1 : List ByteArray) (l1_2 : List ByteArray) (a1_3 : Int) (a1_4 : Int) (a1_5 : Int) : Option (Bool) := (spec_ValidState.f k a0_0 a0_1 a0_2 a0_3 l0_4 l0_5 l0_6).bind fun t446 => (if t446 = true then ((spec_l6Ok.f k a0_0 a0_1 a0_2 a0_3 l0_4 l0_5 l0_6 a1_0 l1_1 l1_2 a1_3 a1_4 a1_5).bind fun t447 => (some t447)) else (some false))
set_option maxHeartbeats 8000000 in
set_option maxRecDepth 100000 in
theorem spec_ValidRound.calls (k : Nat) (a0_0 : Int) (a0_1 : Int) (a0_2 : Int) (a0_3 : Int) (A0_4 : Option Addr) (c0_4 : Nat) (l0_4 : List (S91)) (A0_5 : Option Addr) (c0_5 : Nat) (l0_5 : List (S82)) (A0_6 : Option Addr) (c0_6 : Nat) (l0_6 : List (S85)) (a1_0 : Int) (A1_1 : Option Addr) (c1_1 : Nat) (l1_1 : List ByteArray) (A1_2 : Option Addr) (c1_2 : Nat) (l1_2 : List ByteArray) (a1_3 : Int) (a1_4 : Int) (a1_5 : Int) (r : Bool) (w : World) (hr0_4 : Kd.C k91 w A0_4 l0_4.length l0_4) (hc0_4 : l0_4.length ≤ c0_4) (hr0_5 : Kd.C k82 w A0_5 l0_5.length l0_5) (hc0_5 : l0_5.length ≤ c0_5) (hr0_6 : Kd.C k85 w A0_6 l0_6.length l0_6) (hc0_6 : l0_6.length ≤ c0_6) (hr1_1 : Kd.C Kd.string w A1_1 l1_1.length l1_1) (hc1_1 : l1_1.length ≤ c1_1) (hr1_2 : Kd.C Kd.string w A1_2 l1_2.length l1_2) (hc1_2 : l1_2.length ≤ c1_2) (h : spec_ValidRound.f k a0_0 a0_1 a0_2 a0_3 l0_4 l0_5 l0_6 a1_0 l1_1 l1_2 a1_3 a1_4 a1_5 = some r) :
  Calls Try.prog 18 #[.agg #[.int .i64 a0_0, .int .i64 a0_1, .int .i64 a0_2, .int .i64 a0_3, .slice A0_4 l0_4.length c0_4, .slice A0_5 l0_5.length c0_5, .slice A0_6 l0_6.length c0_6], .agg #[.int .i64 a1_0, .slice A1_1 l1_1.length c1_1, .slice A1_2 l1_2.length c1_2, .int .i64 a1_3, .int .i64 a1_4, .int .i64 a1_5]] w fun e w' => e = .returned (.bool r) ∧ Below w.heap.size w w' := by
 have hu33 := Try.underlying33
 have hu43 := Try.underlying43
 have HR0_4 := Aside0.mk hr0_4
 have HC0_4 := Aside0.mk hc0_4
 clear hr0_4 hc0_4
 have HR0_5 := Aside0.mk hr0_5
 have HC0_5 := Aside0.mk hc0_5
 clear hr0_5 hc0_5
 have HR0_6 := Aside0.mk hr0_6
 have HC0_6 := Aside0.mk hc0_6
 clear hr0_6 hc0_6
 have HR1_1 := Aside0.mk hr1_1
 have HC1_1 := Aside0.mk hc1_1
 clear hr1_1 hc1_1
 have HR1_2 := Aside0.mk hr1_2
 have HC1_2 := Aside0.mk hc1_2
 clear hr1_2 hc1_2
 have HB := am__ (Below.refl w.heap.size w)
 have H : ((spec_ValidState.f k a0_0 a0_1 a0_2 a0_3 l0_4 l0_5 l0_6).bind fun t446 => (if t446 = true then ((spec_l6Ok.f k a0_0 a0_1 a0_2 a0_3 l0_4 l0_5 l0_6 a1_0 l1_1 l1_2 a1_3 a1_4 a1_5).bind fun t447 => (some t447)) else (some false))) = some r := h
 clear h
 replace H := Option.bind_eq_some_iff.mp H
 obtain ⟨t446, A30, H⟩ := H
 have A3 := Aside0.mk A30
 clear A30
 by_cases c4 : t446 = true
 ·subst c4
  rw [if_pos rfl] at H
  replace H := Option.bind_eq_some_iff.mp H
  obtain ⟨t447, A50, H⟩ := H
  have A5 := Aside0.mk A50
  clear A50
  obtain rfl := Option.some.inj H
  go_enter Try.func18, Try.ntmps18
  go_wp2_with (first | ((with_reducible refine gate_dst (N := 2) rfl ?_); refine be__ 2 #[.int .i64 a0_0, .int .i64 a0_1, .int .i64 a0_2, .int .i64 a0_3, .slice A0_4 l0_4.length c0_4, .slice A0_5 l0_5.length c0_5, .slice A0_6 l0_6.length c0_6] 33 ?_; intro gb444 hg w6 hbox hb; have BK444 := am__ (hbox); have GW444 := am__ ((bsz__ hg bel__ : w.heap.size ≤ gb444)); have GE444 := am__ ((bsz__ hg bel__ : w.heap.size ≤ gb444)); replace HB := am__ (below_step (bel__) hb); clear hb hbox hg) | ((with_reducible refine gate_dst (N := 3) rfl ?_); refine be__ 3 #[.int .i64 a1_0, .slice A1_1 l1_1.length c1_1, .slice A1_2 l1_2.length c1_2, .int .i64 a1_3, .int .i64 a1_4, .int .i64 a1_5] 43 ?_; intro gb445 hg w7 hbox hb; have BK445 := am__ (hbox); have GW445 := am__ ((bsz__ hg bel__ : w.heap.size ≤ gb445)); have GE445 := am__ ((bsz__ hg bel__ : w.heap.size ≤ gb445)); replace HB := am__ (below_step (bel__) hb); have NB444_445 := am__ ((nl__ hg BK444.out : gb444 ≠ gb445)); have NB445_444 := am__ ((ng__ hg BK444.out : gb445 ≠ gb444)); replace BK444 := am__ (blb__ BK444.out hb); clear hb hbox hg; have hnb8 := NB444_445.out; have hnc8 := NB445_444.out; obtain ⟨hcz9_0, hcz9_1, hcz9_2, hcz9_3, hcz9_4, hcz9_5, hcz9_6, hfz9_0, hfz9_1, hfz9_2, hfz9_3, hfz9_4, hfz9_5, hfz9_6⟩ := bk7__ BK444.out) | ((with_reducible refine gate_callee (f := 11) rfl ?_); refine gl__ (some 6) Try.func11 #[.agg #[.int .i64 a0_0, .int .i64 a0_1, .int .i64 a0_2, .int .i64 a0_3, .slice A0_4 l0_4.length c0_4, .slice A0_5 l0_5.length c0_5, .slice A0_6 l0_6.length c0_6]] ?_; (with_reducible refine (spec_ValidState.calls k a0_0 a0_1 a0_2 a0_3 _ _ l0_4 _ _ l0_5 _ _ l0_6 true _ ?side1 HC0_4.out ?side3 HC0_5.out ?side5 HC0_6.out A3.out).mono ?_); (case side1 => repeat (first | exact (Kd.C_below HR0_4.out HB.out) | (with_reducible refine Kd.C_alloc ?_ _) | (with_reducible refine Kd.C_drewN ?_ _) | (with_reducible refine Kd.C_drew ?_))); (case side3 => repeat (first | exact (Kd.C_below HR0_5.out HB.out) | (with_reducible refine Kd.C_alloc ?_ _) | (with_reducible refine Kd.C_drewN ?_ _) | (with_reducible refine Kd.C_drew ?_))); (case side5 => repeat (first | exact (Kd.C_below HR0_6.out HB.out) | (with_reducible refine Kd.C_alloc ?_ _) | (with_reducible refine Kd.C_drewN ?_ _) | (with_reducible refine Kd.C_drew ?_))); rintro e w10 ⟨rfl, hb⟩; refine ⟨_, rfl, ?_⟩; replace BK444 := am__ (blb__ BK444.out hb); replace BK445 := am__ (blb__ BK445.out hb); replace HB := am__ (below_step (bel__) hb); clear hb; obtain ⟨hcz11_0, hcz11_1, hcz11_2, hcz11_3, hcz11_4, hcz11_5, hcz11_6, hfz11_0, hfz11_1, hfz11_2, hfz11_3, hfz11_4, hfz11_5, hfz11_6⟩ := bk7__ BK444.out; obtain ⟨hcz12_0, hcz12_1, hcz12_2, hcz12_3, hcz12_4, hcz12_5, hfz12_0, hfz12_1, hfz12_2, hfz12_3, hfz12_4, hfz12_5⟩ := bk6__ BK445.out) | (go_at_call 66; (with_reducible refine (spec_l6Ok.calls k a0_0 a0_1 a0_2 a0_3 _ _ l0_4 _ _ l0_5 _ _ l0_6 a1_0 _ _ l1_1 _ _ l1_2 a1_3 a1_4 a1_5 t447 _ ?side1 HC0_4.out ?side3 HC0_5.out ?side5 HC0_6.out ?side7 HC1_1.out ?side9 HC1_2.out A5.out).mono ?_); (case side1 => repeat (first | exact (Kd.C_below HR0_4.out HB.out) | (with_reducible refine Kd.C_alloc ?_ _) | (with_reducible refine Kd.C_drewN ?_ _) | (with_reducible refine Kd.C_drew ?_))); (case side3 => repeat (first | exact (Kd.C_below HR0_5.out HB.out) | (with_reducible refine Kd.C_alloc ?_ _) | (with_reducible refine Kd.C_drewN ?_ _) | (with_reducible refine Kd.C_drew ?_))); (case side5 => repeat (first | exact (Kd.C_below HR0_6.out HB.out) | (with_reducible refine Kd.C_alloc ?_ _) | (with_reducible refine Kd.C_drewN ?_ _) | (with_reducible refine Kd.C_drew ?_))); (case side7 => repeat (first | exact (Kd.C_below HR1_1.out HB.out) | (with_reducible refine Kd.C_alloc ?_ _) | (with_reducible refine Kd.C_drewN ?_ _) | (with_reducible refine Kd.C_drew ?_))); (case side9 => repeat (first | exact (Kd.C_below HR1_2.out HB.out) | (with_reducible refine Kd.C_alloc ?_ _) | (with_reducible refine Kd.C_drewN ?_ _) | (with_reducible refine Kd.C_drew ?_))); rintro e w13 ⟨rfl, hb⟩; replace BK444 := am__ (blb__ BK444.out hb); replace BK445 := am__ (blb__ BK445.out hb); replace HB := am__ (below_step (bel__) hb); clear hb))
  go_ret
  exact ⟨ee__, bel__⟩
 ·replace c4 := Bool.eq_false_iff.mpr c4
  subst c4
  have H1 : (some false) = some r := by rw [if_neg (show ¬ (false = true) by decide)] at H; exact H
  clear H
  have H := H1
  clear H1
  obtain rfl := Option.some.inj H
  go_enter Try.func18, Try.ntmps18
  go_wp2_with (first | ((with_reducible refine gate_dst (N := 2) rfl ?_); refine be__ 2 #[.int .i64 a0_0, .int .i64 a0_1, .int .i64 a0_2, .int .i64 a0_3, .slice A0_4 l0_4.length c0_4, .slice A0_5 l0_5.length c0_5, .slice A0_6 l0_6.length c0_6] 33 ?_; intro gb444 hg w14 hbox hb; have BK444 := am__ (hbox); have GW444 := am__ ((bsz__ hg bel__ : w.heap.size ≤ gb444)); have GE444 := am__ ((bsz__ hg bel__ : w.heap.size ≤ gb444)); replace HB := am__ (below_step (bel__) hb); clear hb hbox hg) | ((with_reducible refine gate_dst (N := 3) rfl ?_); refine be__ 3 #[.int .i64 a1_0, .slice A1_1 l1_1.length c1_1, .slice A1_2 l1_2.length c1_2, .int .i64 a1_3, .int .i64 a1_4, .int .i64 a1_5] 43 ?_; intro gb445 hg w15 hbox hb; have BK445 := am__ (hbox); have GW445 := am__ ((bsz__ hg bel__ : w.heap.size ≤ gb445)); have GE445 := am__ ((bsz__ hg bel__ : w.heap.size ≤ gb445)); replace HB := am__ (below_step (bel__) hb); have NB444_445 := am__ ((nl__ hg BK444.out : gb444 ≠ gb445)); have NB445_444 := am__ ((ng__ hg BK444.out : gb445 ≠ gb444)); replace BK444 := am__ (blb__ BK444.out hb); clear hb hbox hg; have hnb16 := NB444_445.out; have hnc16 := NB445_444.out; obtain ⟨hcz17_0, hcz17_1, hcz17_2, hcz17_3, hcz17_4, hcz17_5, hcz17_6, hfz17_0, hfz17_1, hfz17_2, hfz17_3, hfz17_4, hfz17_5, hfz17_6⟩ := bk7__ BK444.out) | ((with_reducible refine gate_callee (f := 11) rfl ?_); refine gl__ (some 6) Try.func11 #[.agg #[.int .i64 a0_0, .int .i64 a0_1, .int .i64 a0_2, .int .i64 a0_3, .slice A0_4 l0_4.length c0_4, .slice A0_5 l0_5.length c0_5, .slice A0_6 l0_6.length c0_6]] ?_; (with_reducible refine (spec_ValidState.calls k a0_0 a0_1 a0_2 a0_3 _ _ l0_4 _ _ l0_5 _ _ l0_6 false _ ?side1 HC0_4.out ?side3 HC0_5.out ?side5 HC0_6.out A3.out).mono ?_); (case side1 => repeat (first | exact (Kd.C_below HR0_4.out HB.out) | (with_reducible refine Kd.C_alloc ?_ _) | (with_reducible refine Kd.C_drewN ?_ _) | (with_reducible refine Kd.C_drew ?_))); (case side3 => repeat (first | exact (Kd.C_below HR0_5.out HB.out) | (with_reducible refine Kd.C_alloc ?_ _) | (with_reducible refine Kd.C_drewN ?_ _) | (with_reducible refine Kd.C_drew ?_))); (case side5 => repeat (first | exact (Kd.C_below HR0_6.out HB.out) | (with_reducible refine Kd.C_alloc ?_ _) | (with_reducible refine Kd.C_drewN ?_ _) | (with_reducible refine Kd.C_drew ?_))); rintro e w18 ⟨rfl, hb⟩; refine ⟨_, rfl, ?_⟩; replace BK444 := am__ (blb__ BK444.out hb); replace BK445 := am__ (blb__ BK445.out hb); replace HB := am__ (below_step (bel__) hb); clear hb))
  go_ret
  exact ⟨ee__, bel__⟩
end Go.Proofs.Ytcijlemojododaa.P

namespace Go.Proofs.Ytcijlemojododaa.P
open Go.RowKit Go.Proofs.YtcijlemojododaaW.PrintWords Go.Proofs.YtcijlemojododaaW.PrintLast Go.Proofs.YtcijlemojododaaW.PrintMore
attribute [local go_sem] max2_int min2_int max_two min_two max_three min_three max_four min_four   -- for this text's walks alone
set_option linter.unusedVariables false
set_option linter.unusedSimpArgs false
/-! ### laws_toRound: function 19 -/
def laws_toRound.f (k : Nat) (a0_0 : Int) (l0_1 : List ByteArray) (l0_2 : List ByteArray) (a0_3 : Int) (a0_4 : Int) (a0_5 : Int) : Option (Int × List ByteArray × List ByteArray × Int × Int × Int) := (laws_toStringS.f k l0_1).bind fun t451 => ((laws_toStringS.f k l0_2).bind fun t454 => (some (a0_0, t451, t454, a0_3, a0_4, a0_5)))
set_option maxHeartbeats 8000000 in
set_option maxRecDepth 100000 in
theorem laws_toRound.calls (k : Nat) (a0_0 : Int) (A0_1 : Option Addr) (c0_1 : Nat) (l0_1 : List ByteArray) (A0_2 : Option Addr) (c0_2 : Nat) (l0_2 : List ByteArray) (a0_3 : Int) (a0_4 : Int) (a0_5 : Int) (r1 : Int) (r2 : List ByteArray) (r3 : List ByteArray) (r4 : Int) (r5 : Int) (r6 : Int) (w : World) (hr0_1 : Kd.C Kd.string w A0_1 l0_1.length l0_1) (hc0_1 : l0_1.length ≤ c0_1) (hr0_2 : Kd.C Kd.string w A0_2 l0_2.length l0_2) (hc0_2 : l0_2.length ≤ c0_2) (h : laws_toRound.f k a0_0 l0_1 l0_2 a0_3 a0_4 a0_5 = some (r1, r2, r3, r4, r5, r6)) :
  Calls Try.prog 19 #[.agg #[.int .i64 a0_0, .slice A0_1 l0_1.length c0_1, .slice A0_2 l0_2.length c0_2, .int .i64 a0_3, .int .i64 a0_4, .int .i64 a0_5]] w fun e w' => ∃ v1_ v2_ : Value, e = .returned (.agg #[.int .i64 r1, v1_, v2_, .int .i64 r4, .int .i64 r5, .int .i64 r6]) ∧ Kd.R Kd.string 9 w' w.heap.size (fun k_ => some k_ ≠ (v2_ : Value).ownBlock) v1_ r2 ∧ Kd.R Kd.string 9 w' w.heap.size (fun k_ => some k_ ≠ (v1_ : Value).ownBlock) v2_ r3 ∧ Below w.heap.size w w' := by
 have hu40 := Try.underlying40
 have hu43 := Try.underlying43
 have HR0_1 := Aside0.mk hr0_1
 have HC0_1 := Aside0.mk hc0_1
 clear hr0_1 hc0_1
 have HR0_2 := Aside0.mk hr0_2
 have HC0_2 := Aside0.mk hc0_2
 clear hr0_2 hc0_2
 have HB := am__ (Below.refl w.heap.size w)
 have H : ((laws_toStringS.f k l0_1).bind fun t451 => ((laws_toStringS.f k l0_2).bind fun t454 => (some (a0_0, t451, t454, a0_3, a0_4, a0_5)))) = some (r1, r2, r3, r4, r5, r6) := h
 clear h
 replace H := Option.bind_eq_some_iff.mp H
 obtain ⟨t451, A20, H⟩ := H
 have A2 := Aside0.mk A20
 clear A20
 replace H := Option.bind_eq_some_iff.mp H
 obtain ⟨t454, A30, H⟩ := H
 have A3 := Aside0.mk A30
 clear A30
 simp only [Option.some.injEq, Prod.mk.injEq] at H
 obtain ⟨rfl, rfl, rfl, rfl, rfl, rfl⟩ := H
 go_enter Try.func19, Try.ntmps19
 go_wp2_with (first | ((with_reducible refine gate_dst (N := 1) rfl ?_); refine be__ 1 #[.int .i64 a0_0, .slice A0_1 l0_1.length c0_1, .slice A0_2 l0_2.length c0_2, .int .i64 a0_3, .int .i64 a0_4, .int .i64 a0_5] 40 ?_; intro gb448 hg w4 hbox hb; have BK448 := am__ (hbox); have GW448 := am__ ((bsz__ hg bel__ : w.heap.size ≤ gb448)); have GE448 := am__ ((bsz__ hg bel__ : w.heap.size ≤ gb448)); replace HB := am__ (below_step (bel__) hb); clear hb hbox hg) | ((with_reducible refine gate_dst (N := 2) rfl ?_); refine be__ 2 #[.int .i64 0, .slice none 0 0, .slice none 0 0, .int .i64 0, .int .i64 0, .int .i64 0] 43 ?_; intro gb449 hg w5 hbox hb; have BK449 := am__ (hbox); have GW449 := am__ ((bsz__ hg bel__ : w.heap.size ≤ gb449)); have GE449 := am__ ((bsz__ hg bel__ : w.heap.size ≤ gb449)); replace HB := am__ (below_step (bel__) hb); have NB448_449 := am__ ((nl__ hg BK448.out : gb448 ≠ gb449)); have NB449_448 := am__ ((ng__ hg BK448.out : gb449 ≠ gb448)); replace BK448 := am__ (blb__ BK448.out hb); clear hb hbox hg) | ((with_reducible refine gate_dst (N := 3) rfl ?_); refine be__ 3 #[.int .i64 0, .slice none 0 0, .slice none 0 0, .int .i64 0, .int .i64 0, .int .i64 0] 43 ?_; intro gb450 hg w6 hbox hb; have BK450 := am__ (hbox); have GW450 := am__ ((bsz__ hg bel__ : w.heap.size ≤ gb450)); have GE450 := am__ ((bsz__ hg bel__ : w.heap.size ≤ gb450)); replace HB := am__ (below_step (bel__) hb); have NB448_450 := am__ ((nl__ hg BK448.out : gb448 ≠ gb450)); have NB450_448 := am__ ((ng__ hg BK448.out : gb450 ≠ gb448)); replace BK448 := am__ (blb__ BK448.out hb); have NB449_450 := am__ ((nl__ hg BK449.out : gb449 ≠ gb450)); have NB450_449 := am__ ((ng__ hg BK449.out : gb450 ≠ gb449)); replace BK449 := am__ (blb__ BK449.out hb); clear hb hbox hg; have hnb7 := NB448_449.out; have hnc7 := NB449_448.out; have hnb8 := NB448_450.out; have hnc8 := NB450_448.out; obtain ⟨hcz9_0, hcz9_1, hcz9_2, hcz9_3, hcz9_4, hcz9_5, hfz9_0, hfz9_1, hfz9_2, hfz9_3, hfz9_4, hfz9_5⟩ := bk6__ BK448.out; have hnb10 := NB450_449.out; have hnc10 := NB449_450.out; obtain ⟨hcz11_0, hcz11_1, hcz11_2, hcz11_3, hcz11_4, hcz11_5, hfz11_0, hfz11_1, hfz11_2, hfz11_3, hfz11_4, hfz11_5⟩ := bk6__ BK450.out) | ((with_reducible refine gate_callee (f := 67) rfl ?_); refine gl__ (some 9) Try.func67 #[.slice A0_1 l0_1.length c0_1] ?_; (with_reducible refine (laws_toStringS.calls k _ _ l0_1 t451 _ ?side1 HC0_1.out A2.out).mono ?_); (case side1 => exact Kd.C_below HR0_1.out (bel__)); rintro e w12 ⟨v452, rfl, ho0, hb⟩; refine ⟨_, rfl, ?_⟩; have HO453 := am__ (Kd.R_lower ho0 (below_size (bel__))); replace BK448 := am__ (blk_below (g := gb448) (o := .cells #[.int .i64 a0_0, .slice A0_1 l0_1.length c0_1, .slice A0_2 l0_2.length c0_2, .int .i64 a0_3, .int .i64 a0_4, .int .i64 a0_5] 40 (0, 0)) (blf1__ BK448.out) hb); replace BK449 := am__ (blk_below (g := gb449) (o := .cells #[.int .i64 0, .slice none 0 0, .slice none 0 0, .int .i64 0, .int .i64 0, .int .i64 0] 43 (0, 0)) (blf1__ BK449.out) hb); replace BK450 := am__ (blk_below (g := gb450) (o := .cells #[.int .i64 a0_0, .slice none 0 0, .slice none 0 0, .int .i64 0, .int .i64 0, .int .i64 0] 43 (0, 0)) (bpu__ BK450.out) hb); replace HB := am__ (below_step (bel__) hb); clear hb; (try clear ho0); obtain ⟨Ao13, co13, eo13⟩ := Kd.R_slice HO453.out; subst eo13; obtain ⟨hcz14_0, hcz14_1, hcz14_2, hcz14_3, hcz14_4, hcz14_5, hfz14_0, hfz14_1, hfz14_2, hfz14_3, hfz14_4, hfz14_5⟩ := bk6__ BK450.out; obtain ⟨hcz15_0, hcz15_1, hcz15_2, hcz15_3, hcz15_4, hcz15_5, hfz15_0, hfz15_1, hfz15_2, hfz15_3, hfz15_4, hfz15_5⟩ := bk6__ BK448.out) | ((with_reducible refine gate_callee (f := 67) rfl ?_); refine gl__ (some 13) Try.func67 #[.slice A0_2 l0_2.length c0_2] ?_; (with_reducible refine (laws_toStringS.calls k _ _ l0_2 t454 _ ?side1 HC0_2.out A3.out).mono ?_); (case side1 => exact Kd.C_below HR0_2.out (bel__)); rintro e w16 ⟨v455, rfl, ho0, hb⟩; refine ⟨_, rfl, ?_⟩; have HO456 := am__ (Kd.R_lower (Kd.R_new' ho0 (Kd.R_lt (by refine rps__ ?_; exact (Kd.R_mono (Kd.R_far (p := ⟨gb450, 1, none⟩) (Kd.R_types HO453.out BK450.out (by decide)) h2__ (.slice Ao13 t451.length co13)) h1__)))) (below_size (bel__))); replace HO453 := am__ (Kd.R_elder' (by refine rps__ ?_; exact (Kd.R_mono (Kd.R_far (p := ⟨gb450, 1, none⟩) (Kd.R_types HO453.out BK450.out (by decide)) h2__ (.slice Ao13 t451.length co13)) h1__)) (Kd.R_base ho0) hb); replace BK448 := am__ (blk_below (g := gb448) (o := .cells #[.int .i64 a0_0, .slice A0_1 l0_1.length c0_1, .slice A0_2 l0_2.length c0_2, .int .i64 a0_3, .int .i64 a0_4, .int .i64 a0_5] 40 (0, 0)) (blf1__ BK448.out) hb); replace BK449 := am__ (blk_below (g := gb449) (o := .cells #[.int .i64 0, .slice none 0 0, .slice none 0 0, .int .i64 0, .int .i64 0, .int .i64 0] 43 (0, 0)) (blf1__ BK449.out) hb); replace BK450 := am__ (blk_below (g := gb450) (o := .cells #[.int .i64 a0_0, .slice Ao13 t451.length co13, .slice none 0 0, .int .i64 0, .int .i64 0, .int .i64 0] 43 (0, 0)) (bpu__ BK450.out) hb); replace HB := am__ (below_step (bel__) hb); clear hb; (try clear ho0); obtain ⟨Ao17, co17, eo17⟩ := Kd.R_slice HO456.out; subst eo17; obtain ⟨hcz18_0, hcz18_1, hcz18_2, hcz18_3, hcz18_4, hcz18_5, hfz18_0, hfz18_1, hfz18_2, hfz18_3, hfz18_4, hfz18_5⟩ := bk6__ BK450.out; obtain ⟨hcz19_0, hcz19_1, hcz19_2, hcz19_3, hcz19_4, hcz19_5, hfz19_0, hfz19_1, hfz19_2, hfz19_3, hfz19_4, hfz19_5⟩ := bk6__ BK448.out; obtain ⟨hcz20_0, hcz20_1, hcz20_2, hcz20_3, hcz20_4, hcz20_5, hfz20_0, hfz20_1, hfz20_2, hfz20_3, hfz20_4, hfz20_5⟩ := bk6__ BK449.out))
 refine bodyPost_ret (results_cell_row rfl _ _ gb449 43 #[.int .i64 a0_0, .slice Ao13 t451.length co13, .slice Ao17 t454.length co17, .int .i64 a0_3, .int .i64 a0_4, .int .i64 a0_5] (0, 0) _ rfl (bpu__ BK449.out) Try.underlying43 rfl (by kernel_rfl)) rfl ?_
 exact ⟨_, _, ee__, by refine rps__ ?_; exact Kd.R_mono (Kd.R_far (p := ⟨gb449, 5, none⟩) (Kd.R_far (p := ⟨gb449, 4, none⟩) (Kd.R_far (p := ⟨gb449, 3, none⟩) (Kd.R_far (p := ⟨gb449, 2, none⟩) (Kd.R_far (p := ⟨gb449, 1, none⟩) (Kd.R_far (p := ⟨gb449, 0, none⟩) (Kd.R_far (p := ⟨gb450, 5, none⟩) (Kd.R_far (p := ⟨gb450, 4, none⟩) (Kd.R_far (p := ⟨gb450, 3, none⟩) (Kd.R_far (p := ⟨gb450, 2, none⟩) (Kd.R_types (Kd.R_types HO453.out BK450.out (by decide)) BK449.out (by decide)) (fun _ hk => hk.1.2) (.slice Ao17 t454.length co17)) (fun _ hk => hk.1.2) (.int .i64 a0_3)) (fun _ hk => hk.1.2) (.int .i64 a0_4)) (fun _ hk => hk.1.2) (.int .i64 a0_5)) h2__ (.int .i64 a0_0)) h2__ (.slice Ao13 t451.length co13)) h2__ (.slice Ao17 t454.length co17)) h2__ (.int .i64 a0_3)) h2__ (.int .i64 a0_4)) h2__ (.int .i64 a0_5)) (fun _ hk => hk.1.1.2), by refine rps__ ?_; exact Kd.R_mono (Kd.R_far (p := ⟨gb449, 5, none⟩) (Kd.R_far (p := ⟨gb449, 4, none⟩) (Kd.R_far (p := ⟨gb449, 3, none⟩) (Kd.R_far (p := ⟨gb449, 2, none⟩) (Kd.R_far (p := ⟨gb449, 1, none⟩) (Kd.R_far (p := ⟨gb449, 0, none⟩) (Kd.R_far (p := ⟨gb450, 5, none⟩) (Kd.R_far (p := ⟨gb450, 4, none⟩) (Kd.R_far (p := ⟨gb450, 3, none⟩) (Kd.R_far (p := ⟨gb450, 2, none⟩) (Kd.R_types (Kd.R_types HO456.out BK450.out (by decide)) BK449.out (by decide)) (fun _ hk => hk.1.2) (.slice Ao17 t454.length co17)) (fun _ hk => hk.1.2) (.int .i64 a0_3)) (fun _ hk => hk.1.2) (.int .i64 a0_4)) (fun _ hk => hk.1.2) (.int .i64 a0_5)) h2__ (.int .i64 a0_0)) h2__ (.slice Ao13 t451.length co13)) h2__ (.slice Ao17 t454.length co17)) h2__ (.int .i64 a0_3)) h2__ (.int .i64 a0_4)) h2__ (.int .i64 a0_5)) (fun _ hk => hk.1.1.2), bel__⟩
end Go.Proofs.Ytcijlemojododaa.P

/- Maps from whole numbers to bools, of which every entry is true: what such a map's block holds (mobj), and what a look-up and a store come to. -/
namespace Go.Proofs.Ytcijlemojododaa.S
open Go.RowKit Go.Proofs.YtcijlemojododaaW.PrintWords Go.Proofs.YtcijlemojododaaW.PrintLast
set_option linter.unusedVariables false
set_option linter.unusedSimpArgs false
/-- The entries: the keys in the order in which they came (the list's last first). -/
def mes : List Int → List MapEntry
  | [] => []
  | k :: ks => mes ks ++ [⟨.int .i64 k, .bool true, ks.length⟩]
def mobj (ks : List Int) : Obj := .map (mes ks).toArray ks.length
theorem mes_mem {ks : List Int} {e : MapEntry} (h : e ∈ mes ks) : ∃ a ∈ ks, e.key = .int .i64 a ∧ e.val = .bool true := by
  induction ks with
  | nil => cases h
  | cons k ks ih =>
    rcases List.mem_append.1 h with h | h
    · obtain ⟨a, h1, h2⟩ := ih h
      exact ⟨a, List.mem_cons_of_mem _ h1, h2⟩
    · cases List.mem_singleton.1 h
      exact ⟨k, List.mem_cons_self, rfl, rfl⟩
theorem mem_mes {ks : List Int} {a : Int} (h : a ∈ ks) : ∃ e ∈ mes ks, e.key = .int .i64 a := by
  induction ks with
  | nil => cases h
  | cons k ks ih =>
    rcases List.mem_cons.1 h with rfl | h
    · exact ⟨_, List.mem_append_right _ (List.mem_singleton.2 rfl), rfl⟩
    · obtain ⟨e, h1, h2⟩ := ih h
      exact ⟨e, List.mem_append_left _ h1, h2⟩
theorem fn_none (q : IntKind) (x : Int) : ∀ (es : List MapEntry) (i : Nat), (∀ e ∈ es, ∃ a, e.key = .int .i64 a ∧ a ≠ x) → Instr.findNow (.int q) (.int .i64 x) es i = some none
  | [], _, _ => rfl
  | e :: es, i, h => by
    obtain ⟨a, h1, h2⟩ := h e List.mem_cons_self
    have h3 := fn_none q x es (i + 1) (fun e he => h e (List.mem_cons_of_mem _ he))
    unfold Instr.findNow
    have e1 : (x == a) = false := beq_false_of_ne (Ne.symm h2)
    rw [h1]
    simp only [Instr.sameNow, if_true, e1, h3]
theorem fn_some (q : IntKind) (x : Int) : ∀ (es : List MapEntry) (i : Nat), (∀ e ∈ es, (∃ a, e.key = .int .i64 a) ∧ e.val = .bool true) → (∃ e ∈ es, e.key = .int .i64 x) → ∃ j, Instr.findNow (.int q) (.int .i64 x) es i = some (some (j, .bool true))
  | [], _, _, h => by obtain ⟨_, h, _⟩ := h; cases h
  | e :: es, i, h, hx => by
    obtain ⟨⟨a, h1⟩, h2⟩ := h e List.mem_cons_self
    by_cases ha : a = x
    · exact ⟨i, by unfold Instr.findNow; rw [h1, h2]; simp [Instr.sameNow, ha]⟩
    · have e1 : (x == a) = false := beq_false_of_ne (Ne.symm ha)
      obtain ⟨e', he, hk⟩ := hx
      have : e' ∈ es := by
        rcases List.mem_cons.1 he with rfl | he
        · rw [h1] at hk; injection hk with _ hk; exact absurd hk ha
        · exact he
      obtain ⟨j, h3⟩ := fn_some q x es (i + 1) (fun e he => h e (List.mem_cons_of_mem _ he)) ⟨e', this, hk⟩
      exact ⟨j, by unfold Instr.findNow; rw [h1]; simp only [Instr.sameNow, if_true, e1, h3]⟩
theorem run_look {P : Program} {t k e : TypeId} (ht : P.underlying t = some (.map k e)) (hk : P.underlying k = some (.int .i64)) (w : World) (hz : (zeroValue e).run P w = .ok (.bool false) w) {b : Nat} {ks : List Int} (hb : w.heap[b]? = some (mobj ks)) (x : Int) :
    (Instr.lookup t (.map (some b)) (.int .i64 x) false).run P w = .ok (.bool (ks.contains x)) w := by
  have hc : ∀ em, (Instr.checkKey em 10000 k (.int .i64 x)).run P w = .ok () w := fun em => by unfold Instr.checkKey; simp [run_underlying hk]
  by_cases hm : x ∈ ks
  · obtain ⟨j, h1⟩ := fn_some .i64 x (mes ks) 0 (fun e he => by obtain ⟨a, _, h2, h3⟩ := mes_mem he; exact ⟨⟨a, h2⟩, h3⟩) (mem_mes hm)
    have h2 : (Instr.findKey k (.int .i64 x) (mes ks)).run P w = .ok (some (j, .bool true)) w := by simp [Instr.findKey, run_underlying hk, h1]
    simp [Instr.lookup, run_underlying ht, MapKept.run_getObj_map hb, hc, h2, hz, hm, Result.andThen]
  · have h1 := fn_none .i64 x (mes ks) 0 (fun e he => by obtain ⟨a, h1, h2, _⟩ := mes_mem he; exact ⟨a, h2, fun h => hm (h ▸ h1)⟩)
    have h2 : (Instr.findKey k (.int .i64 x) (mes ks)).run P w = .ok none w := by simp [Instr.findKey, run_underlying hk, h1]
    simp [Instr.lookup, run_underlying ht, MapKept.run_getObj_map hb, hc, h2, hz, hm, Result.andThen]
/-- A key laid into such a map (once). -/
def ins (x : Int) (ks : List Int) : List Int := if ks.contains x then ks else x :: ks
theorem fn_where (q : IntKind) (x : Int) : ∀ (es : List MapEntry) (i : Nat), (∀ e ∈ es, ∃ a, e.key = .int .i64 a) → (∃ e ∈ es, e.key = .int .i64 x) → ∃ d e, Instr.findNow (.int q) (.int .i64 x) es i = some (some (i + d, e.val)) ∧ es[d]? = some e ∧ e.key = .int .i64 x
  | [], _, _, h => by obtain ⟨_, h, _⟩ := h; cases h
  | e :: es, i, h, hx => by
    obtain ⟨a, h1⟩ := h e List.mem_cons_self
    by_cases ha : a = x
    · subst ha
      exact ⟨0, e, by unfold Instr.findNow; rw [h1]; simp [Instr.sameNow], rfl, h1⟩
    · have e1 : (x == a) = false := beq_false_of_ne (Ne.symm ha)
      obtain ⟨e', he, hk⟩ := hx
      have : e' ∈ es := by
        rcases List.mem_cons.1 he with rfl | he
        · rw [h1] at hk; injection hk with _ hk; exact absurd hk ha
        · exact he
      obtain ⟨d, e2, h3, h4, h5⟩ := fn_where q x es (i + 1) (fun e he => h e (List.mem_cons_of_mem _ he)) ⟨e', this, hk⟩
      refine ⟨d + 1, e2, ?_, by simpa using h4, h5⟩
      unfold Instr.findNow
      rw [h1]
      simp only [Instr.sameNow, if_true, e1, h3]
      rw [show i + 1 + d = i + (d + 1) by omega]
theorem modify_same {es : Array MapEntry} {d : Nat} {e : MapEntry} (h : es[d]? = some e) {k v : Value} (hk : e.key = k) (hv : e.val = v) : es.modify d (fun e => { e with key := k, val := v }) = es := by
  subst hk
  subst hv
  apply Array.ext_getElem?
  intro i
  rw [Array.getElem?_modify]
  split
  · next hi => subst hi; rw [h]; rfl
  · rfl
theorem run_put {P : Program} {t k e : TypeId} (ht : P.underlying t = some (.map k e)) (hk : P.underlying k = some (.int .i64)) (w : World) {b : Nat} {ks : List Int} (hb : w.heap[b]? = some (mobj ks)) (x : Int) :
    (Instr.mapUpdate t (.map (some b)) (.int .i64 x) (.bool true)).run P w = .ok () (Go.ChangeMaps.setBlock w b (mobj (ins x ks))) := by
  have hc : (Instr.checkKey false 10000 k (.int .i64 x)).run P w = .ok () w := by unfold Instr.checkKey; simp [run_underlying hk]
  by_cases hm : x ∈ ks
  · obtain ⟨d, e0, h1, h2, h3⟩ := fn_where .i64 x (mes ks) 0 (fun e he => by obtain ⟨a, _, h2, _⟩ := mes_mem he; exact ⟨a, h2⟩) (mem_mes hm)
    rw [Nat.zero_add] at h1
    have hv : e0.val = .bool true := by obtain ⟨a, _, _, h⟩ := mes_mem (List.mem_of_getElem? h2); exact h
    have hj : (mes ks).toArray[d]? = some e0 := by simpa using h2
    have h4 : (Instr.findKey k (.int .i64 x) (mes ks)).run P w = .ok (some (d, e0.val)) w := by simp [Instr.findKey, run_underlying hk, h1]
    have h5 := modify_same hj h3 hv
    have h7 := congrArg Array.toList h5
    simp only [List.modify_toArray] at h7
    have h6 : ins x ks = ks := by simp [ins, hm]
    rw [h6]
    simp [Instr.mapUpdate, run_underlying ht, MapKept.run_getObj_map hb, hc, h4, hj, h2, h3, h7, Instr.keyThatStays, Instr.sameBits, MapKept.run_setObj_map _ hb, Result.andThen, Go.ChangeMaps.setBlock, mobj]
  · have h1 := fn_none .i64 x (mes ks) 0 (fun e he => by obtain ⟨a, h1, h2, _⟩ := mes_mem he; exact ⟨a, h2, fun h => hm (h ▸ h1)⟩)
    have h2 : (Instr.findKey k (.int .i64 x) (mes ks)).run P w = .ok none w := by simp [Instr.findKey, run_underlying hk, h1]
    have h6 : ins x ks = x :: ks := by simp [ins, hm]
    rw [h6]
    simp [Instr.mapUpdate, run_underlying ht, MapKept.run_getObj_map hb, hc, h2, MapKept.run_setObj_map _ hb, Result.andThen, Go.ChangeMaps.setBlock, mobj, mes]
theorem zero_bool {P : Program} {t : TypeId} (h : (P.info? t).map (fun i => i.zero) = some (some (.bool false))) (w : World) : (zeroValue t).run P w = .ok (.bool false) w := by
  unfold zeroValue typeInfo
  cases hi : P.info? t with
  | none => rw [hi] at h; cases h
  | some i =>
    rw [hi] at h
    simp only [Option.map_some, Option.some.injEq] at h
    simp [hi, h]
section
variable {P : Program} {ops : Array Oper} {rest : List Oper} {o : Oper} {a : Act} {Q : Exit → Act → World → Prop} {W : World}
theorem gate_put {t : TypeId} {m k v : Operand} (_ho : o.op = .mapUpdate t m k v) (h : wpList P ops Q (o :: rest) a W) : wpList P ops Q (o :: rest) a W := h
theorem grown_set {b : Nat} {o o' : Obj} (h : W.heap[b]? = some o) : W.grownBy (Go.ChangeMaps.setBlock W b o') (some b) ∧ (Go.ChangeMaps.setBlock W b o').heap[b]? = some o' := by
  have hlt := blk_lt h
  refine ⟨⟨rfl, rfl, rfl, by simp [Go.ChangeMaps.setBlock], fun i _ hi => ?_⟩, by simp [Go.ChangeMaps.setBlock, Array.getElem?_setIfInBounds, hlt]⟩
  have : b ≠ i := fun e => hi (by rw [e])
  simp [Go.ChangeMaps.setBlock, Array.getElem?_setIfInBounds, this]
/-- A key laid into such a map, at the operation. -/
theorem put_event {b : Nat} {ks : List Int} {x : Int} {t k e : TypeId} {m κ : Operand} (hb : W.heap[b]? = some (mobj ks)) (hop : o.op = .mapUpdate t m κ (.const (.bool true))) (hg : o.guard = none) (ht : P.underlying t = some (.map k e)) (hk : P.underlying k = some (.int .i64))
    (hm : a.eval m = .map (some b)) (hx : a.eval κ = .int .i64 x) (h : ∀ w1, w1.heap[b]? = some (mobj (ins x ks)) → W.grownBy w1 (some b) → wpList P ops Q rest (a.put o.dst undef) w1) : wpList P ops Q (o :: rest) a W := by
  refine wpList_plain hg fun K' hK' => ?_
  have hrun := run_put ht hk W hb x
  have hv : a.eval (.const (.bool true)) = .bool true := rfl
  unfold Oper.wp
  simp [execOp, hop, hm, hx, hv, hrun, Result.andThen]
  exact hK' _ _ (h _ (grown_set hb).2 (grown_set hb).1)
/-- Such a map made. -/
theorem make_event (N : Tmp) {t : TypeId} (hop : o.op = .makeMap t none) (hg : o.guard = none) (h : ∀ g, g = W.heap.size → ∀ w1, w1.heap[g]? = some (mobj []) → Below W.heap.size W w1 → wpList P ops Q rest (a.put o.dst (.map (some g))) w1) : wpList P ops Q (o :: rest) a W := by
  refine wpList_plain hg fun K' hK' => ?_
  have hrun : (Instr.makeMap t none).run P W = .ok (.map (some W.heap.size)) (W.alloc (.map #[] 0)) := rfl
  unfold Oper.wp
  simp [execOp, hop, hrun, Result.andThen]
  exact hK' _ _ (h _ rfl _ (blk_new W _) (below_alloc (Below.refl _ _) _))
/-- A key looked up, at the operation. -/
theorem look_exec {ev : Operand → Value} {oi : Oper} {w : World} {b : Nat} {ks : List Int} {x : Int} {t k e : TypeId} {m κ : Operand} (hb : w.heap[b]? = some (mobj ks)) (hop : oi.op = .lookup t m κ false) (ht : P.underlying t = some (.map k e)) (hk : P.underlying k = some (.int .i64))
    (hz : (P.info? e).map (fun i => i.zero) = some (some (.bool false))) (hm : ev m = .map (some b)) (hx : ev κ = .int .i64 x) : (execOp ev oi).run P w = .ok (.value (.bool (ks.contains x))) w := by
  have hrun := run_look ht hk w (zero_bool hz w) hb x
  unfold execOp
  simp [hop, hm, hx, hrun, Result.andThen]
theorem blkm_far {w : World} {g : Nat} {o : Obj} (h : w.heap[g]? = some o) {p : Addr} (hp : g ≠ p.block) (u : Value) : (w.setCell p u).heap[g]? = some o := (Below.heap_setCell w p u g hp).trans h
end
end Go.Proofs.Ytcijlemojododaa.S

namespace Go.Proofs.Ytcijlemojododaa.P
open Go.RowKit Go.Proofs.YtcijlemojododaaW.PrintWords Go.Proofs.YtcijlemojododaaW.PrintLast Go.Proofs.YtcijlemojododaaW.PrintMore
attribute [local go_sem] max2_int min2_int max_two min_two max_three min_three max_four min_four   -- for this text's walks alone
set_option linter.unusedVariables false
set_option linter.unusedSimpArgs false
/-! ### impl_widthOk: function 53 -/
def impl_widthOk.f (a0 : Int) : Option (Bool) := if a0 ≥ 1 then (some (decide (a0 ≤ 8))) else (some false)
set_option maxHeartbeats 8000000 in
set_option maxRecDepth 100000 in
theorem impl_widthOk.calls (a0 : Int) (r : Bool) (w : World) (h : impl_widthOk.f a0 = some r) :
  Calls Try.prog 53 #[.int .i64 a0] w fun e w' => e = .returned (.bool r) ∧ Drawn0 w w' := by
 have H : (if a0 ≥ 1 then (some (decide (a0 ≤ 8))) else (some false)) = some r := h
 clear h
 by_cases c2 : a0 ≥ 1
 ·rw [if_pos c2] at H
  have c2b0 : decide (1 ≤ a0) = true := decide_eq_true c2
  clear c2
  obtain rfl := Option.some.inj H
  go_enter Try.func53, Try.ntmps53
  go_wp2
  go_ret
  exact ⟨by first | rfl | (simp; done) | (simp [*]; done), by repeat (first | exact Drawn0.refl _ | apply Drawn0.step)⟩
 ·rw [if_neg c2] at H
  have c2b0 : decide (1 ≤ a0) = false := decide_eq_false c2
  clear c2
  obtain rfl := Option.some.inj H
  go_enter Try.func53, Try.ntmps53
  go_wp2
  go_ret
  exact ⟨by first | rfl | (simp; done) | (simp [*]; done), by repeat (first | exact Drawn0.refl _ | apply Drawn0.step)⟩
end Go.Proofs.Ytcijlemojododaa.P

namespace Go.Proofs.Ytcijlemojododaa.P
open Go.RowKit Go.Proofs.YtcijlemojododaaW.PrintWords Go.Proofs.YtcijlemojododaaW.PrintLast Go.Proofs.YtcijlemojododaaW.PrintMore
attribute [local go_sem] max2_int min2_int max_two min_two max_three min_three max_four min_four   -- for this text's walks alone
set_option linter.unusedVariables false
set_option linter.unusedSimpArgs false
/-! ### impl_timeOk: function 54 -/
def impl_timeOk.f (a0 : Int) : Option (Bool) := if a0 ≥ 0 then (some (decide (a0 ≤ 1000000000))) else (some false)
set_option maxHeartbeats 8000000 in
set_option maxRecDepth 100000 in
theorem impl_timeOk.calls (a0 : Int) (r : Bool) (w : World) (h : impl_timeOk.f a0 = some r) :
  Calls Try.prog 54 #[.int .i64 a0] w fun e w' => e = .returned (.bool r) ∧ Drawn0 w w' := by
 have H : (if a0 ≥ 0 then (some (decide (a0 ≤ 1000000000))) else (some false)) = some r := h
 clear h
 by_cases c2 : a0 ≥ 0
 ·rw [if_pos c2] at H
  have c2b0 : decide (0 ≤ a0) = true := decide_eq_true c2
  clear c2
  obtain rfl := Option.some.inj H
  go_enter Try.func54, Try.ntmps54
  go_wp2
  go_ret
  exact ⟨by first | rfl | (simp; done) | (simp [*]; done), by repeat (first | exact Drawn0.refl _ | apply Drawn0.step)⟩
 ·rw [if_neg c2] at H
  have c2b0 : decide (0 ≤ a0) = false := decide_eq_false c2
  clear c2
  obtain rfl := Option.some.inj H
  go_enter Try.func54, Try.ntmps54
  go_wp2
  go_ret
  exact ⟨by first | rfl | (simp; done) | (simp [*]; done), by repeat (first | exact Drawn0.refl _ | apply Drawn0.step)⟩
end Go.Proofs.Ytcijlemojododaa.P

namespace Go.Proofs.Ytcijlemojododaa.P
open Go.RowKit Go.Proofs.YtcijlemojododaaW.PrintWords Go.Proofs.YtcijlemojododaaW.PrintLast Go.Proofs.YtcijlemojododaaW.PrintMore
attribute [local go_sem] max2_int min2_int max_two min_two max_three min_three max_four min_four   -- for this text's walks alone
set_option linter.unusedVariables false
set_option linter.unusedSimpArgs false
/-! ### impl_thingOk: function 55 -/
mutual
def impl_thingOk.j0 : Nat → Int → Bool → ByteArray → List ByteArray → Option (Bool)
 | 0, _, _, _, _ => none
 | k + 1, x1, x16, x257000, x257001 => if x16 = true then (some false) else (impl_thingOk.l0 k x1 x257001 (x257001.length : Int) 0 x257000 x257001)
def impl_thingOk.l0 : Nat → Int → List ByteArray → Int → Int → ByteArray → List ByteArray → Option (Bool)
 | 0, _, _, _, _, _, _ => none
 | k + 1, x1, x18, x19, x20, x257000, x257001 => if x20 < x19 then (if 0 ≤ x20 then (if x20 < (x18.length : Int) then (if ((rdOf ByteArray.empty x18 x20).size : Int) = x1 then (if x20 > 0 then (if 0 ≤ (wrap64 (x20 - 1)) then (if (wrap64 (x20 - 1)) < (x257001.length : Int) then (if ((Op.bytesLess ((rdOf ByteArray.empty x257001 (wrap64 (x20 - 1))).toList) ((rdOf ByteArray.empty x18 x20).toList)) = true) then (impl_thingOk.l0 k x1 x18 x19 (wrap64 (x20 + 1)) x257000 x257001) else (some false)) else (none)) else (none)) else (impl_thingOk.l0 k x1 x18 x19 (wrap64 (x20 + 1)) x257000 x257001)) else (some false)) else (none)) else (none)) else ((impl_widthOk.f x1).bind fun t259 => (some t259))
end
def impl_thingOk.f (k : Nat) (a0_0 : ByteArray) (l0_1 : List ByteArray) (a1 : Int) : Option (Bool) := if (a0_0.size : Int) > 2000 then (impl_thingOk.j0 k a1 true a0_0 l0_1) else (impl_thingOk.j0 k a1 (decide ((l0_1.length : Int) > 30)) a0_0 l0_1)
set_option maxHeartbeats 8000000 in
set_option maxRecDepth 100000 in
theorem impl_thingOk.calls (k : Nat) (a0_0 : ByteArray) (A0_1 : Option Addr) (c0_1 : Nat) (l0_1 : List ByteArray) (a1 : Int) (r : Bool) (w : World) (hr0_1 : Kd.C Kd.string w A0_1 l0_1.length l0_1) (hc0_1 : l0_1.length ≤ c0_1) (h : impl_thingOk.f k a0_0 l0_1 a1 = some r) :
  Calls Try.prog 55 #[.agg #[.string a0_0, .slice A0_1 l0_1.length c0_1], .int .i64 a1] w fun e w' => e = .returned (.bool r) ∧ Below w.heap.size w w' := by
 have hu61 := Try.underlying61
 have HR0_1 := Aside0.mk hr0_1
 have HC0_1 := Aside0.mk hc0_1
 clear hr0_1 hc0_1
 have HB := am__ (Below.refl w.heap.size w)
 have H : (if (a0_0.size : Int) > 2000 then (impl_thingOk.j0 k a1 true a0_0 l0_1) else (impl_thingOk.j0 k a1 (decide ((l0_1.length : Int) > 30)) a0_0 l0_1)) = some r := h
 clear h
 have HC3 := Aside0.mk H
 clear H
 go_enter Try.func55, Try.ntmps55
 go_upto_region 1 with (first | ((with_reducible refine gate_dst (N := 2) rfl ?_); (try (refine gate_guard (by rfl) ?_; dsimp only)); refine be__ 2 #[.string a0_0, .slice A0_1 l0_1.length c0_1] 61 ?_; intro gb256 hg w4 hbox hb; have BK256 := am__ (hbox); have GW256 := am__ ((bsz__ hg bel__ : w.heap.size ≤ gb256)); have GE256 := am__ ((bsz__ hg bel__ : w.heap.size ≤ gb256)); replace HB := am__ (below_step (bel__) hb); clear hb hbox hg))
 (try simp only [Act.put, List.setIfInBounds_toArray, List.set_cons_zero, List.set_cons_succ])
 go_cut [16] (fun v16 wc => ∃ (kq : Nat) (x16_2 : Bool), v16 = .bool x16_2 ∧ Aside0 (impl_thingOk.j0 kq a1 x16_2 a0_0 l0_1 = some r) ∧ Aside0 (kq ≤ k) ∧ Aside0 (wc.heap[gb256]? = some (.cells #[.string a0_0, (.slice A0_1 l0_1.length c0_1)] 61 (0, 0))) ∧ Aside0 (Below w.heap.size w wc))
 case first =>
  have H := HC3.out
  clear HC3
  by_cases c5 : (a0_0.size : Int) > 2000
  ·rw [if_pos c5] at H
   have c5b0 : decide (2000 < (a0_0.size : Int)) = true := decide_eq_true c5
   have c5b1 : decide (2000 < a0_0.size) = true := decide_eq_true (by omega)
   clear c5
   (first | rw [c5b0] | (simp only [i64_w, i32_w]; rw [c5b0]) | skip)
   have H' := Aside0.mk H
   clear H
   obtain ⟨hcz6_0, hcz6_1, hfz6_0, hfz6_1⟩ := bk2__ BK256.out
   go_wp2
   go_meet
   case rel => exact ⟨_, (true), (rf__), H', ⟨by first | omega | exact Nat.le_refl _⟩, ⟨blk__ BK256.out⟩, ⟨bel__⟩⟩
  ·rw [if_neg c5] at H
   have c5b0 : decide (2000 < (a0_0.size : Int)) = false := decide_eq_false c5
   have c5b1 : decide (2000 < a0_0.size) = false := decide_eq_false (by omega)
   clear c5
   (first | rw [c5b0] | (simp only [i64_w, i32_w]; rw [c5b0]) | skip)
   have H' := Aside0.mk H
   clear H
   obtain ⟨hcz7_0, hcz7_1, hfz7_0, hfz7_1⟩ := bk2__ BK256.out
   go_wp2
   go_meet
   case rel => exact ⟨_, (decide ((l0_1.length : Int) > 30)), (rf__), H', ⟨by first | omega | exact Nat.le_refl _⟩, ⟨blk__ BK256.out⟩, ⟨bel__⟩⟩
 case rest =>
  clear HC3
  try clear p2
  try clear c5
  try clear c5b0
  try clear c5b1
  try clear hcz6_0 hcz6_1 hfz6_0 hfz6_1
  try clear hcz7_0 hcz7_1 hfz7_0 hfz7_1
  obtain ⟨kq, x16_2, rfl, HA, HJ2, BK256, HB⟩ := hcut
  cases kq with
  | zero => exact absurd HA.out (by simp [impl_thingOk.j0])
  | succ kj2 =>
   have H := HA.out
   clear HA
   simp only [impl_thingOk.j0] at H
   by_cases c8 : x16_2 = true
   ·subst c8
    rw [if_pos rfl] at H
    obtain rfl := Option.some.inj H
    go_wp2
    go_ret
    exact ⟨ee__, bel__⟩
   ·replace c8 := Bool.eq_false_iff.mpr c8
    subst c8
    have H1 : (impl_thingOk.l0 kj2 a1 l0_1 (l0_1.length : Int) 0 a0_0 l0_1) = some r := by rw [if_neg (show ¬ (false = true) by decide)] at H; exact H
    clear H
    have H := H1
    clear H1
    have H' := Aside0.mk H
    clear H
    obtain ⟨hcz9_0, hcz9_1, hfz9_0, hfz9_1⟩ := bk2__ BK256.out
    go_wp2
    go_loopg [20] kj2 (fun kq v20 w' => ∃ (x20_2 : Int), v20 = .int .i64 x20_2 ∧ Aside0 (impl_thingOk.l0 kq a1 l0_1 (l0_1.length : Int) x20_2 a0_0 l0_1 = some r) ∧ Aside0 (kq ≤ kj2) ∧ Aside0 (w'.heap[gb256]? = some (.cells #[.string a0_0, (.slice A0_1 l0_1.length c0_1)] 61 (0, 0))) ∧ Aside0 (Below w.heap.size w w'))
    case atStart => exact ⟨(0), (rf__), H', ⟨Nat.le_refl _⟩, ⟨blk__ BK256.out⟩, ⟨bel__⟩⟩
    case round =>
     clear H'
     try clear p2
     try clear c5
     try clear c5b0
     try clear c5b1
     try clear c8
     try clear hcz6_0 hcz6_1 hfz6_0 hfz6_1
     try clear hcz7_0 hcz7_1 hfz7_0 hfz7_1
     try clear hcz9_0 hcz9_1 hfz9_0 hfz9_1
     try clear p2
     obtain ⟨x20_2, rfl, HA, HK2, BK256, HB⟩ := hrel
     cases gk with
     | zero => exact absurd HA.out (by simp [impl_thingOk.l0])
     | succ k2 =>
      have H := HA.out
      clear HA
      simp only [impl_thingOk.l0] at H
      by_cases c10 : x20_2 < (l0_1.length : Int)
      ·rw [if_pos c10] at H
       have c10b0 := decide_eq_true c10
       clear c10
       by_cases c11 : 0 ≤ x20_2
       ·rw [if_pos c11] at H
        have c11b0 := decide_eq_true c11
        clear c11
        by_cases c12 : x20_2 < (l0_1.length : Int)
        ·rw [if_pos c12] at H
         have c12b0 := decide_eq_true c12
         clear c12
         by_cases c13 : ((rdOf ByteArray.empty l0_1 x20_2).size : Int) = a1
         ·rw [if_pos c13] at H
          have c13b0 : (((rdOf ByteArray.empty l0_1 x20_2).size : Int) == a1) = true := beq_iff_eq.mpr c13
          have c13b1 : (((rdOf ByteArray.empty l0_1 x20_2).size : Int) != a1) = false := bne_eq_false_iff_eq.mpr c13
          clear c13
          by_cases c14 : x20_2 > 0
          ·rw [if_pos c14] at H
           have c14b0 : decide (0 < x20_2) = true := decide_eq_true c14
           clear c14
           obtain ⟨ji15, hji15⟩ : ∃ j_ : Int, (wrap64 (x20_2 - 1)) = j_ := ⟨_, rfl⟩
           first | rw [hji15] at H | simp only [hji15] at H
           have hji15w : (IntKind.i64.wrap (x20_2 - 1)) = ji15 := (i64_w _).trans hji15
           by_cases c16 : 0 ≤ (ji15)
           ·rw [if_pos c16] at H
            have c16b0 := decide_eq_true c16
            clear c16
            by_cases c17 : (ji15) < (l0_1.length : Int)
            ·rw [if_pos c17] at H
             have c17b0 := decide_eq_true c17
             clear c17
             by_cases c18 : ((Op.bytesLess ((rdOf ByteArray.empty l0_1 (ji15)).toList) ((rdOf ByteArray.empty l0_1 x20_2).toList)) = true)
             ·rw [if_pos c18] at H
              have c18b0 : (Op.bytesLess ((rdOf ByteArray.empty l0_1 (ji15)).toList) ((rdOf ByteArray.empty l0_1 x20_2).toList)) = true := c18
              clear c18
              have H' := Aside0.mk H
              clear H
              have p257 : 0 ≤ (x20_2 : Int) := of_decide_eq_true (by first | (with_reducible assumption) | assumption)
              have q257 : x20_2 < (l0_1.length : Int) := of_decide_eq_true (by first | (with_reducible assumption) | assumption)
              obtain ⟨ad257, e257, hx257_0⟩ := Kd.at_string HR0_1.out x20_2 p257 q257
              cases e257
              try replace hx257_0 := hb__ HB.out hx257_0
              replace p257 := eq_true p257
              replace q257 := eq_true q257
              obtain ⟨hcz19_0, hcz19_1, hfz19_0, hfz19_1⟩ := bk2__ BK256.out
              have p258 : 0 ≤ ((ji15) : Int) := of_decide_eq_true (by first | (with_reducible assumption) | assumption)
              have q258 : (ji15) < (l0_1.length : Int) := of_decide_eq_true (by first | (with_reducible assumption) | assumption)
              obtain ⟨ad258, e258, hx258_0⟩ := Kd.at_string HR0_1.out (ji15) p258 q258
              obtain rfl : ad257 = ad258 := (by injection e258)
              try replace hx258_0 := hb__ HB.out hx258_0
              replace p258 := eq_true p258
              replace q258 := eq_true q258
              go_wp2
              go_roundg k2
              case measure => have := HJ2.out; have := HK2.out; omega
              case rel => exact ⟨(wrap64 (x20_2 + 1)), (rf__), H', ⟨by have := HJ2.out; have := HK2.out; omega⟩, ⟨blk__ BK256.out⟩, ⟨bel__⟩⟩
             ·rw [if_neg c18] at H
              have c18b0 : (Op.bytesLess ((rdOf ByteArray.empty l0_1 (ji15)).toList) ((rdOf ByteArray.empty l0_1 x20_2).toList)) = false := by simpa using c18
              clear c18
              obtain rfl := Option.some.inj H
              have p257 : 0 ≤ (x20_2 : Int) := of_decide_eq_true (by first | (with_reducible assumption) | assumption)
              have q257 : x20_2 < (l0_1.length : Int) := of_decide_eq_true (by first | (with_reducible assumption) | assumption)
              obtain ⟨ad257, e257, hx257_0⟩ := Kd.at_string HR0_1.out x20_2 p257 q257
              cases e257
              try replace hx257_0 := hb__ HB.out hx257_0
              replace p257 := eq_true p257
              replace q257 := eq_true q257
              obtain ⟨hcz20_0, hcz20_1, hfz20_0, hfz20_1⟩ := bk2__ BK256.out
              have p258 : 0 ≤ ((ji15) : Int) := of_decide_eq_true (by first | (with_reducible assumption) | assumption)
              have q258 : (ji15) < (l0_1.length : Int) := of_decide_eq_true (by first | (with_reducible assumption) | assumption)
              obtain ⟨ad258, e258, hx258_0⟩ := Kd.at_string HR0_1.out (ji15) p258 q258
              obtain rfl : ad257 = ad258 := (by injection e258)
              try replace hx258_0 := hb__ HB.out hx258_0
              replace p258 := eq_true p258
              replace q258 := eq_true q258
              go_wp2
              go_ret
              exact ⟨by first | rfl | (simp [errW_none, errW_some] <;> rfl) | (simp only [← hji15]; first | rfl | (simp [errW_none, errW_some] <;> rfl)) | (simp [*, errW_none, errW_some] <;> rfl), bel__⟩
            ·rw [if_neg c17] at H
             exact absurd H (by simp)
           ·rw [if_neg c16] at H
            exact absurd H (by simp)
          ·rw [if_neg c14] at H
           have c14b0 : decide (0 < x20_2) = false := decide_eq_false c14
           clear c14
           have H' := Aside0.mk H
           clear H
           have p257 : 0 ≤ (x20_2 : Int) := of_decide_eq_true (by first | (with_reducible assumption) | assumption)
           have q257 : x20_2 < (l0_1.length : Int) := of_decide_eq_true (by first | (with_reducible assumption) | assumption)
           obtain ⟨ad257, e257, hx257_0⟩ := Kd.at_string HR0_1.out x20_2 p257 q257
           cases e257
           try replace hx257_0 := hb__ HB.out hx257_0
           replace p257 := eq_true p257
           replace q257 := eq_true q257
           go_wp2
           go_roundg k2
           case measure => have := HJ2.out; have := HK2.out; omega
           case rel => exact ⟨(wrap64 (x20_2 + 1)), (rf__), H', ⟨by have := HJ2.out; have := HK2.out; omega⟩, ⟨blk__ BK256.out⟩, ⟨bel__⟩⟩
         ·rw [if_neg c13] at H
          have c13b0 : (((rdOf ByteArray.empty l0_1 x20_2).size : Int) == a1) = false := beq_eq_false_iff_ne.mpr c13
          have c13b1 : (((rdOf ByteArray.empty l0_1 x20_2).size : Int) != a1) = true := bne_iff_ne.mpr c13
          obtain rfl := Option.some.inj H
          have p257 : 0 ≤ (x20_2 : Int) := of_decide_eq_true (by first | (with_reducible assumption) | assumption)
          have q257 : x20_2 < (l0_1.length : Int) := of_decide_eq_true (by first | (with_reducible assumption) | assumption)
          obtain ⟨ad257, e257, hx257_0⟩ := Kd.at_string HR0_1.out x20_2 p257 q257
          cases e257
          try replace hx257_0 := hb__ HB.out hx257_0
          replace p257 := eq_true p257
          replace q257 := eq_true q257
          go_wp2
          go_ret
          exact ⟨ee__, bel__⟩
        ·rw [if_neg c12] at H
         exact absurd H (by simp)
       ·rw [if_neg c11] at H
        exact absurd H (by simp)
      ·rw [if_neg c10] at H
       have c10b0 := decide_eq_false c10
       clear c10
       replace H := Option.bind_eq_some_iff.mp H
       obtain ⟨t259, A210, H⟩ := H
       have A21 := Aside0.mk A210
       clear A210
       obtain rfl := Option.some.inj H
       go_wp2_with (first | ((with_reducible refine gate_callee (f := 53) rfl ?_); refine gl__ (some 45) Try.func53 #[.int .i64 a1] ?_; (with_reducible refine (impl_widthOk.calls a1 t259 _ A21.out).mono ?_); rintro e w' ⟨rfl, ⟨nd, rfl⟩⟩; refine ⟨_, rfl, ?_⟩))
       go_ret
       exact ⟨ee__, bel__⟩
end Go.Proofs.Ytcijlemojododaa.P

namespace Go.Proofs.Ytcijlemojododaa.P
open Go.RowKit Go.Proofs.YtcijlemojododaaW.PrintWords Go.Proofs.YtcijlemojododaaW.PrintLast Go.Proofs.YtcijlemojododaaW.PrintMore
attribute [local go_sem] max2_int min2_int max_two min_two max_three min_three max_four min_four   -- for this text's walks alone
set_option linter.unusedVariables false
set_option linter.unusedSimpArgs false
/-! ### impl_Sum: function 56 -/
mutual
def impl_Sum.l0 : Nat → ByteArray → Int → Int → Int → Int → Option (ByteArray)
 | 0, _, _, _, _, _ => none
 | k + 1, x0, x1, x5, x13, x14 => if x14 < x13 then (if 0 ≤ x14 then (if x14 < (x0.size : Int) then (impl_Sum.l0 k x0 x1 (IntKind.u64.wrap ((Go.bits .xor .u64 x5 (IntKind.u64.wrap (bt x0 x14))) * 1099511628211)) x13 (wrap64 (x14 + 1))) else (none)) else (none)) else (if 0 ≤ x1 then (if (x1 : Int).toNat ≤ 281474976710656 then (impl_Sum.l1 k x5 (List.replicate (x1 : Int).toNat 0) (wrap64 (x1 - 1))) else (none)) else (none))
def impl_Sum.l1 : Nat → Int → List Int → Int → Option (ByteArray)
 | 0, _, _, _ => none
 | k + 1, x5, x7, x8 => if x8 ≥ 0 then (if 0 ≤ x8 then (if x8 < (x7.length : Int) then (impl_Sum.l1 k (x5 / 256) (x7.set (x8 : Int).toNat ((x5) % 256)) (wrap64 (x8 - 1))) else (none)) else (none)) else (some (strOfNums x7))
end
def impl_Sum.f (k : Nat) (a0 : ByteArray) (a1 : Int) : Option (ByteArray) := (impl_widthOk.f a1).bind fun t260 => (if t260 = true then (impl_Sum.l0 k a0 a1 14695981039346656037 (a0.size : Int) 0) else (some (⟨#[]⟩ : ByteArray)))
set_option maxHeartbeats 8000000 in
set_option maxRecDepth 100000 in
theorem impl_Sum.calls (k : Nat) (a0 : ByteArray) (a1 : Int) (r : ByteArray) (w : World) (h : impl_Sum.f k a0 a1 = some r) :
  Calls Try.prog 56 #[.string a0, .int .i64 a1] w fun e w' => e = .returned (.string r) ∧ Below w.heap.size w w' := by
 have HB := am__ (Below.refl w.heap.size w)
 have H : ((impl_widthOk.f a1).bind fun t260 => (if t260 = true then (impl_Sum.l0 k a0 a1 14695981039346656037 (a0.size : Int) 0) else (some (⟨#[]⟩ : ByteArray)))) = some r := h
 clear h
 replace H := Option.bind_eq_some_iff.mp H
 obtain ⟨t260, A30, H⟩ := H
 have A3 := Aside0.mk A30
 clear A30
 by_cases c4 : t260 = true
 ·subst c4
  rw [if_pos rfl] at H
  have H' := Aside0.mk H
  clear H
  go_enter Try.func56, Try.ntmps56
  go_wp2_with (first | ((with_reducible refine gate_callee (f := 53) rfl ?_); refine gl__ (some 10) Try.func53 #[.int .i64 a1] ?_; (with_reducible refine (impl_widthOk.calls a1 true _ A3.out).mono ?_); rintro e w' ⟨rfl, ⟨nd, rfl⟩⟩; refine ⟨_, rfl, ?_⟩))
  go_loopg [5, 14] k (fun kq v5 v14 w' => ∃ (x5_1 : Int) (x14_1 : Int), v5 = .int .u64 x5_1 ∧ v14 = .int .i64 x14_1 ∧ Aside0 (impl_Sum.l0 kq a0 a1 x5_1 (a0.size : Int) x14_1 = some r) ∧ Aside0 (kq ≤ k) ∧ Aside0 (Below w.heap.size w w'))
  case atStart => exact ⟨(14695981039346656037), (0), (rf__), (rf__), H', ⟨Nat.le_refl _⟩, ⟨bel__⟩⟩
  case round =>
   clear H'
   try clear p2
   try clear c4
   obtain ⟨x5_1, x14_1, rfl, rfl, HA, HK1, HB⟩ := hrel
   cases gk with
   | zero => exact absurd HA.out (by simp [impl_Sum.l0])
   | succ k1 =>
    have H := HA.out
    clear HA
    simp only [impl_Sum.l0] at H
    by_cases c5 : x14_1 < (a0.size : Int)
    ·rw [if_pos c5] at H
     have c5b0 := decide_eq_true c5
     clear c5
     by_cases c6 : 0 ≤ x14_1
     ·rw [if_pos c6] at H
      have c6b0 := decide_eq_true c6
      clear c6
      by_cases c7 : x14_1 < (a0.size : Int)
      ·rw [if_pos c7] at H
       have c7b0 := decide_eq_true c7
       clear c7
       have H' := Aside0.mk H
       clear H
       have p8 : 0 ≤ (x14_1 : Int) := of_decide_eq_true (by first | (with_reducible assumption) | assumption)
       have q8 : x14_1 < (a0.size : Int) := of_decide_eq_true (by first | (with_reducible assumption) | assumption)
       have hx8 := bt_at a0 x14_1
       replace p8 := eq_true p8
       replace q8 := eq_true q8
       go_wp2
       go_roundg k1
       case measure => have := HK1.out; omega
       case rel => exact ⟨(IntKind.u64.wrap ((Go.bits .xor .u64 x5_1 (IntKind.u64.wrap (bt a0 x14_1))) * 1099511628211)), (wrap64 (x14_1 + 1)), (rf__), (rf__), H', ⟨by have := HK1.out; omega⟩, ⟨bel__⟩⟩
      ·rw [if_neg c7] at H
       exact absurd H (by simp)
     ·rw [if_neg c6] at H
      exact absurd H (by simp)
    ·rw [if_neg c5] at H
     have c5b0 := decide_eq_false c5
     clear c5
     by_cases c9 : 0 ≤ a1
     ·rw [if_pos c9] at H
      have c9b0 := eq_true c9
      have c9b1 := decide_eq_true c9
      clear c9
      by_cases c10 : (a1 : Int).toNat ≤ 281474976710656
      ·rw [if_pos c10] at H
       have c10b0 := eq_true c10
       have c10b1 := decide_eq_true c10
       clear c10
       obtain ⟨y261, hy261⟩ : ∃ y_ : List Int, y_ = (List.replicate (a1 : Int).toNat 0) := ⟨_, rfl⟩
       replace H : (impl_Sum.l1 k1 x5_1 y261 (wrap64 (a1 - 1))) = some r := by first | (rw [hy261]; with_reducible exact H) | (have H2_ := (Option.bind_some _ _).symm.trans H; rw [hy261]; with_reducible exact H2_) | (have H2_ := (Option.bind_some _ _).symm.trans H; with_reducible exact H2_) | with_reducible exact H | (rw [hy261]; exact H) | exact H
       have Ny261 := Aside0.mk hy261
       clear hy261
       have H' := Aside0.mk H
       clear H
       go_wp2_with (first | ((with_reducible refine gate_dst (N := 27) rfl ?_); refine Kd.R_make (Kd.int .u8) _ 5 rfl (N := 27) rfl 51 _ _ rfl a1 rfl rfl Try.underlying51 (.int .u8 0) 1 info5 rfl (by decide) (by omega) 0 (ok := fun _ => True) (okp := fun _ => True) rfl (fun _ hk => hk) trivial (of_decide_eq_true (by first | (with_reducible assumption) | assumption)) (Nat.le_trans (Nat.mul_le_mul_right _ (of_decide_eq_true (by first | (with_reducible assumption) | assumption) : a1.toNat ≤ 281474976710656)) (by omega)) (Below.refl _ _) (Nat.le_refl _) ?_; intro v262 w11 ho12 hb hg_ hnew_; clear hg_ hnew_; (first | rw [← Ny261.out] at ho12 | (simp only [Int.reduceToNat] at ho12; rw [← Ny261.out] at ho12)); have HO263 := am__ (Kd.R_lower ho12 (below_size (bel__))); replace HB := am__ (below_step (bel__) hb); clear hb ho12))
       go_loopg [5, 8] k1 (fun kq v5 v8 w' => ∃ (x5_2 : Int) (x7_2 : List Int) (x8_2 : Int), v5 = .int .u64 x5_2 ∧ v8 = .int .i64 x8_2 ∧ Aside0 (impl_Sum.l1 kq x5_2 x7_2 x8_2 = some r) ∧ Aside0 (kq ≤ k1) ∧ Aside0 (Kd.R (Kd.int .u8) 5 w' w.heap.size (fun _ => True) v262 x7_2) ∧ Aside0 (Below w.heap.size w w'))
       case atStart => exact ⟨(x5_1), (y261), (wrap64 (a1 - 1)), (rf__), (rf__), H', ⟨Nat.le_refl _⟩, ⟨rr__ HO263.out⟩, ⟨bel__⟩⟩
       case round =>
        clear H'
        try clear c1
        try clear p2
        try clear c4
        try clear c5
        try clear c5b0
        try clear c6
        try clear c6b0
        try clear p6
        try clear c7
        try clear c7b0
        try clear p8
        try clear q8
        try clear hx8
        try clear c9
        try clear c9b0
        try clear c9b1
        try clear c10
        try clear c10b0
        try clear c10b1
        try clear p2
        try clear p8
        try clear q8
        obtain ⟨x5_2, x7_2, x8_2, rfl, rfl, HA, HK2, HO_7, HB⟩ := hrel
        cases gk with
        | zero => exact absurd HA.out (by simp [impl_Sum.l1])
        | succ k2 =>
         have H := HA.out
         clear HA
         simp only [impl_Sum.l1] at H
         by_cases c13 : x8_2 ≥ 0
         ·rw [if_pos c13] at H
          have c13b0 : decide (0 ≤ x8_2) = true := decide_eq_true c13
          clear c13
          by_cases c14 : 0 ≤ x8_2
          ·rw [if_pos c14] at H
           have c14b0 := decide_eq_true c14
           clear c14
           by_cases c15 : x8_2 < (x7_2.length : Int)
           ·rw [if_pos c15] at H
            have c15b0 := decide_eq_true c15
            clear c15
            obtain ⟨y264, hy264⟩ : ∃ y_ : List Int, y_ = (x7_2.set (x8_2 : Int).toNat ((x5_2) % 256)) := ⟨_, rfl⟩
            replace H : (impl_Sum.l1 k2 (x5_2 / 256) y264 (wrap64 (x8_2 - 1))) = some r := by first | (rw [hy264]; with_reducible exact H) | (have H2_ := (Option.bind_some _ _).symm.trans H; rw [hy264]; with_reducible exact H2_) | (have H2_ := (Option.bind_some _ _).symm.trans H; with_reducible exact H2_) | with_reducible exact H | (rw [hy264]; exact H) | exact H
            have Ny264 := Aside0.mk hy264
            clear hy264
            have H' := Aside0.mk H
            clear H
            have p16 : 0 ≤ (x8_2 : Int) := of_decide_eq_true (by first | (with_reducible assumption) | assumption)
            have q16 : (x8_2 : Int) < ((x7_2.length : Int) : Int) := of_decide_eq_true (by first | (with_reducible assumption) | assumption)
            obtain ⟨go16, co16, eo16, gb16, gl16, cl16, HG16⟩ := Kd.R_form HO_7.out (by omega)
            (first | cases eo16 | (injection eo16 with ea_ en_ ec_; (first | subst ea_ | (injection ea_ with ea_; subst ea_)); subst ec_; clear en_))
            have GB16 := Aside0.mk gb16
            have GG16 := Aside0.mk HG16
            clear gb16 gl16 HG16
            obtain ⟨hx16_0, hf16_0⟩ := Kd.R_celln 0 HO_7.out (x8_2 : Int) p16 q16
            replace p16 := eq_true p16
            replace q16 := eq_true q16
            have HP17 := Kd.R_putg HO_7.out (x8_2 : Int) ((x5_2) % 256)
            go_wp2_with (first | ((with_reducible refine gate_store (t := 5) (p := 38) rfl ?_); refine store_event (t := 5) (p := 38) (v := ?vo_w18) (w1 := (wr.setCell ⟨go16, (x8_2 : Int).toNat, none⟩ (.int .u8 ((x5_2) % 256)))) ?hg ?ho ?hn ?hr ?_; (case ho => rfl); (case hg => rfl); (case hn => rfl); (case hr => first | (go_simp; done) | (go_simp; rfl)); intro w18 hw; have hg : wr.grownBy w18 (some go16) := (by rw [hw]; exact HP17.2); have hp_ : Kd.R (Kd.int .u8) 5 w18 w.heap.size (fun _ => True) (.slice (some ⟨go16, 0, none⟩) x7_2.length co16) y264 := (by rw [hw, Ny264.out]; exact HP17.1); clear HP17; replace HO_7 := am__ (hp_); replace HB := am__ ((by rw [hw]; exact below_set (HB.out) GB16.out : Below w.heap.size w w18)); clear hg hw hp_))
            go_roundg k2
            case measure => have := HK1.out; have := HK2.out; omega
            case rel => exact ⟨(x5_2 / 256), (y264), (wrap64 (x8_2 - 1)), (rf__), (rf__), H', ⟨by have := HK1.out; have := HK2.out; omega⟩, ⟨rr__ HO_7.out⟩, ⟨bel__⟩⟩
           ·rw [if_neg c15] at H
            exact absurd H (by simp)
          ·rw [if_neg c14] at H
           exact absurd H (by simp)
         ·rw [if_neg c13] at H
          have c13b0 : decide (0 ≤ x8_2) = false := decide_eq_false c13
          clear c13
          obtain rfl := Option.some.inj H
          have hcv19 := own_string (P := Try.prog) Try.underlying51 Try.underlying5 Try.underlying9 (Kd.own_of_R HO_7.out)
          go_wp2
          go_ret
          exact ⟨ee__, bel__⟩
      ·rw [if_neg c10] at H
       exact absurd H (by simp)
     ·rw [if_neg c9] at H
      exact absurd H (by simp)
 ·replace c4 := Bool.eq_false_iff.mpr c4
  subst c4
  have H1 : (some (⟨#[]⟩ : ByteArray)) = some r := by rw [if_neg (show ¬ (false = true) by decide)] at H; exact H
  clear H
  have H := H1
  clear H1
  obtain rfl := Option.some.inj H
  go_enter Try.func56, Try.ntmps56
  go_wp2_with (first | ((with_reducible refine gate_callee (f := 53) rfl ?_); refine gl__ (some 10) Try.func53 #[.int .i64 a1] ?_; (with_reducible refine (impl_widthOk.calls a1 false _ A3.out).mono ?_); rintro e w' ⟨rfl, ⟨nd, rfl⟩⟩; refine ⟨_, rfl, ?_⟩))
  go_ret
  exact ⟨ee__, bel__⟩
end Go.Proofs.Ytcijlemojododaa.P

namespace Go.Proofs.Ytcijlemojododaa.P
open Go.RowKit Go.Proofs.YtcijlemojododaaW.PrintWords Go.Proofs.YtcijlemojododaaW.PrintLast Go.Proofs.YtcijlemojododaaW.PrintMore
attribute [local go_sem] max2_int min2_int max_two min_two max_three min_three max_four min_four   -- for this text's walks alone
set_option linter.unusedVariables false
set_option linter.unusedSimpArgs false
/-! ### impl_form: function 57 -/
def impl_form.l0 : Nat → ByteArray → List ByteArray → Int → Int → ByteArray → List ByteArray → Option (ByteArray)
 | 0, _, _, _, _, _, _ => none
 | k + 1, x3, x13, x14, x15, x266000, x266001 => if x15 < x14 then (if 0 ≤ x15 then (if x15 < (x13.length : Int) then (if x3.size + (rdOf ByteArray.empty x13 x15).size ≤ 9223372036854775807 then (impl_form.l0 k (x3 ++ (rdOf ByteArray.empty x13 x15)) x13 x14 (wrap64 (x15 + 1)) x266000 x266001) else (none)) else (none)) else (none)) else (if x3.size + x266000.size ≤ 9223372036854775807 then (some (x3 ++ x266000)) else (none))
def impl_form.f (k : Nat) (a0_0 : ByteArray) (l0_1 : List ByteArray) : Option (ByteArray) := impl_form.l0 k (strOfNums (([((l0_1.length : Int)) % 256] : List Int))) l0_1 (l0_1.length : Int) 0 a0_0 l0_1
set_option maxHeartbeats 8000000 in
set_option maxRecDepth 100000 in
theorem impl_form.calls (k : Nat) (a0_0 : ByteArray) (A0_1 : Option Addr) (c0_1 : Nat) (l0_1 : List ByteArray) (r : ByteArray) (w : World) (hr0_1 : Kd.C Kd.string w A0_1 l0_1.length l0_1) (hc0_1 : l0_1.length ≤ c0_1) (h : impl_form.f k a0_0 l0_1 = some r) :
  Calls Try.prog 57 #[.agg #[.string a0_0, .slice A0_1 l0_1.length c0_1]] w fun e w' => e = .returned (.string r) ∧ Below w.heap.size w w' := by
 have hu61 := Try.underlying61
 have HR0_1 := Aside0.mk hr0_1
 have HC0_1 := Aside0.mk hc0_1
 clear hr0_1 hc0_1
 have HB := am__ (Below.refl w.heap.size w)
 have H : (impl_form.l0 k (strOfNums (([((l0_1.length : Int)) % 256] : List Int))) l0_1 (l0_1.length : Int) 0 a0_0 l0_1) = some r := h
 clear h
 obtain ⟨y266, hy266⟩ : ∃ y_ : List Int, y_ = (([((l0_1.length : Int)) % 256] : List Int)) := ⟨_, rfl⟩
 replace H : (impl_form.l0 k (strOfNums y266) l0_1 (l0_1.length : Int) 0 a0_0 l0_1) = some r := by first | (rw [hy266]; with_reducible exact H) | (have H2_ := (Option.bind_some _ _).symm.trans H; rw [hy266]; with_reducible exact H2_) | (have H2_ := (Option.bind_some _ _).symm.trans H; with_reducible exact H2_) | with_reducible exact H | (rw [hy266]; exact H) | exact H
 have Ny266 := Aside0.mk hy266
 clear hy266
 have H' := Aside0.mk H
 clear H
 go_enter Try.func57, Try.ntmps57
 go_wp2_with (first | ((with_reducible refine gate_dst (N := 1) rfl ?_); refine be__ 1 #[.string a0_0, .slice A0_1 l0_1.length c0_1] 61 ?_; intro gb265 hg w2 hbox hb; have BK265 := am__ (hbox); have GW265 := am__ ((bsz__ hg bel__ : w.heap.size ≤ gb265)); have GE265 := am__ ((bsz__ hg bel__ : w.heap.size ≤ gb265)); replace HB := am__ (below_step (bel__) hb); clear hb hbox hg; obtain ⟨hcz3_0, hcz3_1, hfz3_0, hfz3_1⟩ := bk2__ BK265.out) | ((with_reducible refine gate_dst (N := 10) rfl ?_); refine Kd.R_lit (Kd.int .u8) _ 5 ?hg (N := 10) ?hd (xs := ([((l0_1.length : Int)) % 256] : List Int)) (inner := [.int .u8 (((l0_1.length : Int)) % 256)]) (ok := fun _ => True) (okp := fun _ => True) ?hr ?hp (fun _ hk => hk) trivial (Below.refl _ _) (Nat.le_refl _) (by simp) ?_; (case hd => rfl); (case hg => rfl); (case hr => first | (go_simp; done) | (go_simp; rfl)); (case hp => exact (Reps.one (show Kd.M (Kd.int .u8) _ _ _ (((l0_1.length : Int)) % 256) [.int .u8 (((l0_1.length : Int)) % 256)] from rfl) (Reps.none _ _))); intro v267 w4 ho5 hb hg_ hnew_; clear hg_ hnew_; (first | rw [← Ny266.out] at ho5 | (simp only [Int.reduceToNat] at ho5; rw [← Ny266.out] at ho5)); have HO268 := am__ (Kd.R_lower ho5 (below_size (bel__))); replace BK265 := am__ (blb__ BK265.out hb); replace HB := am__ (below_step (bel__) hb); clear hb ho5; have hcv6 := own_string (P := Try.prog) Try.underlying51 Try.underlying5 Try.underlying9 (Kd.own_of_R HO268.out); obtain ⟨hcz7_0, hcz7_1, hfz7_0, hfz7_1⟩ := bk2__ BK265.out))
 go_loopg [3, 15] k (fun kq v3 v15 w' => ∃ (x3_1 : ByteArray) (x15_1 : Int), v3 = .string x3_1 ∧ v15 = .int .i64 x15_1 ∧ Aside0 (impl_form.l0 kq x3_1 l0_1 (l0_1.length : Int) x15_1 a0_0 l0_1 = some r) ∧ Aside0 (kq ≤ k) ∧ Aside0 (w'.heap[gb265]? = some (.cells #[.string a0_0, (.slice A0_1 l0_1.length c0_1)] 61 (0, 0))) ∧ Aside0 (Below w.heap.size w w'))
 case atStart => exact ⟨(strOfNums y266), (0), (rf__), (rf__), H', ⟨Nat.le_refl _⟩, ⟨blk__ BK265.out⟩, ⟨bel__⟩⟩
 case round =>
  clear H'
  try clear p2
  try clear c5
  try clear hcv6
  try clear hcz3_0 hcz3_1 hfz3_0 hfz3_1
  try clear hcz7_0 hcz7_1 hfz7_0 hfz7_1
  obtain ⟨x3_1, x15_1, rfl, rfl, HA, HK1, BK265, HB⟩ := hrel
  cases gk with
  | zero => exact absurd HA.out (by simp [impl_form.l0])
  | succ k1 =>
   have H := HA.out
   clear HA
   simp only [impl_form.l0] at H
   by_cases c8 : x15_1 < (l0_1.length : Int)
   ·rw [if_pos c8] at H
    have c8b0 := decide_eq_true c8
    clear c8
    by_cases c9 : 0 ≤ x15_1
    ·rw [if_pos c9] at H
     have c9b0 := decide_eq_true c9
     clear c9
     by_cases c10 : x15_1 < (l0_1.length : Int)
     ·rw [if_pos c10] at H
      have c10b0 := decide_eq_true c10
      clear c10
      by_cases c11 : x3_1.size + (rdOf ByteArray.empty l0_1 x15_1).size ≤ 9223372036854775807
      ·rw [if_pos c11] at H
       have c11b0 := eq_true c11
       have c11b1 := decide_eq_true c11
       try have c11b2 : (9223372036854775807 < x3_1.size + (rdOf ByteArray.empty l0_1 x15_1).size) = False := eq_false (Nat.not_lt.2 c11)
       have H' := Aside0.mk H
       clear H
       have p269 : 0 ≤ (x15_1 : Int) := of_decide_eq_true (by first | (with_reducible assumption) | assumption)
       have q269 : x15_1 < (l0_1.length : Int) := of_decide_eq_true (by first | (with_reducible assumption) | assumption)
       obtain ⟨ad269, e269, hx269_0⟩ := Kd.at_string HR0_1.out x15_1 p269 q269
       cases e269
       try replace hx269_0 := hb__ HB.out hx269_0
       replace p269 := eq_true p269
       replace q269 := eq_true q269
       go_wp2
       go_roundg k1
       case measure => have := HK1.out; omega
       case rel => exact ⟨(x3_1 ++ (rdOf ByteArray.empty l0_1 x15_1)), (wrap64 (x15_1 + 1)), (rf__), (rf__), H', ⟨by have := HK1.out; omega⟩, ⟨blk__ BK265.out⟩, ⟨bel__⟩⟩
      ·rw [if_neg c11] at H
       exact absurd H (by simp)
     ·rw [if_neg c10] at H
      exact absurd H (by simp)
    ·rw [if_neg c9] at H
     exact absurd H (by simp)
   ·rw [if_neg c8] at H
    have c8b0 := decide_eq_false c8
    clear c8
    by_cases c12 : x3_1.size + a0_0.size ≤ 9223372036854775807
    ·rw [if_pos c12] at H
     have c12b0 := eq_true c12
     have c12b1 := decide_eq_true c12
     try have c12b2 : (9223372036854775807 < x3_1.size + a0_0.size) = False := eq_false (Nat.not_lt.2 c12)
     obtain rfl := Option.some.inj H
     obtain ⟨hcz13_0, hcz13_1, hfz13_0, hfz13_1⟩ := bk2__ BK265.out
     go_wp2
     go_ret
     exact ⟨ee__, bel__⟩
    ·rw [if_neg c12] at H
     exact absurd H (by simp)
end Go.Proofs.Ytcijlemojododaa.P

/- Contracts by hand: sort.Search with a predicate that only reads; the places of things, pins and leases in a state behind a pointer. -/
namespace Go.Proofs.Ytcijlemojododaa.S
open Go.RowKit Go.Proofs.Ytcijlemojododaa.P Go.Proofs.YtcijlemojododaaW.PrintWords Go.Proofs.YtcijlemojododaaW.PrintLast Go.Proofs.YtcijlemojododaaW.PrintMore
set_option linter.unusedVariables false

/-- What sort.Search comes to, whatever the predicate. -/
def bsr (p : Nat → Bool) : Nat → Nat → Nat → Nat
  | 0, lo, _ => lo
  | k + 1, lo, hi => if lo < hi then (if p ((lo + hi) / 2) = true then bsr p k lo ((lo + hi) / 2) else bsr p k ((lo + hi) / 2 + 1) hi) else lo
def bs (p : Nat → Bool) (n : Nat) : Nat := bsr p n 0 n
set_option maxHeartbeats 2000000 in
theorem search_calls (g : Nat) (cb : Array Value) (n : Nat) (p : Nat → Bool) (w : World) (eg : ∀ args w, (callFunc g args).run Try.prog w = .ok (.enter g args) w) (hsz : n ≤ 140737488351232)
    (hf : ∀ (m : Nat) (i : Nat), i < n → Calls Try.prog g (#[.int .i64 i] ++ cb) (w.drewN m) fun e w' => e = .returned (.bool (p i)) ∧ ∃ q, w' = (w.drewN m).drewN q) :
    Calls Try.prog 102 #[.int .i64 n, .func (.func g) #[] cb] w fun e w' => e = .returned (.int .i64 ((bs p n : Nat) : Int)) ∧ ∃ q, w' = w.drewN q := by
  have HF := Aside0.mk hf
  clear hf
  obtain ⟨r, hr⟩ : ∃ r, bsr p n 0 n = r := ⟨_, rfl⟩
  have HR := Aside0.mk hr
  have er : bs p n = r := hr
  rw [er]
  clear hr er
  go_enter Try.func102, Try.ntmps102
  go_wp2
  go_loopg [5, 6] n (fun kx s5 s6 wr => ∃ (lo hi q : Nat), s5 = .int .i64 lo ∧ s6 = .int .i64 hi ∧ lo ≤ hi ∧ hi ≤ n ∧ hi - lo ≤ kx ∧ Aside0 (bsr p kx lo hi = r) ∧ wr = w.drewN q)
  case atStart => exact ⟨0, n, 0, rfl, rfl, Nat.zero_le _, Nat.le_refl _, by omega, HR, rfl⟩
  case round =>
    clear HR
    obtain ⟨lo, hi, q, rfl, rfl, hlh, hin, hg, I, rfl⟩ := hrel
    by_cases hlt : lo < hi
    · obtain ⟨kk, rfl⟩ : ∃ m, gk = m + 1 := ⟨gk - 1, by omega⟩
      have hc := HF.out q ((lo + hi) / 2) (by omega)
      rw [show (((lo + hi) / 2 : Nat) : Int) = ((lo : Int) + (hi : Int)) / 2 by omega] at hc
      have hI := I.out
      unfold bsr at hI
      rw [if_pos hlt] at hI
      clear I
      cases hp : p ((lo + hi) / 2) <;> rw [hp] at hc
      · rw [if_neg (by rw [hp]; simp)] at hI
        have I := Aside0.mk hI
        clear hp hI
        go_wp2_with (go_at_fn g; refine hc.mono ?_; rintro e w' ⟨rfl, nq, rfl⟩)
        go_roundg kk
        case measure => omega
        case rel => exact ⟨(lo + hi) / 2 + 1, hi, q + nq, by rw [show ((lo : Int) + (hi : Int)) / 2 + 1 = (((lo + hi) / 2 + 1 : Nat) : Int) by omega], rfl, by omega, hin, by omega, I, rfl⟩
      · rw [if_pos hp] at hI
        have I := Aside0.mk hI
        clear hp hI
        go_wp2_with (go_at_fn g; refine hc.mono ?_; rintro e w' ⟨rfl, nq, rfl⟩)
        go_roundg kk
        case measure => omega
        case rel => exact ⟨lo, (lo + hi) / 2, q + nq, rfl, by rw [show ((lo : Int) + (hi : Int)) / 2 = (((lo + hi) / 2 : Nat) : Int) by omega], by omega, by omega, by omega, I, rfl⟩
    · obtain rfl : hi = lo := by omega
      have hI := I.out
      have e1 : r = hi := by
        rw [← hI]
        cases gk with
        | zero => rfl
        | succ m => unfold bsr; rw [if_neg (Nat.lt_irrefl _)]
      clear I hI
      subst e1
      go_wp2
      go_ret
      exact ⟨rfl, q, rfl⟩
/-! ### the things' places -/
/-- Is the sum of the thing at place i not below x? -/
def geT (l : List S91) (x : ByteArray) (i : Nat) : Bool := !Op.bytesLess (rd_T91 l (i : Int)).f0.toList x.toList
theorem thing1_calls (bs' bx g i : Nat) (A : Option Addr) (c : Nat) (l : List S91) (x : ByteArray) (W : World) (hi : i < l.length) (hl : l.length ≤ 140737488351232)
    (h1 : W.cell? ⟨bs', 0, none⟩ = some (.pointer (some ⟨g, 0, none⟩))) (h2 : W.cell? ⟨bx, 0, none⟩ = some (.string x)) (h3 : W.cell? ⟨g, 4, none⟩ = some (.slice A l.length c)) (hr : Kd.C k91 W A l.length l) (hc : l.length ≤ c) :
    Calls Try.prog 103 (#[.int .i64 i] ++ #[.pointer (some ⟨bs', 0, none⟩), .pointer (some ⟨bx, 0, none⟩)]) W fun e w' => e = .returned (.bool (geT l x i)) ∧ ∃ q, w' = W.drewN q := by
  obtain ⟨ad, A3, c3, rfl, hx0, _, _, _, _⟩ := at_T91 hr (i : Int) (by omega) (by omega)
  rw [Int.toNat_natCast] at hx0
  unfold geT
  generalize (rd_T91 l (i : Int)).f0 = y at hx0 ⊢
  clear hr
  generalize l.length = n at *
  have hiz : (i : Int) < (n : Int) := by omega
  have h0z : 0 ≤ (i : Int) := by omega
  go_enter Try.func103, Try.ntmps103
  go_wp2
  go_quiet (fail)
  go_wp2
  go_ret
  exact ⟨rfl, by first | exact ⟨0, rfl⟩ | exact ⟨_, rfl⟩⟩
/-- The place of a sum among things, and is it there. -/
def placeT (l : List S91) (x : ByteArray) : Nat := bs (geT l x) l.length
def thereT (l : List S91) (x : ByteArray) : Bool := decide (placeT l x < l.length) && ((rd_T91 l (placeT l x : Int)).f0.toList == x.toList)
set_option maxHeartbeats 2000000 in
theorem thing_calls (g : Nat) (A : Option Addr) (c : Nat) (l : List S91) (x : ByteArray) (w : World) (hl : l.length ≤ 140737488351232)
    (h3 : w.cell? ⟨g, 4, none⟩ = some (.slice A l.length c)) (hr : Kd.C k91 w A l.length l) (hc : l.length ≤ c) :
    Calls Try.prog 58 #[.pointer (some ⟨g, 0, none⟩), .string x] w fun e w' => e = .returned (.tuple #[.int .i64 ((placeT l x : Nat) : Int), .bool (thereT l x)]) ∧ Below w.heap.size w w' := by
  have hg : g < w.heap.size := World.block_lt_of_cell? w _ h3
  obtain ⟨W0, hW0⟩ : ∃ W0, W0 = (w.alloc (.cells #[.pointer (some ⟨g, 0, none⟩)] 141)).alloc (.cells #[.string x] 9) := ⟨_, rfl⟩
  have hb0 : Below w.heap.size w W0 := by rw [hW0]; exact ((Below.refl _ _).alloc (Nat.le_refl _) _).alloc (by simp) _
  have c1 : W0.cell? ⟨w.heap.size, 0, none⟩ = some (.pointer (some ⟨g, 0, none⟩)) := by rw [hW0]; go_simp
  have c2 : W0.cell? ⟨w.heap.size + 1, 0, none⟩ = some (.string x) := by rw [hW0]; go_simp
  have c3 : W0.cell? ⟨g, 4, none⟩ = some (.slice A l.length c) := (hb0.cell hg).trans h3
  have hr0 : Kd.C k91 W0 A l.length l := Kd.C_below hr hb0
  have dr : ∀ m : Nat, Below W0.heap.size W0 (W0.drewN m) := fun m => pw_below_drewN (Below.refl _ _) m
  have eg : ∀ args w, (callFunc 103 args).run Try.prog w = .ok (.enter 103 args) w := enters_of Try.func103 (by kernel_rfl) rfl
  have hS := search_calls 103 #[.pointer (some ⟨w.heap.size, 0, none⟩), .pointer (some ⟨w.heap.size + 1, 0, none⟩)] l.length (geT l x) W0 eg hl
    (fun m i hi => thing1_calls _ _ g i A c l x (W0.drewN m) hi hl (pw_cell_below (dr m) c1) (pw_cell_below (dr m) c2) (pw_cell_below (dr m) c3) (Kd.C_below hr0 (dr m)) hc)
  have ep : bs (geT l x) l.length = placeT l x := rfl
  rw [ep] at hS
  have et : thereT l x = (decide (placeT l x < l.length) && ((rd_T91 l (placeT l x : Int)).f0.toList == x.toList)) := rfl
  rw [et]
  have hr1 := fun (q : Nat) (h : placeT l x < l.length) => at_T91 (Kd.C_below hr0 (dr q)) (placeT l x : Int) (by omega) (by omega)
  clear ep et hr hr0
  generalize placeT l x = j at *
  generalize hy : (rd_T91 l (j : Int)).f0 = y at *
  clear hy
  by_cases hj : j < l.length
  · have hd : decide (j < l.length) = true := decide_eq_true hj
    rw [hd, Bool.true_and]
    have hx : ∀ q, ∃ ad, A = some ad ∧ (W0.drewN q).cell? (ad.add (j * 4)) = some (.string y) := fun q => by
      obtain ⟨ad, _, _, e, h, _⟩ := hr1 q hj
      rw [Int.toNat_natCast] at h
      exact ⟨ad, e, h⟩
    obtain ⟨ad, rfl, _⟩ := hx 0
    have hx2 : ∀ q, (W0.drewN q).cell? (ad.add (j * 4)) = some (.string y) := fun q => by
      obtain ⟨ad', e, h⟩ := hx q
      obtain rfl : ad = ad' := Option.some.inj e
      exact h
    have hjz : (j : Int) < (l.length : Int) := by omega
    have hjd : decide ((j : Int) < (l.length : Int)) = true := decide_eq_true hjz
    have hall := fun q => And.intro (hx2 q) (And.intro (pw_cell_below (dr q) c1) (And.intro (pw_cell_below (dr q) c2) (And.intro (pw_cell_below (dr q) c3) (below_then hb0 hb0.size (dr q)))))
    have HALL := Aside0.mk hall
    clear hall hx hx2 hr1 hd dr c1 c2 hb0
    generalize l.length = n at *
    subst hW0
    go_enter Try.func58, Try.ntmps58
    go_wp2_with (go_at_call 102; refine hS.mono ?_; rintro e w' ⟨rfl, q, rfl⟩)
    obtain ⟨d1, d2, d3, d4, d5⟩ := HALL.out q
    have D5 := Aside0.mk d5
    clear HALL d5 c3 hS
    generalize World.drewN _ q = W1 at d1 d2 d3 d4 D5 ⊢
    go_quiet (fail)
    go_wp2
    go_ret2
    exact ⟨by first | rfl | simp, by first | exact D5.out | exact pw_below_drewN D5.out _⟩
  · have hd : decide (j < l.length) = false := decide_eq_false hj
    rw [hd, Bool.false_and]
    have hjd : decide ((j : Int) < (l.length : Int)) = false := decide_eq_false (by omega)
    have hall := fun q => And.intro (pw_cell_below (dr q) c1) (And.intro (pw_cell_below (dr q) c2) (And.intro (pw_cell_below (dr q) c3) (below_then hb0 hb0.size (dr q))))
    have HALL := Aside0.mk hall
    clear hall hr1 hd dr c1 c2 hb0
    generalize l.length = n at *
    subst hW0
    go_enter Try.func58, Try.ntmps58
    go_wp2_with (go_at_call 102; refine hS.mono ?_; rintro e w' ⟨rfl, q, rfl⟩)
    obtain ⟨d2, d3, d4, d5⟩ := HALL.out q
    have D5 := Aside0.mk d5
    clear HALL d5 c3 hS
    generalize World.drewN _ q = W1 at d2 d3 d4 D5 ⊢
    go_quiet (fail)
    go_wp2
    go_ret2
    exact ⟨by first | rfl | simp, by first | exact D5.out | exact pw_below_drewN D5.out _⟩
end Go.Proofs.Ytcijlemojododaa.S

namespace Go.Proofs.Ytcijlemojododaa.P
open Go.RowKit Go.Proofs.YtcijlemojododaaW.PrintWords Go.Proofs.YtcijlemojododaaW.PrintLast Go.Proofs.YtcijlemojododaaW.PrintMore
attribute [local go_sem] max2_int min2_int max_two min_two max_three min_three max_four min_four   -- for this text's walks alone
set_option linter.unusedVariables false
set_option linter.unusedSimpArgs false
/-! ### impl_State_thing: function 58 -/
/-- The place of a sum among things (what sort.Search gives), and is it there. -/
def impl_State_thing.f (l : List (S91)) (x : ByteArray) : Option (Int × Bool) := if l.length ≤ 140737488351232 then some (((Go.Proofs.Ytcijlemojododaa.S.placeT l x : Nat) : Int), Go.Proofs.Ytcijlemojododaa.S.thereT l x) else none
theorem impl_State_thing.calls (g : Nat) (A : Option Addr) (c : Nat) (l : List (S91)) (x : ByteArray) (r1 : Int) (r2 : Bool) (w : World) (hr : Kd.C k91 w A l.length l) (hc : l.length ≤ c) (h3 : w.cell? ⟨g, 4, none⟩ = some (.slice A l.length c)) (h : impl_State_thing.f l x = some (r1, r2)) :
  Calls Try.prog 58 #[.pointer (some ⟨g, 0, none⟩), .string x] w fun e w' => e = .returned (.tuple #[.int .i64 r1, .bool r2]) ∧ Below w.heap.size w w' := by
 unfold impl_State_thing.f at h
 by_cases hl : l.length ≤ 140737488351232
 rotate_left
 ·rw [if_neg hl] at h
  cases h
 rw [if_pos hl] at h
 injection h with h
 injection h with h1 h2
 subst h1
 subst h2
 exact Go.Proofs.Ytcijlemojododaa.S.thing_calls g A c l x w hl h3 hr hc
end Go.Proofs.Ytcijlemojododaa.P

namespace Go.Proofs.Ytcijlemojododaa.P
open Go.RowKit Go.Proofs.YtcijlemojododaaW.PrintWords Go.Proofs.YtcijlemojododaaW.PrintLast Go.Proofs.YtcijlemojododaaW.PrintMore
attribute [local go_sem] max2_int min2_int max_two min_two max_three min_three max_four min_four   -- for this text's walks alone
set_option linter.unusedVariables false
set_option linter.unusedSimpArgs false
/-! ### impl_nameOk: function 59 -/
def impl_nameOk.l0 : Nat → ByteArray → Int → Int → Option (Bool)
 | 0, _, _, _ => none
 | k + 1, x0, x5, x6 => if x6 < x5 then (if 0 ≤ x6 then (if x6 < (x0.size : Int) then (if (bt x0 x6) < 33 then (some false) else (if (bt x0 x6) > 126 then (some false) else (impl_nameOk.l0 k x0 x5 (wrap64 (x6 + 1))))) else (none)) else (none)) else (if (x0.size : Int) ≥ 1 then (some (decide ((x0.size : Int) ≤ 40))) else (some false))
def impl_nameOk.f (k : Nat) (a0 : ByteArray) : Option (Bool) := impl_nameOk.l0 k a0 (a0.size : Int) 0
set_option maxHeartbeats 8000000 in
set_option maxRecDepth 100000 in
theorem impl_nameOk.calls (k : Nat) (a0 : ByteArray) (r : Bool) (w : World) (h : impl_nameOk.f k a0 = some r) :
  Calls Try.prog 59 #[.string a0] w fun e w' => e = .returned (.bool r) ∧ Drawn0 w w' := by
 have H : (impl_nameOk.l0 k a0 (a0.size : Int) 0) = some r := h
 clear h
 have H' := Aside0.mk H
 clear H
 go_enter Try.func59, Try.ntmps59
 go_wp2
 go_loopg [6] k (fun kq v6 w' => ∃ (x6_1 : Int), v6 = .int .i64 x6_1 ∧ Aside0 (impl_nameOk.l0 kq a0 (a0.size : Int) x6_1 = some r) ∧ Aside0 (kq ≤ k) ∧ Drawn0 w w')
 case atStart => exact ⟨(0), (rf__), H', ⟨Nat.le_refl _⟩, by repeat (first | exact Drawn0.refl _ | apply Drawn0.step)⟩
 case round =>
  clear H'
  obtain ⟨x6_1, rfl, HA, HK1, ⟨m1, rfl⟩⟩ := hrel
  cases gk with
  | zero => exact absurd HA.out (by simp [impl_nameOk.l0])
  | succ k1 =>
   have H := HA.out
   clear HA
   simp only [impl_nameOk.l0] at H
   by_cases c2 : x6_1 < (a0.size : Int)
   ·rw [if_pos c2] at H
    have c2b0 := decide_eq_true c2
    clear c2
    by_cases c3 : 0 ≤ x6_1
    ·rw [if_pos c3] at H
     have c3b0 := decide_eq_true c3
     clear c3
     by_cases c4 : x6_1 < (a0.size : Int)
     ·rw [if_pos c4] at H
      have c4b0 := decide_eq_true c4
      clear c4
      by_cases c6 : (bt a0 x6_1) < 33
      ·rw [if_pos c6] at H
       have c6b0 := decide_eq_true c6
       clear c6
       obtain rfl := Option.some.inj H
       have p5 : 0 ≤ (x6_1 : Int) := of_decide_eq_true (by first | (with_reducible assumption) | assumption)
       have q5 : x6_1 < (a0.size : Int) := of_decide_eq_true (by first | (with_reducible assumption) | assumption)
       have hx5 := bt_at a0 x6_1
       replace p5 := eq_true p5
       replace q5 := eq_true q5
       go_wp2
       go_ret
       exact ⟨by first | rfl | (simp; done) | (simp [*]; done), by repeat (first | exact Drawn0.refl _ | apply Drawn0.step)⟩
      ·rw [if_neg c6] at H
       have c6b0 := decide_eq_false c6
       clear c6
       by_cases c8 : (bt a0 x6_1) > 126
       ·rw [if_pos c8] at H
        have c8b0 : decide (126 < (bt a0 x6_1)) = true := decide_eq_true c8
        clear c8
        obtain rfl := Option.some.inj H
        have p5 : 0 ≤ (x6_1 : Int) := of_decide_eq_true (by first | (with_reducible assumption) | assumption)
        have q5 : x6_1 < (a0.size : Int) := of_decide_eq_true (by first | (with_reducible assumption) | assumption)
        have hx5 := bt_at a0 x6_1
        replace p5 := eq_true p5
        replace q5 := eq_true q5
        have p7 : 0 ≤ (x6_1 : Int) := of_decide_eq_true (by first | (with_reducible assumption) | assumption)
        have q7 : x6_1 < (a0.size : Int) := of_decide_eq_true (by first | (with_reducible assumption) | assumption)
        have hx7 := bt_at a0 x6_1
        replace p7 := eq_true p7
        replace q7 := eq_true q7
        go_wp2
        go_ret
        exact ⟨by first | rfl | (simp; done) | (simp [*]; done), by repeat (first | exact Drawn0.refl _ | apply Drawn0.step)⟩
       ·rw [if_neg c8] at H
        have c8b0 : decide (126 < (bt a0 x6_1)) = false := decide_eq_false c8
        clear c8
        have H' := Aside0.mk H
        clear H
        have p5 : 0 ≤ (x6_1 : Int) := of_decide_eq_true (by first | (with_reducible assumption) | assumption)
        have q5 : x6_1 < (a0.size : Int) := of_decide_eq_true (by first | (with_reducible assumption) | assumption)
        have hx5 := bt_at a0 x6_1
        replace p5 := eq_true p5
        replace q5 := eq_true q5
        have p7 : 0 ≤ (x6_1 : Int) := of_decide_eq_true (by first | (with_reducible assumption) | assumption)
        have q7 : x6_1 < (a0.size : Int) := of_decide_eq_true (by first | (with_reducible assumption) | assumption)
        have hx7 := bt_at a0 x6_1
        replace p7 := eq_true p7
        replace q7 := eq_true q7
        go_wp2
        go_roundg k1
        case measure => have := HK1.out; omega
        case rel => exact ⟨(wrap64 (x6_1 + 1)), (rf__), H', ⟨by have := HK1.out; omega⟩, by repeat (first | exact Drawn0.refl _ | apply Drawn0.step)⟩
     ·rw [if_neg c4] at H
      exact absurd H (by simp)
    ·rw [if_neg c3] at H
     exact absurd H (by simp)
   ·rw [if_neg c2] at H
    have c2b0 := decide_eq_false c2
    clear c2
    by_cases c9 : (a0.size : Int) ≥ 1
    ·rw [if_pos c9] at H
     have c9b0 : decide (1 ≤ (a0.size : Int)) = true := decide_eq_true c9
     have c9b1 : decide (1 ≤ a0.size) = true := decide_eq_true (by omega)
     clear c9
     obtain rfl := Option.some.inj H
     go_wp2
     go_ret
     exact ⟨by first | rfl | (simp; done) | (simp [*]; done), by repeat (first | exact Drawn0.refl _ | apply Drawn0.step)⟩
    ·rw [if_neg c9] at H
     have c9b0 : decide (1 ≤ (a0.size : Int)) = false := decide_eq_false c9
     have c9b1 : decide (1 ≤ a0.size) = false := decide_eq_false (by omega)
     clear c9
     obtain rfl := Option.some.inj H
     go_wp2
     go_ret
     exact ⟨by first | rfl | (simp; done) | (simp [*]; done), by repeat (first | exact Drawn0.refl _ | apply Drawn0.step)⟩
end Go.Proofs.Ytcijlemojododaa.P
