/- Part 9 of the proof of the claims of this seat: what it leans on. -/
import Derived.Test.YtcijlemojododaaM1
import Derived.Test.YtcijlemojododaaM2
import Derived.Test.YtcijlemojododaaM3
import Derived.Test.YtcijlemojododaaM4
import Derived.Test.YtcijlemojododaaM5
import Derived.Test.YtcijlemojododaaM6
import Derived.Test.YtcijlemojododaaM7
import Derived.Test.YtcijlemojododaaM8
import Derived.WalkKit
import Derived.ProofKit
import Derived.OpenShut
import Derived.ShutString
import Derived.ChangeOld
import Derived.Below
import Derived.SizedLaws
import Derived.Deep.Slices

namespace Go.Proofs.Ytcijlemojododaa.P
open Go.RowKit Go.Proofs.YtcijlemojododaaW.PrintWords Go.Proofs.YtcijlemojododaaW.PrintLast Go.Proofs.YtcijlemojododaaW.PrintMore
attribute [local go_sem] max2_int min2_int max_two min_two max_three min_three max_four min_four   -- for this text's walks alone
set_option linter.unusedVariables false
set_option linter.unusedSimpArgs false
/-! ### impl_State_room: function 64 -/
def impl_State_room.l0 : Nat → Int → List (S91) → Int → Int → Option (Int)
 | 0, _, _, _, _ => none
 | k + 1, x3, x9, x10, x11 => if x11 < x10 then (if 0 ≤ x11 then (if x11 < (x9.length : Int) then ((impl_form.f k ((rd_T91 x9 x11).f2.f0) ((rd_T91 x9 x11).f2.f1)).bind fun t381 => (impl_State_room.l0 k (wrap64 (x3 + (t381.size : Int))) x9 x10 (wrap64 (x11 + 1)))) else (none)) else (none)) else (some x3)
def impl_State_room.f (k : Nat) (l0 : List (S91)) : Option (Int) := impl_State_room.l0 k 0 l0 (l0.length : Int) 0
set_option maxHeartbeats 8000000 in
set_option maxRecDepth 100000 in
theorem impl_State_room.calls (k : Nat) (g : Nat) (A0 : Option Addr) (c0 : Nat) (l0 : List (S91)) (r : Int) (w : World) (hr0 : Kd.C k91 w A0 l0.length l0) (hc0 : l0.length ≤ c0) (h3 : w.cell? ⟨g, 4, none⟩ = some (.slice A0 l0.length c0)) (h : impl_State_room.f k l0 = some r) :
  Calls Try.prog 64 #[.pointer (some ⟨g, 0, none⟩)] w fun e w' => e = .returned (.int .i64 r) ∧ Below w.heap.size w w' := by
 have hu91 := Try.underlying91
 have hu61 := Try.underlying61
 have HR0 := Aside0.mk hr0
 have HC0 := Aside0.mk hc0
 clear hr0 hc0
 have HB := am__ (Below.refl w.heap.size w)
 have H : (impl_State_room.l0 k 0 l0 (l0.length : Int) 0) = some r := h
 clear h
 have H' := Aside0.mk H
 clear H
 go_enter Try.func64, Try.ntmps64
 go_wp2
 go_loopg [3, 11] k (fun kq v3 v11 w' => ∃ (x3_1 : Int) (x11_1 : Int), v3 = .int .i64 x3_1 ∧ v11 = .int .i64 x11_1 ∧ Aside0 (impl_State_room.l0 kq x3_1 l0 (l0.length : Int) x11_1 = some r) ∧ Aside0 (kq ≤ k) ∧ Aside0 (Below w.heap.size w w'))
 case atStart => exact ⟨(0), (0), (rf__), (rf__), H', ⟨Nat.le_refl _⟩, ⟨bel__⟩⟩
 case round =>
  clear H'
  obtain ⟨x3_1, x11_1, rfl, rfl, HA, HK1, HB⟩ := hrel
  cases gk with
  | zero => exact absurd HA.out (by simp [impl_State_room.l0])
  | succ k1 =>
   have H := HA.out
   clear HA
   simp only [impl_State_room.l0] at H
   by_cases c2 : x11_1 < (l0.length : Int)
   ·rw [if_pos c2] at H
    have c2b0 : decide (x11_1 < (l0.length : Int)) = true := decide_eq_true c2
    clear c2
    by_cases c3 : 0 ≤ x11_1
    ·rw [if_pos c3] at H
     have c3b0 : decide (0 ≤ x11_1) = true := decide_eq_true c3
     clear c3
     by_cases c4 : x11_1 < (l0.length : Int)
     ·rw [if_pos c4] at H
      have c4b0 : decide (x11_1 < (l0.length : Int)) = true := decide_eq_true c4
      clear c4
      replace H := Option.bind_eq_some_iff.mp H
      obtain ⟨t381, A50, H⟩ := H
      replace H : (impl_State_room.l0 k1 (wrap64 (x3_1 + (t381.size : Int))) l0 (l0.length : Int) (wrap64 (x11_1 + 1))) = some r := H
      have A5 := Aside0.mk A50
      clear A50
      have H' := Aside0.mk H
      clear H
      have p379 : 0 ≤ (x11_1 : Int) := of_decide_eq_true (by first | (with_reducible assumption) | assumption)
      have q379 : x11_1 < (l0.length : Int) := of_decide_eq_true (by first | (with_reducible assumption) | assumption)
      obtain ⟨ad379, A379_3, c379_3, e379, hx379_0, hx379_1, hx379_2, hx379_3, hl379_3, hi379_3⟩ := at_T91 HR0.out x11_1 p379 q379
      cases e379
      try replace hx379_0 := hb__ HB.out hx379_0
      try replace hx379_1 := hb__ HB.out hx379_1
      try replace hx379_2 := hb__ HB.out hx379_2
      try replace hx379_3 := hb__ HB.out hx379_3
      have HR379_3 := Aside0.mk hi379_3
      have HC379_3 := Aside0.mk hl379_3
      clear hi379_3 hl379_3
      replace p379 := eq_true p379
      replace q379 := eq_true q379
      go_wp2_with (first | ((with_reducible refine gate_dst (N := 5) rfl ?_); refine be__ 5 #[.string (⟨#[]⟩ : ByteArray), .int .i64 0, .string (⟨#[]⟩ : ByteArray), .slice none 0 0] 91 ?_; intro gb380 hg w6 hbox hb; have BK380 := am__ (hbox); have GW380 := am__ ((bsz__ hg bel__ : w.heap.size ≤ gb380)); have GE380 := am__ ((bsz__ hg bel__ : w.heap.size ≤ gb380)); replace HB := am__ (below_step (bel__) hb); clear hb hbox hg; obtain ⟨hcz7_0, hcz7_1, hcz7_2, hcz7_3, hfz7_0, hfz7_1, hfz7_2, hfz7_3⟩ := bk4__ BK380.out) | ((with_reducible refine gate_callee (f := 57) rfl ?_); refine gl__ (some 18) Try.func57 #[.agg #[.string ((rd_T91 l0 x11_1).f2.f0), .slice A379_3 ((rd_T91 l0 x11_1).f2.f1).length c379_3]] ?_; (with_reducible refine (impl_form.calls k1 ((rd_T91 l0 x11_1).f2.f0) _ _ ((rd_T91 l0 x11_1).f2.f1) t381 _ ?side1 HC379_3.out A5.out).mono ?_); (case side1 => exact Kd.C_below HR379_3.out (bel__)); rintro e w8 ⟨rfl, hb⟩; refine ⟨_, rfl, ?_⟩; replace BK380 := am__ (blk_below (g := gb380) (o := .cells #[.string ((rd_T91 l0 x11_1).f0), .int .i64 ((rd_T91 l0 x11_1).f1), .string ((rd_T91 l0 x11_1).f2.f0), .slice A379_3 ((rd_T91 l0 x11_1).f2.f1).length c379_3] 91 (0, 0)) (bpu__ BK380.out) hb); replace HB := am__ (below_step (bel__) hb); clear hb))
      go_roundg k1
      case measure => have := HK1.out; omega
      case rel => exact ⟨(wrap64 (x3_1 + (t381.size : Int))), (wrap64 (x11_1 + 1)), (rf__), (rf__), H', ⟨by have := HK1.out; omega⟩, ⟨bel__⟩⟩
     ·rw [if_neg c4] at H
      exact absurd H (by simp)
    ·rw [if_neg c3] at H
     exact absurd H (by simp)
   ·rw [if_neg c2] at H
    have c2b0 : decide (x11_1 < (l0.length : Int)) = false := decide_eq_false c2
    clear c2
    obtain rfl := Option.some.inj H
    go_wp2
    go_ret
    exact ⟨by first | rfl | (simp [errW_none, errW_some] <;> rfl) | (simp [*, errW_none, errW_some] <;> rfl), bel__⟩
end Go.Proofs.Ytcijlemojododaa.P

namespace Go.Proofs.Ytcijlemojododaa.P
open Go.RowKit Go.Proofs.YtcijlemojododaaW.PrintWords Go.Proofs.YtcijlemojododaaW.PrintLast Go.Proofs.YtcijlemojododaaW.PrintMore
attribute [local go_sem] max2_int min2_int max_two min_two max_three min_three max_four min_four   -- for this text's walks alone
set_option linter.unusedVariables false
set_option linter.unusedSimpArgs false
/-! ### impl_Room: function 16 -/
def impl_Room.f (k : Nat) (a0_0 : Int) (a0_1 : Int) (a0_2 : Int) (a0_3 : Int) (l0_4 : List (S91)) (l0_5 : List (S82)) (l0_6 : List (S85)) : Option (Int) := (impl_ValidState.f k a0_0 a0_1 a0_2 a0_3 l0_4 l0_5 l0_6).bind fun t383 => (if t383 = true then ((impl_State_room.f k l0_4).bind fun t384 => (some t384)) else (some 0))
set_option maxHeartbeats 8000000 in
set_option maxRecDepth 100000 in
theorem impl_Room.calls (k : Nat) (a0_0 : Int) (a0_1 : Int) (a0_2 : Int) (a0_3 : Int) (A0_4 : Option Addr) (c0_4 : Nat) (l0_4 : List (S91)) (A0_5 : Option Addr) (c0_5 : Nat) (l0_5 : List (S82)) (A0_6 : Option Addr) (c0_6 : Nat) (l0_6 : List (S85)) (r : Int) (w : World) (hr0_4 : Kd.C k91 w A0_4 l0_4.length l0_4) (hc0_4 : l0_4.length ≤ c0_4) (hr0_5 : Kd.C k82 w A0_5 l0_5.length l0_5) (hc0_5 : l0_5.length ≤ c0_5) (hr0_6 : Kd.C k85 w A0_6 l0_6.length l0_6) (hc0_6 : l0_6.length ≤ c0_6) (h : impl_Room.f k a0_0 a0_1 a0_2 a0_3 l0_4 l0_5 l0_6 = some r) :
  Calls Try.prog 16 #[.agg #[.int .i64 a0_0, .int .i64 a0_1, .int .i64 a0_2, .int .i64 a0_3, .slice A0_4 l0_4.length c0_4, .slice A0_5 l0_5.length c0_5, .slice A0_6 l0_6.length c0_6]] w fun e w' => e = .returned (.int .i64 r) ∧ Below w.heap.size w w' := by
 have hu33 := Try.underlying33
 have HR0_4 := Aside0.mk hr0_4
 have HC0_4 := Aside0.mk hc0_4
 clear hr0_4 hc0_4
 have HR0_5 := Aside0.mk hr0_5
 have HC0_5 := Aside0.mk hc0_5
 clear hr0_5 hc0_5
 have HR0_6 := Aside0.mk hr0_6
 have HC0_6 := Aside0.mk hc0_6
 clear hr0_6 hc0_6
 have HB := am__ (Below.refl w.heap.size w)
 have H : ((impl_ValidState.f k a0_0 a0_1 a0_2 a0_3 l0_4 l0_5 l0_6).bind fun t383 => (if t383 = true then ((impl_State_room.f k l0_4).bind fun t384 => (some t384)) else (some 0))) = some r := h
 clear h
 replace H := Option.bind_eq_some_iff.mp H
 obtain ⟨t383, A20, H⟩ := H
 replace H : (if t383 = true then ((impl_State_room.f k l0_4).bind fun t384 => (some t384)) else (some 0)) = some r := H
 have A2 := Aside0.mk A20
 clear A20
 by_cases c3 : t383 = true
 ·subst c3
  have H1 : ((impl_State_room.f k l0_4).bind fun t384 => (some t384)) = some r := by rw [if_pos rfl] at H; exact H
  clear H
  have H := H1
  clear H1
  replace H := Option.bind_eq_some_iff.mp H
  obtain ⟨t384, A40, H⟩ := H
  replace H : (some t384) = some r := H
  have A4 := Aside0.mk A40
  clear A40
  obtain rfl := Option.some.inj H
  go_enter Try.func16, Try.ntmps16
  go_wp2_with (first | ((with_reducible refine gate_dst (N := 1) rfl ?_); refine be__ 1 #[.int .i64 a0_0, .int .i64 a0_1, .int .i64 a0_2, .int .i64 a0_3, .slice A0_4 l0_4.length c0_4, .slice A0_5 l0_5.length c0_5, .slice A0_6 l0_6.length c0_6] 33 ?_; intro gb382 hg w5 hbox hb; have BK382 := am__ (hbox); have GW382 := am__ ((bsz__ hg bel__ : w.heap.size ≤ gb382)); have GE382 := am__ ((bsz__ hg bel__ : w.heap.size ≤ gb382)); replace HB := am__ (below_step (bel__) hb); clear hb hbox hg; obtain ⟨hcz6_0, hcz6_1, hcz6_2, hcz6_3, hcz6_4, hcz6_5, hcz6_6, hfz6_0, hfz6_1, hfz6_2, hfz6_3, hfz6_4, hfz6_5, hfz6_6⟩ := bk7__ BK382.out) | ((with_reducible refine gate_callee (f := 13) rfl ?_); refine gl__ (some 4) Try.func13 #[.agg #[.int .i64 a0_0, .int .i64 a0_1, .int .i64 a0_2, .int .i64 a0_3, .slice A0_4 l0_4.length c0_4, .slice A0_5 l0_5.length c0_5, .slice A0_6 l0_6.length c0_6]] ?_; (with_reducible refine (impl_ValidState.calls k a0_0 a0_1 a0_2 a0_3 _ _ l0_4 _ _ l0_5 _ _ l0_6 true _ ?side1 HC0_4.out ?side3 HC0_5.out ?side5 HC0_6.out A2.out).mono ?_); (case side1 => repeat (first | exact (Kd.C_below HR0_4.out HB.out) | (with_reducible refine Kd.C_alloc ?_ _) | (with_reducible refine Kd.C_drewN ?_ _) | (with_reducible refine Kd.C_drew ?_))); (case side3 => repeat (first | exact (Kd.C_below HR0_5.out HB.out) | (with_reducible refine Kd.C_alloc ?_ _) | (with_reducible refine Kd.C_drewN ?_ _) | (with_reducible refine Kd.C_drew ?_))); (case side5 => repeat (first | exact (Kd.C_below HR0_6.out HB.out) | (with_reducible refine Kd.C_alloc ?_ _) | (with_reducible refine Kd.C_drewN ?_ _) | (with_reducible refine Kd.C_drew ?_))); rintro e w7 ⟨rfl, hb⟩; refine ⟨_, rfl, ?_⟩; replace BK382 := am__ (blb__ BK382.out hb); replace HB := am__ (below_step (bel__) hb); clear hb; obtain ⟨hcz8_0, hcz8_1, hcz8_2, hcz8_3, hcz8_4, hcz8_5, hcz8_6, hfz8_0, hfz8_1, hfz8_2, hfz8_3, hfz8_4, hfz8_5, hfz8_6⟩ := bk7__ BK382.out) | ((with_reducible refine gate_callee (f := 64) rfl ?_); refine gl__ (some 6) Try.func64 #[.pointer (some ⟨gb382, 0, none⟩)] ?_; (with_reducible refine (impl_State_room.calls k gb382 _ _ l0_4 t384 _ ?side1 HC0_4.out ((blk_cell BK382.out 4).trans rfl) A4.out).mono ?_); (case side1 => repeat (first | exact (Kd.C_below HR0_4.out HB.out) | (with_reducible refine Kd.C_alloc ?_ _) | (with_reducible refine Kd.C_drewN ?_ _) | (with_reducible refine Kd.C_drew ?_))); rintro e w9 ⟨rfl, hb⟩; refine ⟨_, rfl, ?_⟩; replace BK382 := am__ (blb__ BK382.out hb); replace HB := am__ (below_step (bel__) hb); clear hb))
  go_ret
  exact ⟨by first | rfl | (simp [errW_none, errW_some] <;> rfl) | (simp [*, errW_none, errW_some] <;> rfl), bel__⟩
 ·replace c3 := Bool.eq_false_iff.mpr c3
  subst c3
  have H1 : (some 0) = some r := by rw [if_neg (show ¬ (false = true) by decide)] at H; exact H
  clear H
  have H := H1
  clear H1
  obtain rfl := Option.some.inj H
  go_enter Try.func16, Try.ntmps16
  go_wp2_with (first | ((with_reducible refine gate_dst (N := 1) rfl ?_); refine be__ 1 #[.int .i64 a0_0, .int .i64 a0_1, .int .i64 a0_2, .int .i64 a0_3, .slice A0_4 l0_4.length c0_4, .slice A0_5 l0_5.length c0_5, .slice A0_6 l0_6.length c0_6] 33 ?_; intro gb382 hg w10 hbox hb; have BK382 := am__ (hbox); have GW382 := am__ ((bsz__ hg bel__ : w.heap.size ≤ gb382)); have GE382 := am__ ((bsz__ hg bel__ : w.heap.size ≤ gb382)); replace HB := am__ (below_step (bel__) hb); clear hb hbox hg; obtain ⟨hcz11_0, hcz11_1, hcz11_2, hcz11_3, hcz11_4, hcz11_5, hcz11_6, hfz11_0, hfz11_1, hfz11_2, hfz11_3, hfz11_4, hfz11_5, hfz11_6⟩ := bk7__ BK382.out) | ((with_reducible refine gate_callee (f := 13) rfl ?_); refine gl__ (some 4) Try.func13 #[.agg #[.int .i64 a0_0, .int .i64 a0_1, .int .i64 a0_2, .int .i64 a0_3, .slice A0_4 l0_4.length c0_4, .slice A0_5 l0_5.length c0_5, .slice A0_6 l0_6.length c0_6]] ?_; (with_reducible refine (impl_ValidState.calls k a0_0 a0_1 a0_2 a0_3 _ _ l0_4 _ _ l0_5 _ _ l0_6 false _ ?side1 HC0_4.out ?side3 HC0_5.out ?side5 HC0_6.out A2.out).mono ?_); (case side1 => repeat (first | exact (Kd.C_below HR0_4.out HB.out) | (with_reducible refine Kd.C_alloc ?_ _) | (with_reducible refine Kd.C_drewN ?_ _) | (with_reducible refine Kd.C_drew ?_))); (case side3 => repeat (first | exact (Kd.C_below HR0_5.out HB.out) | (with_reducible refine Kd.C_alloc ?_ _) | (with_reducible refine Kd.C_drewN ?_ _) | (with_reducible refine Kd.C_drew ?_))); (case side5 => repeat (first | exact (Kd.C_below HR0_6.out HB.out) | (with_reducible refine Kd.C_alloc ?_ _) | (with_reducible refine Kd.C_drewN ?_ _) | (with_reducible refine Kd.C_drew ?_))); rintro e w12 ⟨rfl, hb⟩; refine ⟨_, rfl, ?_⟩; replace BK382 := am__ (blb__ BK382.out hb); replace HB := am__ (below_step (bel__) hb); clear hb))
  go_ret
  exact ⟨by first | rfl | (simp [errW_none, errW_some] <;> rfl) | (simp [*, errW_none, errW_some] <;> rfl), bel__⟩
end Go.Proofs.Ytcijlemojododaa.P

namespace Go.Proofs.Ytcijlemojododaa.P
open Go.RowKit Go.Proofs.YtcijlemojododaaW.PrintWords Go.Proofs.YtcijlemojododaaW.PrintLast Go.Proofs.YtcijlemojododaaW.PrintMore
attribute [local go_sem] max2_int min2_int max_two min_two max_three min_three max_four min_four   -- for this text's walks alone
set_option linter.unusedVariables false
set_option linter.unusedSimpArgs false
/-! ### laws_FnExactRoom: function 4 -/
def laws_FnExactRoom.f (k : Nat) (a0_0 : Int) (a0_1 : Int) (a0_2 : Int) (a0_3 : Int) (l0_4 : List (S130)) (l0_5 : List (S132)) (l0_6 : List (S134)) : Option (Bool) := (laws_szState.f k a0_0 a0_1 a0_2 a0_3 l0_4 l0_5 l0_6 1048576).bind fun t386 => (if t386 < 0 then (some true) else ((laws_toState.f k a0_0 a0_1 a0_2 a0_3 l0_4 l0_5 l0_6).bind fun bt387 => ((spec_Room.f k bt387.1 bt387.2.1 bt387.2.2.1 bt387.2.2.2.1 bt387.2.2.2.2.1 bt387.2.2.2.2.2.1 bt387.2.2.2.2.2.2).bind fun t400 => ((laws_toState.f k a0_0 a0_1 a0_2 a0_3 l0_4 l0_5 l0_6).bind fun bt401 => ((impl_Room.f k bt401.1 bt401.2.1 bt401.2.2.1 bt401.2.2.2.1 bt401.2.2.2.2.1 bt401.2.2.2.2.2.1 bt401.2.2.2.2.2.2).bind fun t415 => (if t415 = t400 then ((laws_toState.f k a0_0 a0_1 a0_2 a0_3 l0_4 l0_5 l0_6).bind fun bt416 => ((laws_eqState.f k bt401.1 bt401.2.1 bt401.2.2.1 bt401.2.2.2.1 bt401.2.2.2.2.1 bt401.2.2.2.2.2.1 bt401.2.2.2.2.2.2 bt416.1 bt416.2.1 bt416.2.2.1 bt416.2.2.2.1 bt416.2.2.2.2.1 bt416.2.2.2.2.2.1 bt416.2.2.2.2.2.2).bind fun t429 => (if t429 = true then (some true) else (none)))) else (none)))))))
set_option maxHeartbeats 8000000 in
set_option maxRecDepth 100000 in
theorem laws_FnExactRoom.calls (k : Nat) (a0_0 : Int) (a0_1 : Int) (a0_2 : Int) (a0_3 : Int) (A0_4 : Option Addr) (c0_4 : Nat) (l0_4 : List (S130)) (A0_5 : Option Addr) (c0_5 : Nat) (l0_5 : List (S132)) (A0_6 : Option Addr) (c0_6 : Nat) (l0_6 : List (S134)) (r : Bool) (w : World) (hr0_4 : Kd.C k130 w A0_4 l0_4.length l0_4) (hc0_4 : l0_4.length ≤ c0_4) (hr0_5 : Kd.C k132 w A0_5 l0_5.length l0_5) (hc0_5 : l0_5.length ≤ c0_5) (hr0_6 : Kd.C k134 w A0_6 l0_6.length l0_6) (hc0_6 : l0_6.length ≤ c0_6) (h : laws_FnExactRoom.f k a0_0 a0_1 a0_2 a0_3 l0_4 l0_5 l0_6 = some r) :
  Calls Try.prog 4 #[.agg #[.int .i64 a0_0, .int .i64 a0_1, .int .i64 a0_2, .int .i64 a0_3, .slice A0_4 l0_4.length c0_4, .slice A0_5 l0_5.length c0_5, .slice A0_6 l0_6.length c0_6]] w fun e w' => e = .returned (.bool r) ∧ Below w.heap.size w w' := by
 have hu26 := Try.underlying26
 have hu33 := Try.underlying33
 have HR0_4 := Aside0.mk hr0_4
 have HC0_4 := Aside0.mk hc0_4
 clear hr0_4 hc0_4
 have HR0_5 := Aside0.mk hr0_5
 have HC0_5 := Aside0.mk hc0_5
 clear hr0_5 hc0_5
 have HR0_6 := Aside0.mk hr0_6
 have HC0_6 := Aside0.mk hc0_6
 clear hr0_6 hc0_6
 have HB := am__ (Below.refl w.heap.size w)
 have H : ((laws_szState.f k a0_0 a0_1 a0_2 a0_3 l0_4 l0_5 l0_6 1048576).bind fun t386 => (if t386 < 0 then (some true) else ((laws_toState.f k a0_0 a0_1 a0_2 a0_3 l0_4 l0_5 l0_6).bind fun bt387 => ((spec_Room.f k bt387.1 bt387.2.1 bt387.2.2.1 bt387.2.2.2.1 bt387.2.2.2.2.1 bt387.2.2.2.2.2.1 bt387.2.2.2.2.2.2).bind fun t400 => ((laws_toState.f k a0_0 a0_1 a0_2 a0_3 l0_4 l0_5 l0_6).bind fun bt401 => ((impl_Room.f k bt401.1 bt401.2.1 bt401.2.2.1 bt401.2.2.2.1 bt401.2.2.2.2.1 bt401.2.2.2.2.2.1 bt401.2.2.2.2.2.2).bind fun t415 => (if t415 = t400 then ((laws_toState.f k a0_0 a0_1 a0_2 a0_3 l0_4 l0_5 l0_6).bind fun bt416 => ((laws_eqState.f k bt401.1 bt401.2.1 bt401.2.2.1 bt401.2.2.2.1 bt401.2.2.2.2.1 bt401.2.2.2.2.2.1 bt401.2.2.2.2.2.2 bt416.1 bt416.2.1 bt416.2.2.1 bt416.2.2.2.1 bt416.2.2.2.2.1 bt416.2.2.2.2.2.1 bt416.2.2.2.2.2.2).bind fun t429 => (if t429 = true then (some true) else (none)))) else (none)))))))) = some r := h
 clear h
 replace H := Option.bind_eq_some_iff.mp H
 obtain ⟨t386, A20, H⟩ := H
 replace H : (if t386 < 0 then (some true) else ((laws_toState.f k a0_0 a0_1 a0_2 a0_3 l0_4 l0_5 l0_6).bind fun bt387 => ((spec_Room.f k bt387.1 bt387.2.1 bt387.2.2.1 bt387.2.2.2.1 bt387.2.2.2.2.1 bt387.2.2.2.2.2.1 bt387.2.2.2.2.2.2).bind fun t400 => ((laws_toState.f k a0_0 a0_1 a0_2 a0_3 l0_4 l0_5 l0_6).bind fun bt401 => ((impl_Room.f k bt401.1 bt401.2.1 bt401.2.2.1 bt401.2.2.2.1 bt401.2.2.2.2.1 bt401.2.2.2.2.2.1 bt401.2.2.2.2.2.2).bind fun t415 => (if t415 = t400 then ((laws_toState.f k a0_0 a0_1 a0_2 a0_3 l0_4 l0_5 l0_6).bind fun bt416 => ((laws_eqState.f k bt401.1 bt401.2.1 bt401.2.2.1 bt401.2.2.2.1 bt401.2.2.2.2.1 bt401.2.2.2.2.2.1 bt401.2.2.2.2.2.2 bt416.1 bt416.2.1 bt416.2.2.1 bt416.2.2.2.1 bt416.2.2.2.2.1 bt416.2.2.2.2.2.1 bt416.2.2.2.2.2.2).bind fun t429 => (if t429 = true then (some true) else (none)))) else (none))))))) = some r := H
 have A2 := Aside0.mk A20
 clear A20
 by_cases c3 : t386 < 0
 ·rw [if_pos c3] at H
  have c3b0 : decide (t386 < 0) = true := decide_eq_true c3
  clear c3
  obtain rfl := Option.some.inj H
  go_enter Try.func4, Try.ntmps4
  go_wp2_with (first | ((with_reducible refine gate_dst (N := 1) rfl ?_); refine be__ 1 #[.int .i64 a0_0, .int .i64 a0_1, .int .i64 a0_2, .int .i64 a0_3, .slice A0_4 l0_4.length c0_4, .slice A0_5 l0_5.length c0_5, .slice A0_6 l0_6.length c0_6] 26 ?_; intro gb385 hg w4 hbox hb; have BK385 := am__ (hbox); have GW385 := am__ ((bsz__ hg bel__ : w.heap.size ≤ gb385)); have GE385 := am__ ((bsz__ hg bel__ : w.heap.size ≤ gb385)); replace HB := am__ (below_step (bel__) hb); clear hb hbox hg; obtain ⟨hcz5_0, hcz5_1, hcz5_2, hcz5_3, hcz5_4, hcz5_5, hcz5_6, hfz5_0, hfz5_1, hfz5_2, hfz5_3, hfz5_4, hfz5_5, hfz5_6⟩ := bk7__ BK385.out) | ((with_reducible refine gate_callee (f := 10) rfl ?_); refine gl__ (some 9) Try.func10 #[.agg #[.int .i64 a0_0, .int .i64 a0_1, .int .i64 a0_2, .int .i64 a0_3, .slice A0_4 l0_4.length c0_4, .slice A0_5 l0_5.length c0_5, .slice A0_6 l0_6.length c0_6], .int .i64 1048576] ?_; (with_reducible refine (laws_szState.calls k a0_0 a0_1 a0_2 a0_3 _ _ l0_4 _ _ l0_5 _ _ l0_6 1048576 t386 _ ?side1 HC0_4.out ?side3 HC0_5.out ?side5 HC0_6.out A2.out).mono ?_); (case side1 => repeat (first | exact (Kd.C_below HR0_4.out HB.out) | (with_reducible refine Kd.C_alloc ?_ _) | (with_reducible refine Kd.C_drewN ?_ _) | (with_reducible refine Kd.C_drew ?_))); (case side3 => repeat (first | exact (Kd.C_below HR0_5.out HB.out) | (with_reducible refine Kd.C_alloc ?_ _) | (with_reducible refine Kd.C_drewN ?_ _) | (with_reducible refine Kd.C_drew ?_))); (case side5 => repeat (first | exact (Kd.C_below HR0_6.out HB.out) | (with_reducible refine Kd.C_alloc ?_ _) | (with_reducible refine Kd.C_drewN ?_ _) | (with_reducible refine Kd.C_drew ?_))); rintro e w6 ⟨rfl, hb⟩; refine ⟨_, rfl, ?_⟩; replace BK385 := am__ (blb__ BK385.out hb); replace HB := am__ (below_step (bel__) hb); clear hb))
  go_ret
  exact ⟨by first | rfl | (simp [errW_none, errW_some] <;> rfl) | (simp [*, errW_none, errW_some] <;> rfl), bel__⟩
 ·rw [if_neg c3] at H
  have c3b0 : decide (t386 < 0) = false := decide_eq_false c3
  clear c3
  replace H := Option.bind_eq_some_iff.mp H
  obtain ⟨⟨t387, t388, t389, t390, t391, t394, t397⟩, A70, H⟩ := H
  replace H : ((spec_Room.f k t387 t388 t389 t390 t391 t394 t397).bind fun t400 => ((laws_toState.f k a0_0 a0_1 a0_2 a0_3 l0_4 l0_5 l0_6).bind fun bt401 => ((impl_Room.f k bt401.1 bt401.2.1 bt401.2.2.1 bt401.2.2.2.1 bt401.2.2.2.2.1 bt401.2.2.2.2.2.1 bt401.2.2.2.2.2.2).bind fun t415 => (if t415 = t400 then ((laws_toState.f k a0_0 a0_1 a0_2 a0_3 l0_4 l0_5 l0_6).bind fun bt416 => ((laws_eqState.f k bt401.1 bt401.2.1 bt401.2.2.1 bt401.2.2.2.1 bt401.2.2.2.2.1 bt401.2.2.2.2.2.1 bt401.2.2.2.2.2.2 bt416.1 bt416.2.1 bt416.2.2.1 bt416.2.2.2.1 bt416.2.2.2.2.1 bt416.2.2.2.2.2.1 bt416.2.2.2.2.2.2).bind fun t429 => (if t429 = true then (some true) else (none)))) else (none))))) = some r := H
  have A7 := Aside0.mk A70
  clear A70
  replace H := Option.bind_eq_some_iff.mp H
  obtain ⟨t400, A80, H⟩ := H
  replace H : ((laws_toState.f k a0_0 a0_1 a0_2 a0_3 l0_4 l0_5 l0_6).bind fun bt401 => ((impl_Room.f k bt401.1 bt401.2.1 bt401.2.2.1 bt401.2.2.2.1 bt401.2.2.2.2.1 bt401.2.2.2.2.2.1 bt401.2.2.2.2.2.2).bind fun t415 => (if t415 = t400 then ((laws_toState.f k a0_0 a0_1 a0_2 a0_3 l0_4 l0_5 l0_6).bind fun bt416 => ((laws_eqState.f k bt401.1 bt401.2.1 bt401.2.2.1 bt401.2.2.2.1 bt401.2.2.2.2.1 bt401.2.2.2.2.2.1 bt401.2.2.2.2.2.2 bt416.1 bt416.2.1 bt416.2.2.1 bt416.2.2.2.1 bt416.2.2.2.2.1 bt416.2.2.2.2.2.1 bt416.2.2.2.2.2.2).bind fun t429 => (if t429 = true then (some true) else (none)))) else (none)))) = some r := H
  have A8 := Aside0.mk A80
  clear A80
  replace H := Option.bind_eq_some_iff.mp H
  obtain ⟨⟨t401, t402, t403, t404, t405, t408, t411⟩, A90, H⟩ := H
  replace H : ((impl_Room.f k t401 t402 t403 t404 t405 t408 t411).bind fun t415 => (if t415 = t400 then ((laws_toState.f k a0_0 a0_1 a0_2 a0_3 l0_4 l0_5 l0_6).bind fun bt416 => ((laws_eqState.f k t401 t402 t403 t404 t405 t408 t411 bt416.1 bt416.2.1 bt416.2.2.1 bt416.2.2.2.1 bt416.2.2.2.2.1 bt416.2.2.2.2.2.1 bt416.2.2.2.2.2.2).bind fun t429 => (if t429 = true then (some true) else (none)))) else (none))) = some r := H
  have A9 := Aside0.mk A90
  clear A90
  replace H := Option.bind_eq_some_iff.mp H
  obtain ⟨t415, A100, H⟩ := H
  replace H : (if t415 = t400 then ((laws_toState.f k a0_0 a0_1 a0_2 a0_3 l0_4 l0_5 l0_6).bind fun bt416 => ((laws_eqState.f k t401 t402 t403 t404 t405 t408 t411 bt416.1 bt416.2.1 bt416.2.2.1 bt416.2.2.2.1 bt416.2.2.2.2.1 bt416.2.2.2.2.2.1 bt416.2.2.2.2.2.2).bind fun t429 => (if t429 = true then (some true) else (none)))) else (none)) = some r := H
  have A10 := Aside0.mk A100
  clear A100
  by_cases c11 : t415 = t400
  ·rw [if_pos c11] at H
   have c11b0 : (t415 == t400) = true := beq_iff_eq.mpr c11
   have c11b1 : (t415 != t400) = false := bne_eq_false_iff_eq.mpr c11
   clear c11
   replace H := Option.bind_eq_some_iff.mp H
   obtain ⟨⟨t416, t417, t418, t419, t420, t423, t426⟩, A120, H⟩ := H
   replace H : ((laws_eqState.f k t401 t402 t403 t404 t405 t408 t411 t416 t417 t418 t419 t420 t423 t426).bind fun t429 => (if t429 = true then (some true) else (none))) = some r := H
   have A12 := Aside0.mk A120
   clear A120
   replace H := Option.bind_eq_some_iff.mp H
   obtain ⟨t429, A130, H⟩ := H
   replace H : (if t429 = true then (some true) else (none)) = some r := H
   have A13 := Aside0.mk A130
   clear A130
   by_cases c14 : t429 = true
   ·subst c14
    have H1 : (some true) = some r := by rw [if_pos rfl] at H; exact H
    clear H
    have H := H1
    clear H1
    obtain rfl := Option.some.inj H
    go_enter Try.func4, Try.ntmps4
    try go_wp2_with (first | ((with_reducible refine gate_dst (N := 1) rfl ?_); refine be__ 1 #[.int .i64 a0_0, .int .i64 a0_1, .int .i64 a0_2, .int .i64 a0_3, .slice A0_4 l0_4.length c0_4, .slice A0_5 l0_5.length c0_5, .slice A0_6 l0_6.length c0_6] 26 ?_; intro gb385 hg w15 hbox hb; have BK385 := am__ (hbox); have GW385 := am__ ((bsz__ hg bel__ : w.heap.size ≤ gb385)); have GE385 := am__ ((bsz__ hg bel__ : w.heap.size ≤ gb385)); replace HB := am__ (below_step (bel__) hb); clear hb hbox hg; obtain ⟨hcz16_0, hcz16_1, hcz16_2, hcz16_3, hcz16_4, hcz16_5, hcz16_6, hfz16_0, hfz16_1, hfz16_2, hfz16_3, hfz16_4, hfz16_5, hfz16_6⟩ := bk7__ BK385.out) | ((with_reducible refine gate_callee (f := 10) rfl ?_); refine gl__ (some 9) Try.func10 #[.agg #[.int .i64 a0_0, .int .i64 a0_1, .int .i64 a0_2, .int .i64 a0_3, .slice A0_4 l0_4.length c0_4, .slice A0_5 l0_5.length c0_5, .slice A0_6 l0_6.length c0_6], .int .i64 1048576] ?_; (with_reducible refine (laws_szState.calls k a0_0 a0_1 a0_2 a0_3 _ _ l0_4 _ _ l0_5 _ _ l0_6 1048576 t386 _ ?side1 HC0_4.out ?side3 HC0_5.out ?side5 HC0_6.out A2.out).mono ?_); (case side1 => repeat (first | exact (Kd.C_below HR0_4.out HB.out) | (with_reducible refine Kd.C_alloc ?_ _) | (with_reducible refine Kd.C_drewN ?_ _) | (with_reducible refine Kd.C_drew ?_))); (case side3 => repeat (first | exact (Kd.C_below HR0_5.out HB.out) | (with_reducible refine Kd.C_alloc ?_ _) | (with_reducible refine Kd.C_drewN ?_ _) | (with_reducible refine Kd.C_drew ?_))); (case side5 => repeat (first | exact (Kd.C_below HR0_6.out HB.out) | (with_reducible refine Kd.C_alloc ?_ _) | (with_reducible refine Kd.C_drewN ?_ _) | (with_reducible refine Kd.C_drew ?_))); rintro e w17 ⟨rfl, hb⟩; refine ⟨_, rfl, ?_⟩; replace BK385 := am__ (blb__ BK385.out hb); replace HB := am__ (below_step (bel__) hb); clear hb; obtain ⟨hcz18_0, hcz18_1, hcz18_2, hcz18_3, hcz18_4, hcz18_5, hcz18_6, hfz18_0, hfz18_1, hfz18_2, hfz18_3, hfz18_4, hfz18_5, hfz18_6⟩ := bk7__ BK385.out) | ((with_reducible refine gate_callee (f := 12) rfl ?_); refine gl__ (some 13) Try.func12 #[.agg #[.int .i64 a0_0, .int .i64 a0_1, .int .i64 a0_2, .int .i64 a0_3, .slice A0_4 l0_4.length c0_4, .slice A0_5 l0_5.length c0_5, .slice A0_6 l0_6.length c0_6]] ?_; (with_reducible refine (laws_toState.calls k a0_0 a0_1 a0_2 a0_3 _ _ l0_4 _ _ l0_5 _ _ l0_6 t387 t388 t389 t390 t391 t394 t397 _ ?side1 HC0_4.out ?side3 HC0_5.out ?side5 HC0_6.out A7.out).mono ?_); (case side1 => repeat (first | exact (Kd.C_below HR0_4.out HB.out) | (with_reducible refine Kd.C_alloc ?_ _) | (with_reducible refine Kd.C_drewN ?_ _) | (with_reducible refine Kd.C_drew ?_))); (case side3 => repeat (first | exact (Kd.C_below HR0_5.out HB.out) | (with_reducible refine Kd.C_alloc ?_ _) | (with_reducible refine Kd.C_drewN ?_ _) | (with_reducible refine Kd.C_drew ?_))); (case side5 => repeat (first | exact (Kd.C_below HR0_6.out HB.out) | (with_reducible refine Kd.C_alloc ?_ _) | (with_reducible refine Kd.C_drewN ?_ _) | (with_reducible refine Kd.C_drew ?_))); rintro e w19 ⟨v392, v395, v398, rfl, ho0, ho1, ho2, hb⟩; refine ⟨_, rfl, ?_⟩; have HO393 := am__ (Kd.S_lower ho0 (below_size (bel__))); have HO396 := am__ (Kd.R_lower ho1 (below_size (bel__))); have HO399 := am__ (Kd.R_lower ho2 (below_size (bel__))); replace BK385 := am__ (blb__ BK385.out hb); replace HB := am__ (below_step (bel__) hb); clear hb; (try clear ho0); (try clear ho1); (try clear ho2); obtain ⟨Ao20, co20, eo20⟩ := Kd.S_slice HO393.out; subst eo20; obtain ⟨Ao21, co21, eo21⟩ := Kd.R_slice HO396.out; subst eo21; obtain ⟨Ao22, co22, eo22⟩ := Kd.R_slice HO399.out; subst eo22) | ((with_reducible refine gate_callee (f := 15) rfl ?_); refine gl__ (some 14) Try.func15 #[.agg #[.int .i64 t387, .int .i64 t388, .int .i64 t389, .int .i64 t390, .slice Ao20 t391.length co20, .slice Ao21 t394.length co21, .slice Ao22 t397.length co22]] ?_; (with_reducible refine (spec_Room.calls k t387 t388 t389 t390 _ _ t391 _ _ t394 _ _ t397 t400 _ ?side1 ?side2 ?side3 ?side4 ?side5 ?side6 A8.out).mono ?_); (case side1 => repeat (first | exact (Kd.S_reads' HO393.out).2.2 | (with_reducible refine Kd.C_alloc ?_ _) | (with_reducible refine Kd.C_drewN ?_ _) | (with_reducible refine Kd.C_drew ?_))); (case side2 => exact (Kd.S_reads' HO393.out).2.1); (case side3 => repeat (first | exact (Kd.R_reads' HO396.out).2.2 | (with_reducible refine Kd.C_alloc ?_ _) | (with_reducible refine Kd.C_drewN ?_ _) | (with_reducible refine Kd.C_drew ?_))); (case side4 => exact (Kd.R_reads' HO396.out).2.1); (case side5 => repeat (first | exact (Kd.R_reads' HO399.out).2.2 | (with_reducible refine Kd.C_alloc ?_ _) | (with_reducible refine Kd.C_drewN ?_ _) | (with_reducible refine Kd.C_drew ?_))); (case side6 => exact (Kd.R_reads' HO399.out).2.1); rintro e w23 ⟨rfl, hb⟩; refine ⟨_, rfl, ?_⟩; replace HO393 := am__ (Kd.S_below (by (with_reducible repeat (first | apply Kd.S_alloc | apply Kd.S_drewN | apply Kd.S_drew)); exact HO393.out) hb); replace HO396 := am__ (Kd.R_below (rr__ HO396.out) hb); replace HO399 := am__ (Kd.R_below (rr__ HO399.out) hb); replace BK385 := am__ (blb__ BK385.out hb); replace HB := am__ (below_step (bel__) hb); clear hb; obtain ⟨hcz24_0, hcz24_1, hcz24_2, hcz24_3, hcz24_4, hcz24_5, hcz24_6, hfz24_0, hfz24_1, hfz24_2, hfz24_3, hfz24_4, hfz24_5, hfz24_6⟩ := bk7__ BK385.out) | ((with_reducible refine gate_callee (f := 12) rfl ?_); refine gl__ (some 16) Try.func12 #[.agg #[.int .i64 a0_0, .int .i64 a0_1, .int .i64 a0_2, .int .i64 a0_3, .slice A0_4 l0_4.length c0_4, .slice A0_5 l0_5.length c0_5, .slice A0_6 l0_6.length c0_6]] ?_; (with_reducible refine (laws_toState.calls k a0_0 a0_1 a0_2 a0_3 _ _ l0_4 _ _ l0_5 _ _ l0_6 t401 t402 t403 t404 t405 t408 t411 _ ?side1 HC0_4.out ?side3 HC0_5.out ?side5 HC0_6.out A9.out).mono ?_); (case side1 => repeat (first | exact (Kd.C_below HR0_4.out HB.out) | (with_reducible refine Kd.C_alloc ?_ _) | (with_reducible refine Kd.C_drewN ?_ _) | (with_reducible refine Kd.C_drew ?_))); (case side3 => repeat (first | exact (Kd.C_below HR0_5.out HB.out) | (with_reducible refine Kd.C_alloc ?_ _) | (with_reducible refine Kd.C_drewN ?_ _) | (with_reducible refine Kd.C_drew ?_))); (case side5 => repeat (first | exact (Kd.C_below HR0_6.out HB.out) | (with_reducible refine Kd.C_alloc ?_ _) | (with_reducible refine Kd.C_drewN ?_ _) | (with_reducible refine Kd.C_drew ?_))); rintro e w25 ⟨v406, v409, v412, rfl, ho0, ho1, ho2, hb⟩; refine ⟨_, rfl, ?_⟩; have HO407 := am__ (Kd.S_lower (Kd.S_new' ho0 (Kd.S_lt (by (with_reducible repeat (first | apply Kd.S_alloc | apply Kd.S_drewN | apply Kd.S_drew)); exact HO393.out))) (below_size (bel__))); replace HO393 := am__ (Kd.S_elder' (by (with_reducible repeat (first | apply Kd.S_alloc | apply Kd.S_drewN | apply Kd.S_drew)); exact HO393.out) (Kd.S_base ho0) hb); have HO410 := am__ (Kd.R_lower (Kd.R_new' ho1 (Kd.R_lt (rr__ HO396.out))) (below_size (bel__))); replace HO396 := am__ (Kd.R_elder' (rr__ HO396.out) (Kd.R_base ho1) hb); have HO413 := am__ (Kd.R_lower (Kd.R_new' ho2 (Kd.R_lt (rr__ HO399.out))) (below_size (bel__))); replace HO399 := am__ (Kd.R_elder' (rr__ HO399.out) (Kd.R_base ho2) hb); replace BK385 := am__ (blb__ BK385.out hb); replace HB := am__ (below_step (bel__) hb); clear hb; (try clear ho0); (try clear ho1); (try clear ho2)) | ((with_reducible refine gate_dst (N := 5) rfl ?_); refine be__ 5 #[.int .i64 0, .int .i64 0, .int .i64 0, .int .i64 0, .slice none 0 0, .slice none 0 0, .slice none 0 0] 33 ?_; intro gb414 hg w26 hbox hb; replace HO393 := am__ (Kd.S_below (by (with_reducible repeat (first | apply Kd.S_alloc | apply Kd.S_drewN | apply Kd.S_drew)); exact HO393.out) hb); replace HO396 := am__ (Kd.R_below (rr__ HO396.out) hb); replace HO399 := am__ (Kd.R_below (rr__ HO399.out) hb); replace HO407 := am__ (Kd.S_below (by (with_reducible repeat (first | apply Kd.S_alloc | apply Kd.S_drewN | apply Kd.S_drew)); exact HO407.out) hb); replace HO410 := am__ (Kd.R_below (rr__ HO410.out) hb); replace HO413 := am__ (Kd.R_below (rr__ HO413.out) hb); have BK414 := am__ (hbox); have GW414 := am__ ((bsz__ hg bel__ : w.heap.size ≤ gb414)); have GE414 := am__ ((bsz__ hg bel__ : w.heap.size ≤ gb414)); replace HB := am__ (below_step (bel__) hb); have NB385_414 := am__ ((nl__ hg BK385.out : gb385 ≠ gb414)); have NB414_385 := am__ ((ng__ hg BK385.out : gb414 ≠ gb385)); replace BK385 := am__ (blb__ BK385.out hb); clear hb hbox hg; have hnb27 := NB414_385.out; have hnc27 := NB385_414.out; obtain ⟨hcz28_0, hcz28_1, hcz28_2, hcz28_3, hcz28_4, hcz28_5, hcz28_6, hfz28_0, hfz28_1, hfz28_2, hfz28_3, hfz28_4, hfz28_5, hfz28_6⟩ := bk7__ BK414.out; obtain ⟨Ao29, co29, eo29⟩ := Kd.S_slice HO407.out; subst eo29; obtain ⟨Ao30, co30, eo30⟩ := Kd.R_slice HO410.out; subst eo30; obtain ⟨Ao31, co31, eo31⟩ := Kd.R_slice HO413.out; subst eo31) | ((with_reducible refine gate_callee (f := 16) rfl ?_); refine gl__ (some 18) Try.func16 #[.agg #[.int .i64 t401, .int .i64 t402, .int .i64 t403, .int .i64 t404, .slice Ao29 t405.length co29, .slice Ao30 t408.length co30, .slice Ao31 t411.length co31]] ?_; (with_reducible refine (impl_Room.calls k t401 t402 t403 t404 _ _ t405 _ _ t408 _ _ t411 t415 _ ?side1 ?side2 ?side3 ?side4 ?side5 ?side6 A10.out).mono ?_); (case side1 => refine (Kd.S_reads' (e := 91) (base := w.heap.size) (ok := fun k_ => (True ∧ some k_ ≠ (ob__ Ao20 t391.length co20))) (n := t405.length) (c := co29) ?_).2.2; exact (by (with_reducible repeat (first | apply Kd.S_alloc | apply Kd.S_drewN | apply Kd.S_drew)); exact (Kd.S_mono (Kd.S_far (p := ⟨gb414, 6, none⟩) (Kd.S_far (p := ⟨gb414, 5, none⟩) (Kd.S_far (p := ⟨gb414, 4, none⟩) (Kd.S_far (p := ⟨gb414, 3, none⟩) (Kd.S_far (p := ⟨gb414, 2, none⟩) (Kd.S_far (p := ⟨gb414, 1, none⟩) (Kd.S_far (p := ⟨gb414, 0, none⟩) (Kd.S_types HO407.out BK414.out (by decide)) h2__ (.int .i64 t401)) h2__ (.int .i64 t402)) h2__ (.int .i64 t403)) h2__ (.int .i64 t404)) h2__ (.slice Ao29 t405.length co29)) h2__ (.slice Ao30 t408.length co30)) h2__ (.slice Ao31 t411.length co31)) h1__))); (case side2 => exact (Kd.S_reads' HO407.out).2.1); (case side3 => refine (Kd.R_reads' (e := 82) (base := w.heap.size) (ok := fun k_ => (True ∧ some k_ ≠ (ob__ Ao21 t394.length co21))) (n := t408.length) (c := co30) ?_).2.2; exact (by refine rps__ ?_; exact (Kd.R_mono (Kd.R_far (p := ⟨gb414, 6, none⟩) (Kd.R_far (p := ⟨gb414, 5, none⟩) (Kd.R_far (p := ⟨gb414, 4, none⟩) (Kd.R_far (p := ⟨gb414, 3, none⟩) (Kd.R_far (p := ⟨gb414, 2, none⟩) (Kd.R_far (p := ⟨gb414, 1, none⟩) (Kd.R_far (p := ⟨gb414, 0, none⟩) (Kd.R_types HO410.out BK414.out (by decide)) h2__ (.int .i64 t401)) h2__ (.int .i64 t402)) h2__ (.int .i64 t403)) h2__ (.int .i64 t404)) h2__ (.slice Ao29 t405.length co29)) h2__ (.slice Ao30 t408.length co30)) h2__ (.slice Ao31 t411.length co31)) h1__))); (case side4 => exact (Kd.R_reads' HO410.out).2.1); (case side5 => refine (Kd.R_reads' (e := 85) (base := w.heap.size) (ok := fun k_ => (True ∧ some k_ ≠ (ob__ Ao22 t397.length co22))) (n := t411.length) (c := co31) ?_).2.2; exact (by refine rps__ ?_; exact (Kd.R_mono (Kd.R_far (p := ⟨gb414, 6, none⟩) (Kd.R_far (p := ⟨gb414, 5, none⟩) (Kd.R_far (p := ⟨gb414, 4, none⟩) (Kd.R_far (p := ⟨gb414, 3, none⟩) (Kd.R_far (p := ⟨gb414, 2, none⟩) (Kd.R_far (p := ⟨gb414, 1, none⟩) (Kd.R_far (p := ⟨gb414, 0, none⟩) (Kd.R_types HO413.out BK414.out (by decide)) h2__ (.int .i64 t401)) h2__ (.int .i64 t402)) h2__ (.int .i64 t403)) h2__ (.int .i64 t404)) h2__ (.slice Ao29 t405.length co29)) h2__ (.slice Ao30 t408.length co30)) h2__ (.slice Ao31 t411.length co31)) h1__))); (case side6 => exact (Kd.R_reads' HO413.out).2.1); rintro e w32 ⟨rfl, hb⟩; refine ⟨_, rfl, ?_⟩; replace HO393 := am__ (Kd.S_below (by (with_reducible repeat (first | apply Kd.S_alloc | apply Kd.S_drewN | apply Kd.S_drew)); exact (Kd.S_mono (Kd.S_far (p := ⟨gb414, 6, none⟩) (Kd.S_far (p := ⟨gb414, 5, none⟩) (Kd.S_far (p := ⟨gb414, 4, none⟩) (Kd.S_far (p := ⟨gb414, 3, none⟩) (Kd.S_far (p := ⟨gb414, 2, none⟩) (Kd.S_far (p := ⟨gb414, 1, none⟩) (Kd.S_far (p := ⟨gb414, 0, none⟩) (Kd.S_types HO393.out BK414.out (by decide)) h2__ (.int .i64 t401)) h2__ (.int .i64 t402)) h2__ (.int .i64 t403)) h2__ (.int .i64 t404)) h2__ (.slice Ao29 t405.length co29)) h2__ (.slice Ao30 t408.length co30)) h2__ (.slice Ao31 t411.length co31)) h1__)) hb); replace HO396 := am__ (Kd.R_below (by refine rps__ ?_; exact (Kd.R_mono (Kd.R_far (p := ⟨gb414, 6, none⟩) (Kd.R_far (p := ⟨gb414, 5, none⟩) (Kd.R_far (p := ⟨gb414, 4, none⟩) (Kd.R_far (p := ⟨gb414, 3, none⟩) (Kd.R_far (p := ⟨gb414, 2, none⟩) (Kd.R_far (p := ⟨gb414, 1, none⟩) (Kd.R_far (p := ⟨gb414, 0, none⟩) (Kd.R_types HO396.out BK414.out (by decide)) h2__ (.int .i64 t401)) h2__ (.int .i64 t402)) h2__ (.int .i64 t403)) h2__ (.int .i64 t404)) h2__ (.slice Ao29 t405.length co29)) h2__ (.slice Ao30 t408.length co30)) h2__ (.slice Ao31 t411.length co31)) h1__)) hb); replace HO399 := am__ (Kd.R_below (by refine rps__ ?_; exact (Kd.R_mono (Kd.R_far (p := ⟨gb414, 6, none⟩) (Kd.R_far (p := ⟨gb414, 5, none⟩) (Kd.R_far (p := ⟨gb414, 4, none⟩) (Kd.R_far (p := ⟨gb414, 3, none⟩) (Kd.R_far (p := ⟨gb414, 2, none⟩) (Kd.R_far (p := ⟨gb414, 1, none⟩) (Kd.R_far (p := ⟨gb414, 0, none⟩) (Kd.R_types HO399.out BK414.out (by decide)) h2__ (.int .i64 t401)) h2__ (.int .i64 t402)) h2__ (.int .i64 t403)) h2__ (.int .i64 t404)) h2__ (.slice Ao29 t405.length co29)) h2__ (.slice Ao30 t408.length co30)) h2__ (.slice Ao31 t411.length co31)) h1__)) hb); replace HO407 := am__ (Kd.S_below (by (with_reducible repeat (first | apply Kd.S_alloc | apply Kd.S_drewN | apply Kd.S_drew)); exact (Kd.S_mono (Kd.S_far (p := ⟨gb414, 6, none⟩) (Kd.S_far (p := ⟨gb414, 5, none⟩) (Kd.S_far (p := ⟨gb414, 4, none⟩) (Kd.S_far (p := ⟨gb414, 3, none⟩) (Kd.S_far (p := ⟨gb414, 2, none⟩) (Kd.S_far (p := ⟨gb414, 1, none⟩) (Kd.S_far (p := ⟨gb414, 0, none⟩) (Kd.S_types HO407.out BK414.out (by decide)) h2__ (.int .i64 t401)) h2__ (.int .i64 t402)) h2__ (.int .i64 t403)) h2__ (.int .i64 t404)) h2__ (.slice Ao29 t405.length co29)) h2__ (.slice Ao30 t408.length co30)) h2__ (.slice Ao31 t411.length co31)) h1__)) hb); replace HO410 := am__ (Kd.R_below (by refine rps__ ?_; exact (Kd.R_mono (Kd.R_far (p := ⟨gb414, 6, none⟩) (Kd.R_far (p := ⟨gb414, 5, none⟩) (Kd.R_far (p := ⟨gb414, 4, none⟩) (Kd.R_far (p := ⟨gb414, 3, none⟩) (Kd.R_far (p := ⟨gb414, 2, none⟩) (Kd.R_far (p := ⟨gb414, 1, none⟩) (Kd.R_far (p := ⟨gb414, 0, none⟩) (Kd.R_types HO410.out BK414.out (by decide)) h2__ (.int .i64 t401)) h2__ (.int .i64 t402)) h2__ (.int .i64 t403)) h2__ (.int .i64 t404)) h2__ (.slice Ao29 t405.length co29)) h2__ (.slice Ao30 t408.length co30)) h2__ (.slice Ao31 t411.length co31)) h1__)) hb); replace HO413 := am__ (Kd.R_below (by refine rps__ ?_; exact (Kd.R_mono (Kd.R_far (p := ⟨gb414, 6, none⟩) (Kd.R_far (p := ⟨gb414, 5, none⟩) (Kd.R_far (p := ⟨gb414, 4, none⟩) (Kd.R_far (p := ⟨gb414, 3, none⟩) (Kd.R_far (p := ⟨gb414, 2, none⟩) (Kd.R_far (p := ⟨gb414, 1, none⟩) (Kd.R_far (p := ⟨gb414, 0, none⟩) (Kd.R_types HO413.out BK414.out (by decide)) h2__ (.int .i64 t401)) h2__ (.int .i64 t402)) h2__ (.int .i64 t403)) h2__ (.int .i64 t404)) h2__ (.slice Ao29 t405.length co29)) h2__ (.slice Ao30 t408.length co30)) h2__ (.slice Ao31 t411.length co31)) h1__)) hb); replace BK385 := am__ (blk_below (g := gb385) (o := .cells #[.int .i64 a0_0, .int .i64 a0_1, .int .i64 a0_2, .int .i64 a0_3, .slice A0_4 l0_4.length c0_4, .slice A0_5 l0_5.length c0_5, .slice A0_6 l0_6.length c0_6] 26 (0, 0)) (blf7__ BK385.out) hb); replace BK414 := am__ (blk_below (g := gb414) (o := .cells #[.int .i64 t401, .int .i64 t402, .int .i64 t403, .int .i64 t404, .slice Ao29 t405.length co29, .slice Ao30 t408.length co30, .slice Ao31 t411.length co31] 33 (0, 0)) (bpu__ BK414.out) hb); replace HB := am__ (below_step (bel__) hb); clear hb))
    replace HO393 := am__ (Kd.S_drew HO393.out)
    replace HO396 := am__ (Kd.R_drew HO396.out)
    replace HO399 := am__ (Kd.R_drew HO399.out)
    replace HO407 := am__ (Kd.S_drew HO407.out)
    replace HO410 := am__ (Kd.R_drew HO410.out)
    replace HO413 := am__ (Kd.R_drew HO413.out)
    replace BK385 := am__ (blk_drew BK385.out)
    replace BK414 := am__ (blk_drew BK414.out)
    replace HB := am__ (below_drew1 HB.out)
    refine start_ (n := 5) (S := fun w' => w'.cell? ⟨gb414, 0, none⟩ = some (.int .i64 t401) ∧ w'.cell? ⟨gb414, 1, none⟩ = some (.int .i64 t402) ∧ w'.cell? ⟨gb414, 2, none⟩ = some (.int .i64 t403) ∧ w'.cell? ⟨gb414, 3, none⟩ = some (.int .i64 t404) ∧ w'.cell? ⟨gb414, 4, none⟩ = some (.slice Ao29 t405.length co29) ∧ w'.cell? ⟨gb414, 5, none⟩ = some (.slice Ao30 t408.length co30) ∧ w'.cell? ⟨gb414, 6, none⟩ = some (.slice Ao31 t411.length co31) ∧ w'.cell? ⟨gb385, 0, none⟩ = some (.int .i64 a0_0) ∧ w'.cell? ⟨gb385, 1, none⟩ = some (.int .i64 a0_1) ∧ w'.cell? ⟨gb385, 2, none⟩ = some (.int .i64 a0_2) ∧ w'.cell? ⟨gb385, 3, none⟩ = some (.int .i64 a0_3) ∧ w'.cell? ⟨gb385, 4, none⟩ = some (.slice A0_4 l0_4.length c0_4) ∧ w'.cell? ⟨gb385, 5, none⟩ = some (.slice A0_5 l0_5.length c0_5) ∧ w'.cell? ⟨gb385, 6, none⟩ = some (.slice A0_6 l0_6.length c0_6)) (ds := []) #[false, false, false, false, false] (by kernel_rfl) rfl rfl ⟨bc__ BK414.out 0, bc__ BK414.out 1, bc__ BK414.out 2, bc__ BK414.out 3, bc__ BK414.out 4, bc__ BK414.out 5, bc__ BK414.out 6, bc__ BK385.out 0, bc__ BK385.out 1, bc__ BK385.out 2, bc__ BK385.out 3, bc__ BK385.out 4, bc__ BK385.out 5, bc__ BK385.out 6⟩ (fun hHeld => ?_)
    generalize w32.drew = w33 at HO393 HO396 HO399 HO407 HO410 HO413 BK385 BK414 HB hHeld ⊢
    refine take_ (i := 0) (N := some 22) (v := ?_) (a' := ?_) #[true, false, false, false, false] rfl rfl (by kernel_rfl) (fun _ _ _ h => h) (Or.inl ⟨by rfl, ?_⟩) hHeld ?_ ?_
    rotate_left
    ·rintro w' ⟨s0, s1, s2, s3, s4, s5, s6, s7, s8, s9, s10, s11, s12, s13⟩
     go_simp
     with_reducible rfl
    rotate_left
    ·simp only [Act.put, List.setIfInBounds_toArray, List.set_cons_zero, List.set_cons_succ, i64_w, i32_w]
     rfl
    refine take_ (i := 1) (N := some 23) (v := ?_) (a' := ?_) #[true, true, false, false, false] rfl rfl (by kernel_rfl) (fun _ _ _ h => h) (Or.inl ⟨by rfl, ?_⟩) hHeld ?_ ?_
    rotate_left
    ·rintro w' ⟨s0, s1, s2, s3, s4, s5, s6, s7, s8, s9, s10, s11, s12, s13⟩
     go_simp
     with_reducible rfl
    rotate_left
    ·simp only [Act.put, List.setIfInBounds_toArray, List.set_cons_zero, List.set_cons_succ, i64_w, i32_w]
     rfl
    refine one_ (i := 2) (N := some 24) #[true, true, true, false, false] rfl rfl (by kernel_rfl) (by decide) (fun K hK => ?_)
    refine gs__ Try.func12 #[.agg #[.int .i64 a0_0, .int .i64 a0_1, .int .i64 a0_2, .int .i64 a0_3, .slice A0_4 l0_4.length c0_4, .slice A0_5 l0_5.length c0_5, .slice A0_6 l0_6.length c0_6]] ?_
    with_reducible refine (laws_toState.calls k a0_0 a0_1 a0_2 a0_3 _ _ l0_4 _ _ l0_5 _ _ l0_6 t416 t417 t418 t419 t420 t423 t426 _ ?side1 ?side2 ?side3 ?side4 ?side5 ?side6 A12.out).mono ?_
    (case side1 => repeat (first | exact (Kd.C_below HR0_4.out HB.out) | (with_reducible refine Kd.C_alloc ?_ _) | (with_reducible refine Kd.C_drewN ?_ _) | (with_reducible refine Kd.C_drew ?_)))
    (case side2 => exact HC0_4.out)
    (case side3 => repeat (first | exact (Kd.C_below HR0_5.out HB.out) | (with_reducible refine Kd.C_alloc ?_ _) | (with_reducible refine Kd.C_drewN ?_ _) | (with_reducible refine Kd.C_drew ?_)))
    (case side4 => exact HC0_5.out)
    (case side5 => repeat (first | exact (Kd.C_below HR0_6.out HB.out) | (with_reducible refine Kd.C_alloc ?_ _) | (with_reducible refine Kd.C_drewN ?_ _) | (with_reducible refine Kd.C_drew ?_)))
    (case side6 => exact HC0_6.out)
    rintro e w34 ⟨v421, v424, v427, rfl, ho0, ho1, ho2, hb⟩
    refine ⟨_, rfl, ?_⟩
    have HO422 := am__ (Kd.S_lower (Kd.S_new' (Kd.S_new' ho0 (Kd.S_lt (by (with_reducible repeat (first | apply Kd.S_alloc | apply Kd.S_drewN | apply Kd.S_drew)); exact HO393.out))) (Kd.S_lt (by (with_reducible repeat (first | apply Kd.S_alloc | apply Kd.S_drewN | apply Kd.S_drew)); exact HO407.out))) (below_size (bel__)))
    replace HO393 := am__ (Kd.S_elder' (by (with_reducible repeat (first | apply Kd.S_alloc | apply Kd.S_drewN | apply Kd.S_drew)); exact HO393.out) (Kd.S_base ho0) hb)
    replace HO407 := am__ (Kd.S_elder' (by (with_reducible repeat (first | apply Kd.S_alloc | apply Kd.S_drewN | apply Kd.S_drew)); exact HO407.out) (Kd.S_base ho0) hb)
    have HO425 := am__ (Kd.R_lower (Kd.R_new' (Kd.R_new' ho1 (Kd.R_lt (rr__ HO396.out))) (Kd.R_lt (rr__ HO410.out))) (below_size (bel__)))
    replace HO396 := am__ (Kd.R_elder' (rr__ HO396.out) (Kd.R_base ho1) hb)
    replace HO410 := am__ (Kd.R_elder' (rr__ HO410.out) (Kd.R_base ho1) hb)
    have HO428 := am__ (Kd.R_lower (Kd.R_new' (Kd.R_new' ho2 (Kd.R_lt (rr__ HO399.out))) (Kd.R_lt (rr__ HO413.out))) (below_size (bel__)))
    replace HO399 := am__ (Kd.R_elder' (rr__ HO399.out) (Kd.R_base ho2) hb)
    replace HO413 := am__ (Kd.R_elder' (rr__ HO413.out) (Kd.R_base ho2) hb)
    replace BK385 := am__ (blb__ BK385.out hb)
    replace BK414 := am__ (blb__ BK414.out hb)
    replace HB := am__ (below_step (bel__) hb)
    (try clear hb)
    (try clear hb2)
    (try clear hk)
    (try clear hi)
    (try clear ho0)
    (try clear ho1)
    (try clear ho2)
    obtain ⟨Ao35, co35, eo35⟩ := Kd.S_slice HO422.out
    (first | subst eo35 | (injection eo35 with f1_ f2_ f3_; have f4_ := f1_.symm; have f5_ := f3_.symm; clear f1_ f2_ f3_; subst f4_; subst f5_))
    obtain ⟨Ao36, co36, eo36⟩ := Kd.R_slice HO425.out
    (first | subst eo36 | (injection eo36 with f1_ f2_ f3_; have f4_ := f1_.symm; have f5_ := f3_.symm; clear f1_ f2_ f3_; subst f4_; subst f5_))
    obtain ⟨Ao37, co37, eo37⟩ := Kd.R_slice HO428.out
    (first | subst eo37 | (injection eo37 with f1_ f2_ f3_; have f4_ := f1_.symm; have f5_ := f3_.symm; clear f1_ f2_ f3_; subst f4_; subst f5_))
    refine hK.out _ _ ⟨bc__ BK414.out 0, bc__ BK414.out 1, bc__ BK414.out 2, bc__ BK414.out 3, bc__ BK414.out 4, bc__ BK414.out 5, bc__ BK414.out 6, bc__ BK385.out 0, bc__ BK385.out 1, bc__ BK385.out 2, bc__ BK385.out 3, bc__ BK385.out 4, bc__ BK385.out 5, bc__ BK385.out 6⟩ (fun hHeld => ?_)
    clear hK K
    refine na__ 24 ?_
    refine one_ (i := 3) (N := some 25) #[true, true, true, true, false] rfl rfl (by kernel_rfl) (by decide) (fun K hK => ?_)
    refine gs__ Try.func14 #[.agg #[.int .i64 t401, .int .i64 t402, .int .i64 t403, .int .i64 t404, .slice Ao29 t405.length co29, .slice Ao30 t408.length co30, .slice Ao31 t411.length co31], .agg #[.int .i64 t416, .int .i64 t417, .int .i64 t418, .int .i64 t419, .slice Ao35 t420.length co35, .slice Ao36 t423.length co36, .slice Ao37 t426.length co37]] ?_
    with_reducible refine (laws_eqState.calls k t401 t402 t403 t404 _ _ t405 _ _ t408 _ _ t411 t416 t417 t418 t419 _ _ t420 _ _ t423 _ _ t426 true _ ?side1 ?side2 ?side3 ?side4 ?side5 ?side6 ?side7 ?side8 ?side9 ?side10 ?side11 ?side12 A13.out).mono ?_
    (case side1 => repeat (first | exact (Kd.S_reads' HO407.out).2.2 | (with_reducible refine Kd.C_alloc ?_ _) | (with_reducible refine Kd.C_drewN ?_ _) | (with_reducible refine Kd.C_drew ?_)))
    (case side2 => exact (Kd.S_reads' HO407.out).2.1)
    (case side3 => repeat (first | exact (Kd.R_reads' HO410.out).2.2 | (with_reducible refine Kd.C_alloc ?_ _) | (with_reducible refine Kd.C_drewN ?_ _) | (with_reducible refine Kd.C_drew ?_)))
    (case side4 => exact (Kd.R_reads' HO410.out).2.1)
    (case side5 => repeat (first | exact (Kd.R_reads' HO413.out).2.2 | (with_reducible refine Kd.C_alloc ?_ _) | (with_reducible refine Kd.C_drewN ?_ _) | (with_reducible refine Kd.C_drew ?_)))
    (case side6 => exact (Kd.R_reads' HO413.out).2.1)
    (case side7 => repeat (first | exact (Kd.S_reads' HO422.out).2.2 | (with_reducible refine Kd.C_alloc ?_ _) | (with_reducible refine Kd.C_drewN ?_ _) | (with_reducible refine Kd.C_drew ?_)))
    (case side8 => exact (Kd.S_reads' HO422.out).2.1)
    (case side9 => repeat (first | exact (Kd.R_reads' HO425.out).2.2 | (with_reducible refine Kd.C_alloc ?_ _) | (with_reducible refine Kd.C_drewN ?_ _) | (with_reducible refine Kd.C_drew ?_)))
    (case side10 => exact (Kd.R_reads' HO425.out).2.1)
    (case side11 => repeat (first | exact (Kd.R_reads' HO428.out).2.2 | (with_reducible refine Kd.C_alloc ?_ _) | (with_reducible refine Kd.C_drewN ?_ _) | (with_reducible refine Kd.C_drew ?_)))
    (case side12 => exact (Kd.R_reads' HO428.out).2.1)
    rintro e w38 ⟨rfl, hb⟩
    refine ⟨_, rfl, ?_⟩
    replace HO393 := am__ (Kd.S_below (by (with_reducible repeat (first | apply Kd.S_alloc | apply Kd.S_drewN | apply Kd.S_drew)); exact HO393.out) hb)
    replace HO396 := am__ (Kd.R_below (rr__ HO396.out) hb)
    replace HO399 := am__ (Kd.R_below (rr__ HO399.out) hb)
    replace HO407 := am__ (Kd.S_below (by (with_reducible repeat (first | apply Kd.S_alloc | apply Kd.S_drewN | apply Kd.S_drew)); exact HO407.out) hb)
    replace HO410 := am__ (Kd.R_below (rr__ HO410.out) hb)
    replace HO413 := am__ (Kd.R_below (rr__ HO413.out) hb)
    replace HO422 := am__ (Kd.S_below (by (with_reducible repeat (first | apply Kd.S_alloc | apply Kd.S_drewN | apply Kd.S_drew)); exact HO422.out) hb)
    replace HO425 := am__ (Kd.R_below (rr__ HO425.out) hb)
    replace HO428 := am__ (Kd.R_below (rr__ HO428.out) hb)
    replace BK385 := am__ (blb__ BK385.out hb)
    replace BK414 := am__ (blb__ BK414.out hb)
    replace HB := am__ (below_step (bel__) hb)
    (try clear hb)
    (try clear hb2)
    (try clear hk)
    (try clear hi)
    refine hK.out _ _ ⟨bc__ BK414.out 0, bc__ BK414.out 1, bc__ BK414.out 2, bc__ BK414.out 3, bc__ BK414.out 4, bc__ BK414.out 5, bc__ BK414.out 6, bc__ BK385.out 0, bc__ BK385.out 1, bc__ BK385.out 2, bc__ BK385.out 3, bc__ BK385.out 4, bc__ BK385.out 5, bc__ BK385.out 6⟩ (fun hHeld => ?_)
    clear hK K
    refine na__ 25 ?_
    refine pure_ (i := 4) (N := some 26) (v := ?_) (a' := ?_) #[true, true, true, true, true] rfl rfl (by kernel_rfl) (fun _ _ _ h => h) (Or.inl ⟨by rfl, ?_⟩) ?_ ?_
    rotate_left
    ·intro w'
     go_simp
     with_reducible rfl
    rotate_left
    ·simp only [Act.put, List.setIfInBounds_toArray, List.set_cons_zero, List.set_cons_succ, i64_w, i32_w]
     rfl
    refine done_ (by kernel_rfl) ?_
    try go_wp2
    go_ret
    exact ⟨by first | rfl | (simp [errW_none, errW_some] <;> rfl) | (simp [*, errW_none, errW_some] <;> rfl), bel__⟩
   ·replace c14 := Bool.eq_false_iff.mpr c14
    subst c14
    have H1 : (none) = some r := by rw [if_neg (show ¬ (false = true) by decide)] at H; exact H
    clear H
    have H := H1
    clear H1
    exact absurd H (by simp)
  ·rw [if_neg c11] at H
   exact absurd H (by simp)
end Go.Proofs.Ytcijlemojododaa.P

/- What an argument holds, told by its kind: whatever can be read as data at a type (numbers, texts, slices, structs in one another) is read by the kind of that type, and the room it takes is bounded. -/
namespace Go.Proofs.Ytcijlemojododaa.Q
open Go.ChangeShapes Go.WideShapes Go.ChangeAt Go.RowKit Go.Proofs.YtcijlemojododaaW.PrintWords
set_option linter.unusedVariables false

structure Rd (P : Program) (t : TypeId) {α : Type} (d : Kd α) (Z : α → List Nat) : Prop where
  out : ∀ {H : Type} {enc : TypeId × Value → H} {w : World} {base : Nat} {sp : Nat → Bool} {held : Bool} {fuel : Nat} {cs : List Value} {y : DataW H × List MemPlace},
    DataW.trod enc P w base sp held fuel t cs = some y → ∃ x, d.K w x cs ∧ ∀ n ∈ Z x, 0 < n → ∃ m ∈ y.1.weights P t, n ≤ m
theorem Rd.int {P : Program} {t : TypeId} {k : IntKind} (ht : P.underlying t = some (.int k)) : Rd P t (Kd.int k) (fun _ => []) := ⟨fun h => by
  obtain ⟨n, rfl, rfl, _⟩ := DataW.trod_int ht h
  exact ⟨n, rfl, fun n hn => by cases hn⟩⟩
theorem Rd.bool {P : Program} {t : TypeId} (ht : P.underlying t = some .bool) : Rd P t Kd.bool (fun _ => []) := ⟨fun h => by
  obtain ⟨n, rfl, rfl⟩ := DataW.trod_bool ht h
  exact ⟨n, rfl, fun n hn => by cases hn⟩⟩
theorem Rd.string {P : Program} {t : TypeId} (ht : P.underlying t = some .string) : Rd P t Kd.string (fun s => [s.size]) := ⟨fun h => by
  obtain ⟨s, rfl, rfl, _⟩ := DataW.trod_string ht h
  refine ⟨s, rfl, fun n hn _ => ⟨s.size, ?_, by rw [List.mem_singleton.1 hn]; exact Nat.le_refl _⟩⟩
  simp [DataW.weights]⟩
theorem weightsAll_mem {H : Type} {P : Program} {e : TypeId} : ∀ {l : List (DataW H)} {d : DataW H}, d ∈ l → ∀ {n : Nat}, n ∈ d.weights P e → n ∈ DataW.weightsAll P e l
  | x :: l, d, hd, n, hn => by
    simp only [DataW.weightsAll, List.mem_append]
    rcases List.mem_cons.1 hd with rfl | hd
    · exact .inl hn
    · exact .inr (weightsAll_mem hd hn)
  | [], _, hd, _, _ => by cases hd
theorem exists_list {α : Type} (n : Nat) (p : Nat → α → Prop) (h : ∀ i, i < n → ∃ x, p i x) : ∃ l : List α, l.length = n ∧ ∀ i x, l[i]? = some x → p i x := by
  induction n with
  | zero => exact ⟨[], rfl, fun i x hx => by simp at hx⟩
  | succ n ih =>
    obtain ⟨l, hl, hp⟩ := ih (fun i hi => h i (by omega))
    obtain ⟨x, hx⟩ := h n (by omega)
    refine ⟨l ++ [x], by simp [hl], fun i y hy => ?_⟩
    by_cases hi : i < n
    · rw [List.getElem?_append_left (by omega)] at hy; exact hp i y hy
    · rw [List.getElem?_append_right (by omega)] at hy
      have e : i - l.length = 0 := by
        rcases Nat.eq_zero_or_pos (i - l.length) with h0 | h0
        · exact h0
        · rw [List.getElem?_eq_none (by simp; omega)] at hy; cases hy
      rw [e] at hy
      simp at hy
      obtain rfl : i = n := by omega
      rw [← hy]; exact hx
theorem Deep_add (a : Addr) (i j : Nat) : (a.add i).add j = a.add (i + j) := by unfold Addr.add; split <;> split <;> simp_all [Nat.add_assoc]
theorem cells_at {w : World} {base : Nat} {a : Addr} {n : Nat} {cs : List Value} (h : w.cells? base a n = some cs) : cs.length = n ∧ ∀ i u, cs[i]? = some u → w.cell? (a.add i) = some u := by
  obtain ⟨_, hl, hc⟩ := World.cells?_some h
  refine ⟨hl, fun i u hu => ?_⟩
  have hi : i < cs.length := (List.getElem?_eq_some_iff.1 hu).1
  have := hc i (by omega)
  rw [this, hu]
theorem Rd.slice {P : Program} {t e : TypeId} {α : Type} {d : Kd α} {Z : α → List Nat} (ht : P.underlying t = some (.slice e)) (hC : P.cellsOf e = d.sz) (hd : Rd P e d Z) :
    Rd P t (Kd.slice e d) (fun xs => xs.length * P.bytesOf e :: xs.flatMap Z) := ⟨fun {H enc w base sp held fuel cs y} h => by
  rcases Deep.open_slice ht h with ⟨rfl, rfl⟩ | ⟨a, len, cap, m, n, D, Pl, rfl, hb, hl, hm, hmm, rfl, hi⟩
  · refine ⟨[], ⟨none, 0, rfl, Nat.le_refl _, Kd.C_nil _ _⟩, fun n hn hp => ?_⟩
    simp at hn
    omega
  · have hlm : len ≤ m := by rw [hmm]; split <;> omega
    obtain ⟨xs, hxl, hx⟩ := exists_list len (fun i x => ∃ cs', w.cells? base (a.add (i * P.cellsOf e)) (P.cellsOf e) = some cs' ∧ d.K w x cs' ∧ ∀ n ∈ Z x, 0 < n → ∃ m ∈ (D i).weights P e, n ≤ m) (fun i hilt => by
      obtain ⟨cs', hc, ht'⟩ := hi i (by omega)
      obtain ⟨x, hk, hz⟩ := hd.out ht'
      exact ⟨x, cs', hc, hk, hz⟩)
    subst hxl
    refine ⟨xs, ⟨some a, cap, rfl, hl, rfl, ?_, fun _ => ⟨a, rfl, fun j p hj => ?_⟩⟩, fun n hn hp => ?_⟩
    · unfold maxLen at hm; omega
    · obtain ⟨cs', hc, hk, _⟩ := hx j p hj
      obtain ⟨hl', hcell⟩ := cells_at hc
      refine ⟨cs', by rw [hl', hC], hk, fun i u hu => ?_⟩
      have hh := hcell i u hu
      rw [hC, Deep_add] at hh
      exact hh
    · simp only [List.mem_cons, List.mem_flatMap] at hn
      rcases hn with rfl | ⟨x, hxm, hn⟩
      · refine ⟨(((List.range xs.length).map D).length + ((List.range (m - xs.length)).map fun j => D (xs.length + j)).length) * P.bytesOf e, ?_, ?_⟩
        · simp [DataW.weights, ht]
        · apply Nat.mul_le_mul_right; simp
      · obtain ⟨i, hilt, hix⟩ := List.getElem_of_mem hxm
        obtain ⟨_, _, _, hz⟩ := hx i x (by rw [List.getElem?_eq_getElem hilt, hix])
        obtain ⟨k, hk, hnk⟩ := hz n hn hp
        refine ⟨k, ?_, hnk⟩
        simp only [DataW.weights, ht, List.mem_cons, List.mem_append]
        exact .inr (.inl (weightsAll_mem (List.mem_map.2 ⟨i, by simpa using hilt, rfl⟩) hk))⟩
structure RdL (P : Program) {α : Type} (fs : List Field) (off : Nat) (d : Kd α) (Z : α → List Nat) : Prop where
  out : ∀ {H : Type} {enc : TypeId × Value → H} {w : World} {base : Nat} {sp : Nat → Bool} {held : Bool} {n : Nat} {cs : List Value} {xs : List (DataW H × List MemPlace)},
    cs.length = off + d.sz → xs.length = fs.length → (∀ (i : Nat) (f : Field), fs[i]? = some f → DataW.trod enc P w base sp held n f.type ((cs.drop f.offset).take (P.cellsOf f.type)) = xs[i]?) →
    ∃ x, d.K w x (cs.drop off) ∧ ∀ n ∈ Z x, 0 < n → ∃ m ∈ DataW.weightsEach P (fs.map (·.type)) (xs.map (·.1)), n ≤ m
theorem RdL.one {P : Program} {α : Type} {f : Field} {off : Nat} {d : Kd α} {Z : α → List Nat} (hd : Rd P f.type d Z) (ho : f.offset = off) (hc : P.cellsOf f.type = d.sz) : RdL P [f] off d Z := by
  constructor
  intro H enc w base sp held n cs xs hl hx hf
  match xs, hx with
  | [y], _ =>
    have := hf 0 f rfl
    rw [ho, hc, List.take_of_length_le (by simp; omega)] at this
    obtain ⟨x, hk, hz⟩ := hd.out this
    refine ⟨x, hk, fun n hn hp => ?_⟩
    obtain ⟨m, hm, h⟩ := hz n hn hp
    exact ⟨m, by simp [DataW.weightsEach, hm], h⟩
theorem RdL.cons {P : Program} {α β : Type} {f : Field} {fs : List Field} {off : Nat} {a : Kd α} {b : Kd β} {Za : α → List Nat} {Zb : β → List Nat} (hd : Rd P f.type a Za) (ho : f.offset = off) (hc : P.cellsOf f.type = a.sz) (hr : RdL P fs (off + a.sz) b Zb) :
    RdL P (f :: fs) off (Kd.pair a b) (fun x => Za x.1 ++ Zb x.2) := by
  constructor
  intro H enc w base sp held n cs xs hl hx hf
  match xs, hx with
  | y :: ys, hx =>
    have h0 := hf 0 f rfl
    rw [ho, hc] at h0
    obtain ⟨x, hk, hz⟩ := hd.out h0
    have hl2 : cs.length = (off + a.sz) + b.sz := by have : (Kd.pair a b).sz = a.sz + b.sz := rfl; omega
    obtain ⟨x2, hk2, hz2⟩ := hr.out hl2 (by simpa using hx) (fun i g hg => by simpa using hf (i + 1) g (by simpa using hg))
    refine ⟨(x, x2), ⟨(cs.drop off).take a.sz, (cs.drop off).drop a.sz, (List.take_append_drop _ _).symm, hk, by rw [List.drop_drop]; exact hk2⟩, fun n hn hp => ?_⟩
    simp only [DataW.weightsEach, List.map_cons]
    rcases List.mem_append.1 hn with hn | hn
    · obtain ⟨m, hm, h⟩ := hz n hn hp; exact ⟨m, List.mem_append_left _ hm, h⟩
    · obtain ⟨m, hm, h⟩ := hz2 n hn hp; exact ⟨m, List.mem_append_right _ hm, h⟩
theorem Rd.struct {P : Program} {t : TypeId} {α : Type} {fs : Array Field} {d : Kd α} {Z : α → List Nat} (ht : P.underlying t = some (.struct fs)) (hC : P.cellsOf t = d.sz) (h : RdL P fs.toList 0 d Z) : Rd P t d Z := ⟨fun hh => by
  obtain ⟨xs, n, _, rfl, hl, hlen, hf⟩ := DataW.trod_struct ht hh
  obtain ⟨x, hk, hz⟩ := h.out (by rw [hl, hC]; omega) (by simpa using hlen) (fun i f hi => hf i f (by simpa using hi))
  refine ⟨x, by simpa using hk, fun n hn hp => ?_⟩
  obtain ⟨m, hm, h⟩ := hz n hn hp
  exact ⟨m, by simpa [DataW.weights, ht] using hm, h⟩⟩
theorem Rd.iso {P : Program} {t : TypeId} {α β : Type} {d : Kd α} {Z : α → List Nat} (h : Rd P t d Z) (f : β → α) (g : α → β) (fg : ∀ a, f (g a) = a) : Rd P t (Kd.iso d f) (fun x => Z (f x)) := ⟨fun hh => by
  obtain ⟨x, hk, hz⟩ := h.out hh
  exact ⟨g x, by show d.K _ (f (g x)) _; rw [fg]; exact hk, by rw [fg]; exact hz⟩⟩
theorem sized_rd {H : Type} {P : Program} {ts : List TypeId} {ds : List (DataW H)} {Zx : List Nat} (h : (DataW.weightsEach P ts ds).all (· ≤ reachBytes) = true) {j : Nat} {t : TypeId} {d : DataW H} (ht : ts[j]? = some t) (hd : ds[j]? = some d)
    (hz : ∀ n ∈ Zx, 0 < n → ∃ m ∈ d.weights P t, n ≤ m) : ∀ n ∈ Zx, n ≤ 140737488351232 := fun n hn => by
  rcases Nat.eq_zero_or_pos n with h0 | h0
  · omega
  · obtain ⟨m, hm, hnm⟩ := hz n hn h0
    have := List.all_eq_true.1 h _ (DataW.weights_mem_each ht hd m hm)
    have h2 : m ≤ reachBytes := by simpa using this
    unfold reachBytes at h2
    omega
end Go.Proofs.Ytcijlemojododaa.Q

/- Plain laws of the helpers that the exact laws share: sizes, copies, equality, marks of lists of texts. No memory in sight. -/
namespace Go.Proofs.Ytcijlemojododaa.Q
open Go.RowKit Go.Proofs.Ytcijlemojododaa.P Go.Proofs.YtcijlemojododaaW.PrintWords Go.Proofs.YtcijlemojododaaW.PrintLast Go.Proofs.YtcijlemojododaaW.PrintMore
set_option linter.unusedVariables false

theorem wsucc {i n : Nat} (h : i < n) (hn : n ≤ 140737488351232) : wrap64 ((i : Int) + 1) = ((i + 1 : Nat) : Int) := by
  unfold wrap64; omega
theorem rd_drop {α : Type} (d : α) (l : List α) (i : Nat) (h : i < l.length) : l.drop i = rdOf d l (i : Int) :: l.drop (i + 1) := by
  rw [List.drop_eq_getElem_cons h]; simp [rdOf, List.getD_eq_getElem?_getD, List.getElem?_eq_getElem h]
theorem rd_get {α : Type} (d : α) (l : List α) (i : Nat) (h : i < l.length) : rdOf d l (i : Int) = l[i] := by
  simp [rdOf, List.getD_eq_getElem?_getD, List.getElem?_eq_getElem h]

/-! ### toStringS: a copy -/
theorem toS_loop (l : List ByteArray) (hl : l.length ≤ 140737488351232) (n : Nat) : ∀ (i : Nat) (x : List ByteArray), l.length - i = n → i ≤ l.length → x.length = l.length →
    Ev (fun k => laws_toStringS.l0 k l x (i : Int)) (x.take i ++ l.drop i) := by
  induction n with
  | zero =>
    intro i x hn hi hx
    have e : i = l.length := by omega
    subst e
    refine Ev.step (f := fun _ => some x) (fun k => ?_) ?_
    · simp only [laws_toStringS.l0]; rw [if_neg (by omega)]
    · rw [List.drop_length, List.append_nil, List.take_of_length_le (by omega)]; exact Ev.now _
  | succ n ih =>
    intro i x hn hi hx
    have hlt : i < l.length := by omega
    have := ih (i + 1) (x.set i (rdOf ByteArray.empty l (i : Int))) (by omega) (by omega) (by simp [hx])
    have e : (x.set i (rdOf ByteArray.empty l (i : Int))).take (i + 1) ++ l.drop (i + 1) = x.take i ++ l.drop i := by
      rw [rd_drop ByteArray.empty l i hlt, List.take_add_one]
      have h1 : (x.set i (rdOf ByteArray.empty l (i : Int))).take i = x.take i := by rw [List.take_set_of_le (by omega)]
      rw [h1, List.getElem?_set_self (by omega)]; simp
    rw [e] at this
    refine Ev.step (f := fun k => laws_toStringS.l0 k l (x.set i (rdOf ByteArray.empty l (i : Int))) ((i + 1 : Nat) : Int)) (fun k => ?_) this
    simp only [laws_toStringS.l0]
    rw [if_pos (by omega), if_pos (by omega), if_pos (by omega), wsucc hlt hl, Int.toNat_natCast]
theorem toS_ev (l : List ByteArray) (hl : l.length ≤ 8796093022207) : Ev (fun k => laws_toStringS.f k l) l := by
  have := toS_loop l (by omega) (l.length - 0) 0 (List.replicate l.length (⟨#[]⟩ : ByteArray)) rfl (by omega) (by simp)
  simp only [List.take_zero, List.drop_zero, List.nil_append] at this
  refine Ev.congr (fun k => ?_) this
  unfold laws_toStringS.f
  rw [if_pos (by omega), if_pos (by omega)]; rfl

/-! ### eqStringS: a list equals itself -/
theorem eqS_loop (l : List ByteArray) (hl : l.length ≤ 140737488351232) (n : Nat) : ∀ (i : Nat), l.length - i = n → i ≤ l.length → Ev (fun k => laws_eqStringS.l0 k l l (i : Int)) true := by
  induction n with
  | zero =>
    intro i hn hi
    refine Ev.step (f := fun _ => some true) (fun k => ?_) (Ev.now _)
    simp only [laws_eqStringS.l0]; rw [if_neg (by omega)]
  | succ n ih =>
    intro i hn hi
    have hlt : i < l.length := by omega
    refine Ev.step (f := fun k => laws_eqStringS.l0 k l l ((i + 1 : Nat) : Int)) (fun k => ?_) (ih (i + 1) (by omega) (by omega))
    simp only [laws_eqStringS.l0]
    rw [if_pos (by omega), if_pos (by omega), if_pos (by omega), if_pos trivial, wsucc hlt hl]
theorem eqS_ev (l : List ByteArray) (hl : l.length ≤ 140737488351232) : Ev (fun k => laws_eqStringS.f k l l) true := by
  refine Ev.congr (fun k => ?_) (eqS_loop l hl (l.length - 0) 0 rfl (by omega))
  unfold laws_eqStringS.f
  rw [if_pos rfl]; rfl

/-! ### szStringS: what is left of a bound -/
def szL : List ByteArray → Int → Int
  | [], a => a
  | x :: l, a => if a - (x.size : Int) < 0 then -1 else szL l (a - (x.size : Int))
theorem szL_le (l : List ByteArray) : ∀ a : Int, 0 ≤ szL l a → szL l a ≤ a ∧ ∀ x ∈ l, (x.size : Int) ≤ a := by
  induction l with
  | nil => intro a h; exact ⟨Int.le_refl _, fun x hx => by cases hx⟩
  | cons y l ih =>
    intro a h
    unfold szL at h ⊢
    split at h
    · omega
    · rename_i hc
      rw [if_neg hc]
      have := ih _ h
      refine ⟨by omega, fun x hx => ?_⟩
      rcases List.mem_cons.1 hx with rfl | hx
      · omega
      · have := this.2 x hx; omega
theorem szS_loop (l : List ByteArray) (hl : l.length ≤ 140737488351232) (hs : ∀ x ∈ l, x.size ≤ 140737488351232) (n : Nat) : ∀ (i : Nat) (a : Int), l.length - i = n → i ≤ l.length → 0 ≤ a → a ≤ 1048576 →
    Ev (fun k => laws_szStringS.l0 k l a (i : Int)) (szL (l.drop i) a) := by
  induction n with
  | zero =>
    intro i a hn hi h0 h1
    rw [List.drop_of_length_le (by omega)]
    refine Ev.step (f := fun _ => some a) (fun k => ?_) (Ev.now _)
    simp only [laws_szStringS.l0]; rw [if_neg (by omega)]
  | succ n ih =>
    intro i a hn hi h0 h1
    have hlt : i < l.length := by omega
    have hx : (rdOf ByteArray.empty l (i : Int)).size ≤ 140737488351232 := by rw [rd_get _ _ _ hlt]; exact hs _ (List.getElem_mem hlt)
    rw [rd_drop ByteArray.empty l i hlt]
    unfold szL
    have hw : wrap64 (a - ((rdOf ByteArray.empty l (i : Int)).size : Int)) = a - ((rdOf ByteArray.empty l (i : Int)).size : Int) := by unfold wrap64; omega
    by_cases hc : a - ((rdOf ByteArray.empty l (i : Int)).size : Int) < 0
    · rw [if_pos hc]
      refine Ev.step (f := fun _ => some (-1)) (fun k => ?_) (Ev.now _)
      simp only [laws_szStringS.l0]; rw [if_pos (by omega), if_pos (by omega), hw, if_pos hc]
    · rw [if_neg hc]
      refine Ev.step (f := fun k => laws_szStringS.l0 k l (a - ((rdOf ByteArray.empty l (i : Int)).size : Int)) ((i + 1 : Nat) : Int)) (fun k => ?_) (ih (i + 1) _ (by omega) (by omega) (by omega) (by omega))
      simp only [laws_szStringS.l0]; rw [if_pos (by omega), if_pos (by omega), hw, if_neg hc, wsucc hlt hl]
def szS (l : List ByteArray) (a : Int) : Int := if a - (l.length : Int) < 0 then -1 else szL l (a - (l.length : Int))
theorem szS_ev (l : List ByteArray) (hl : l.length ≤ 140737488351232) (hs : ∀ x ∈ l, x.size ≤ 140737488351232) (a : Int) (h0 : 0 ≤ a) (h1 : a ≤ 1048576) : Ev (fun k => laws_szStringS.f k l a) (szS l a) := by
  have hw : wrap64 (a - (l.length : Int)) = a - (l.length : Int) := by unfold wrap64; omega
  unfold szS
  by_cases hc : a - (l.length : Int) < 0
  · rw [if_pos hc]
    refine Ev.congr (fun k => ?_) (Ev.now _)
    unfold laws_szStringS.f; rw [hw, if_pos hc]
  · rw [if_neg hc]
    refine Ev.congr (fun k => ?_) (szS_loop l hl hs (l.length - 0) 0 (a - (l.length : Int)) rfl (by omega) (by omega) (by omega))
    unfold laws_szStringS.f; rw [hw, if_neg hc]; rfl
theorem szS_le {l : List ByteArray} {a : Int} (h : 0 ≤ szS l a) : szS l a ≤ a ∧ (l.length : Int) ≤ a ∧ ∀ x ∈ l, (x.size : Int) ≤ a := by
  unfold szS at h ⊢
  split at h
  · omega
  · rename_i hc
    rw [if_neg hc]
    have := szL_le l _ h
    exact ⟨by omega, by omega, fun x hx => by have := this.2 x hx; omega⟩
end Go.Proofs.Ytcijlemojododaa.Q

/- Plain laws of sums, things and logs: what the program and the reference come to, by one function each. -/
namespace Go.Proofs.Ytcijlemojododaa.Q
open Go.RowKit Go.Proofs.Ytcijlemojododaa.P Go.Proofs.YtcijlemojododaaW.PrintWords Go.Proofs.YtcijlemojododaaW.PrintLast Go.Proofs.YtcijlemojododaaW.PrintMore
set_option linter.unusedVariables false

/-! ### widths, valid things -/
def widB (w : Int) : Bool := decide (1 ≤ w ∧ w ≤ 8)
theorem l1W (w : Int) : spec_l1Width.f w = some (widB w) := by
  unfold spec_l1Width.f widB
  by_cases h : w ≥ 1
  · rw [if_pos h]; congr 1; simp; omega
  · rw [if_neg h]; congr 1; simp; omega
theorem wOk (w : Int) : impl_widthOk.f w = some (widB w) := by
  unfold impl_widthOk.f widB
  by_cases h : w ≥ 1
  · rw [if_pos h]; congr 1; simp; omega
  · rw [if_neg h]; congr 1; simp; omega
theorem widB_iff {w : Int} : widB w = true ↔ 1 ≤ w ∧ w ≤ 8 := by simp [widB]
/-- From place i on: each has width bytes and is above the one before it. -/
def refsFrom (w : Int) (l : List ByteArray) : Nat → Nat → Bool
  | 0, _ => true
  | n + 1, i => if ((rdOf ByteArray.empty l (i : Int)).size : Int) = w then
      (if 0 < i then (if (Op.bytesLess ((rdOf ByteArray.empty l ((i - 1 : Nat) : Int)).toList) ((rdOf ByteArray.empty l (i : Int)).toList)) = true then refsFrom w l n (i + 1) else false) else refsFrom w l n (i + 1)) else false
def thingB (t : ByteArray) (l : List ByteArray) (w : Int) : Bool := if (t.size : Int) > 2000 then false else if (l.length : Int) > 30 then false else if widB w = true then refsFrom w l l.length 0 else false
theorem wpred {i : Nat} (h : 0 < i) (hn : i ≤ 140737488351232) : wrap64 ((i : Int) - 1) = ((i - 1 : Nat) : Int) := by unfold wrap64; omega
theorem sOk_loop (t : ByteArray) (l : List ByteArray) (w : Int) (hl : l.length ≤ 140737488351232) (n : Nat) : ∀ (i : Nat), l.length - i = n → i ≤ l.length → Ev (fun k => spec_l1ThingOk.l0 k w (i : Int) t l) (refsFrom w l n i) := by
  induction n with
  | zero =>
    intro i hn hi
    refine Ev.step (f := fun _ => some true) (fun k => ?_) (Ev.now _)
    simp only [spec_l1ThingOk.l0]; rw [if_neg (by omega)]
  | succ n ih =>
    intro i hn hi
    have hlt : i < l.length := by omega
    have ih2 := ih (i + 1) (by omega) (by omega)
    unfold refsFrom
    by_cases c1 : ((rdOf ByteArray.empty l (i : Int)).size : Int) = w
    · rw [if_pos c1]
      by_cases c2 : 0 < i
      · rw [if_pos c2]
        by_cases c3 : (Op.bytesLess ((rdOf ByteArray.empty l ((i - 1 : Nat) : Int)).toList) ((rdOf ByteArray.empty l (i : Int)).toList)) = true
        · rw [if_pos c3]
          refine Ev.step (fun k => ?_) ih2
          simp only [spec_l1ThingOk.l0]; rw [if_pos (by omega), if_pos (by omega), if_pos c1, if_pos (by omega), wpred c2 (by omega), if_pos (by omega), if_pos (by omega), if_pos c3, wsucc hlt hl]
        · rw [if_neg c3]
          refine Ev.step (f := fun _ => some false) (fun k => ?_) (Ev.now _)
          simp only [spec_l1ThingOk.l0]; rw [if_pos (by omega), if_pos (by omega), if_pos c1, if_pos (by omega), wpred c2 (by omega), if_pos (by omega), if_pos (by omega), if_neg c3]
      · rw [if_neg c2]
        refine Ev.step (fun k => ?_) ih2
        simp only [spec_l1ThingOk.l0]; rw [if_pos (by omega), if_pos (by omega), if_pos c1, if_neg (by omega), wsucc hlt hl]
    · rw [if_neg c1]
      refine Ev.step (f := fun _ => some false) (fun k => ?_) (Ev.now _)
      simp only [spec_l1ThingOk.l0]; rw [if_pos (by omega), if_pos (by omega), if_neg c1]
theorem sOk_ev (t : ByteArray) (l : List ByteArray) (w : Int) (hl : l.length ≤ 140737488351232) : Ev (fun k => spec_l1ThingOk.f k t l w) (thingB t l w) := by
  have hj : ∀ b : Bool, Ev (fun k => spec_l1ThingOk.j0 k w b t l) (if b = true then false else refsFrom w l l.length 0) := fun b => by
    cases b
    · refine Ev.step (fun k => ?_) (sOk_loop t l w hl (l.length - 0) 0 rfl (by omega))
      simp only [spec_l1ThingOk.j0]; rfl
    · refine Ev.step (f := fun _ => some false) (fun k => ?_) (Ev.now _)
      simp only [spec_l1ThingOk.j0]; rfl
  unfold thingB
  by_cases c1 : widB w = true
  · by_cases c2 : (t.size : Int) > 2000
    · rw [if_pos c2]
      refine Ev.congr (fun k => ?_) (hj true)
      unfold spec_l1ThingOk.f; rw [l1W, Option.bind_some, if_pos c1, if_pos c2]
    · rw [if_neg c2, if_pos c1]
      refine Ev.congr (fun k => ?_) (by have := hj (decide ((l.length : Int) > 30)); simp only [decide_eq_true_eq] at this; exact this)
      unfold spec_l1ThingOk.f; rw [l1W, Option.bind_some, if_pos c1, if_neg c2]
  · rw [if_neg c1]
    have e : (if (t.size : Int) > 2000 then false else if (l.length : Int) > 30 then false else false) = false := by split <;> (try rfl); split <;> rfl
    rw [e]
    refine Ev.congr (fun k => ?_) (hj true)
    unfold spec_l1ThingOk.f; rw [l1W, Option.bind_some, if_neg c1]
theorem iOk_loop (t : ByteArray) (l : List ByteArray) (w : Int) (hl : l.length ≤ 140737488351232) (n : Nat) : ∀ (i : Nat), l.length - i = n → i ≤ l.length → Ev (fun k => impl_thingOk.l0 k w l (l.length : Int) (i : Int) t l) (if widB w = true then refsFrom w l n i else false) := by
  induction n with
  | zero =>
    intro i hn hi
    refine Ev.step (f := fun _ => some (widB w)) (fun k => ?_) ?_
    · simp only [impl_thingOk.l0]; rw [if_neg (by omega), wOk]; rfl
    · unfold refsFrom; cases widB w <;> exact Ev.now _
  | succ n ih =>
    intro i hn hi
    have hlt : i < l.length := by omega
    have ih2 := ih (i + 1) (by omega) (by omega)
    unfold refsFrom
    by_cases c1 : ((rdOf ByteArray.empty l (i : Int)).size : Int) = w
    · rw [if_pos c1]
      by_cases c2 : 0 < i
      · rw [if_pos c2]
        by_cases c3 : (Op.bytesLess ((rdOf ByteArray.empty l ((i - 1 : Nat) : Int)).toList) ((rdOf ByteArray.empty l (i : Int)).toList)) = true
        · rw [if_pos c3]
          refine Ev.step (fun k => ?_) ih2
          simp only [impl_thingOk.l0]; rw [if_pos (by omega), if_pos (by omega), if_pos (by omega), if_pos c1, if_pos (by omega), wpred c2 (by omega), if_pos (by omega), if_pos (by omega), if_pos c3, wsucc hlt hl]
        · rw [if_neg c3, ite_self]
          refine Ev.step (f := fun _ => some false) (fun k => ?_) (Ev.now _)
          simp only [impl_thingOk.l0]; rw [if_pos (by omega), if_pos (by omega), if_pos (by omega), if_pos c1, if_pos (by omega), wpred c2 (by omega), if_pos (by omega), if_pos (by omega), if_neg c3]
      · rw [if_neg c2]
        refine Ev.step (fun k => ?_) ih2
        simp only [impl_thingOk.l0]; rw [if_pos (by omega), if_pos (by omega), if_pos (by omega), if_pos c1, if_neg (by omega), wsucc hlt hl]
    · rw [if_neg c1, ite_self]
      refine Ev.step (f := fun _ => some false) (fun k => ?_) (Ev.now _)
      simp only [impl_thingOk.l0]; rw [if_pos (by omega), if_pos (by omega), if_pos (by omega), if_neg c1]
theorem iOk_ev (t : ByteArray) (l : List ByteArray) (w : Int) (hl : l.length ≤ 140737488351232) : Ev (fun k => impl_thingOk.f k t l w) (thingB t l w) := by
  have hj : ∀ b : Bool, Ev (fun k => impl_thingOk.j0 k w b t l) (if b = true then false else if widB w = true then refsFrom w l l.length 0 else false) := fun b => by
    cases b
    · refine Ev.step (fun k => ?_) (iOk_loop t l w hl (l.length - 0) 0 rfl (by omega))
      simp only [impl_thingOk.j0]; rfl
    · refine Ev.step (f := fun _ => some false) (fun k => ?_) (Ev.now _)
      simp only [impl_thingOk.j0]; rfl
  unfold thingB
  by_cases c2 : (t.size : Int) > 2000
  · rw [if_pos c2]
    refine Ev.congr (fun k => ?_) (hj true)
    unfold impl_thingOk.f; rw [if_pos c2]
  · rw [if_neg c2]
    refine Ev.congr (fun k => ?_) (by have := hj (decide ((l.length : Int) > 30)); simp only [decide_eq_true_eq] at this; exact this)
    unfold impl_thingOk.f; rw [if_neg c2]
theorem thingB_le {t : ByteArray} {l : List ByteArray} {w : Int} (h : thingB t l w = true) : t.size ≤ 2000 ∧ l.length ≤ 30 ∧ 1 ≤ w ∧ w ≤ 8 ∧ refsFrom w l l.length 0 = true := by
  unfold thingB at h
  split at h
  · cases h
  · split at h
    · cases h
    · split at h
      · rename_i h1 h2 h3
        have := widB_iff.1 h3
        exact ⟨by omega, by omega, this.1, this.2, h⟩
      · cases h
end Go.Proofs.Ytcijlemojododaa.Q

/- Plain laws of sums and of things' forms: the program's and the reference's come to one function each. -/
namespace Go.Proofs.Ytcijlemojododaa.Q
open Go.RowKit Go.Proofs.Ytcijlemojododaa.P Go.Proofs.YtcijlemojododaaW.PrintWords Go.Proofs.YtcijlemojododaaW.PrintLast Go.Proofs.YtcijlemojododaaW.PrintMore
set_option linter.unusedVariables false

/-! ### Sum -/
def hstep (h b : Int) : Int := IntKind.u64.wrap ((Go.bits .xor .u64 h (IntKind.u64.wrap b)) * 1099511628211)
def hashFrom (s : ByteArray) : Nat → Nat → Int → Int
  | 0, _, h => h
  | n + 1, i, h => hashFrom s n (i + 1) (hstep h (bt s (i : Int)))
theorem u64_wrap (x : Int) : IntKind.u64.wrap x = x % 18446744073709551616 := by
  simp [IntKind.wrap, IntKind.bits, IntKind.signed]
theorem hstep_range (h b : Int) : 0 ≤ hstep h b ∧ hstep h b < 18446744073709551616 := by
  unfold hstep; rw [u64_wrap]; omega
/-- The last bytes of a number, the highest first. -/
def dig (x : Int) : Nat → List Int
  | 0 => []
  | w + 1 => dig (x / 256) w ++ [x % 256]
def hash (s : ByteArray) : Int := hashFrom s s.size 0 14695981039346656037
def sumB (s : ByteArray) (w : Int) : ByteArray := if widB w = true then strOfNums (dig (hash s) w.toNat) else ⟨#[]⟩
theorem sSum1 (w : Int) (hw : 1 ≤ w ∧ w ≤ 8) (n : Nat) : ∀ (i : Int) (x : Int) (l : List Int), (w - i).toNat = n → 0 ≤ i → i ≤ w → l.length ≤ i.toNat → 0 ≤ x → x < 18446744073709551616 →
    Ev (fun k => spec_Sum.l1 k w x l i) (strOfNums (dig x n ++ l)) := by
  induction n with
  | zero =>
    intro i x l hn h0 h1 hl hx hx2
    refine Ev.step (f := fun _ => some (strOfNums l)) (fun k => ?_) (Ev.now _)
    simp only [spec_Sum.l1]; rw [if_neg (by omega)]
  | succ n ih =>
    intro i x l hn h0 h1 hl hx hx2
    have e1 : Int.tmod x 256 = x % 256 := Int.tmod_eq_emod_of_nonneg hx
    have e2 : Int.tdiv x 256 = x / 256 := Int.tdiv_eq_ediv_of_nonneg hx
    have e3 : IntKind.u64.wrap (x / 256) = x / 256 := by rw [u64_wrap]; omega
    have e4 : wrap64 (i + 1) = i + 1 := by unfold wrap64; omega
    have e5 : x % 256 % 256 = x % 256 := by omega
    have := ih (i + 1) (x / 256) ([x % 256] ++ l) (by omega) (by omega) (by omega) (by simp; omega) (by omega) (by omega)
    have e : dig x (n + 1) ++ l = dig (x / 256) n ++ ([x % 256] ++ l) := by simp [dig]
    rw [e]
    refine Ev.step (fun k => ?_) this
    simp only [spec_Sum.l1]; rw [if_pos (by omega)]; simp only [Option.bind_some]; rw [e1, e2, e3, e4, e5, if_pos (by simp; omega)]
theorem sSum0 (s : ByteArray) (w : Int) (hw : 1 ≤ w ∧ w ≤ 8) (hs : s.size ≤ 140737488351232) (n : Nat) : ∀ (i : Nat) (h : Int), s.size - i = n → i ≤ s.size → 0 ≤ h → h < 18446744073709551616 →
    Ev (fun k => spec_Sum.l0 k s w h (i : Int)) (strOfNums (dig (hashFrom s n i h) w.toNat)) := by
  induction n with
  | zero =>
    intro i h hn hi h0 h1
    have := sSum1 w hw w.toNat 0 h [] (by omega) (by omega) (by omega) (by simp) h0 h1
    rw [List.append_nil] at this
    refine Ev.step (fun k => ?_) this
    simp only [spec_Sum.l0]; rw [if_neg (by omega)]
  | succ n ih =>
    intro i h hn hi h0 h1
    have hr := hstep_range h (bt s (i : Int))
    refine Ev.step (fun k => ?_) (ih (i + 1) (hstep h (bt s (i : Int))) (by omega) (by omega) hr.1 hr.2)
    simp only [spec_Sum.l0]; rw [if_pos (by omega), if_pos (by omega), wsucc (show i < s.size by omega) hs]; rfl
theorem sSum_ev (s : ByteArray) (w : Int) (hs : s.size ≤ 140737488351232) : Ev (fun k => spec_Sum.f k s w) (sumB s w) := by
  unfold sumB
  by_cases c : widB w = true
  · rw [if_pos c]
    refine Ev.congr (fun k => ?_) (sSum0 s w (widB_iff.1 c) hs s.size 0 14695981039346656037 (by omega) (by omega) (by omega) (by omega))
    unfold spec_Sum.f; rw [l1W, Option.bind_some, if_pos c]; rfl
  · rw [if_neg c]
    refine Ev.congr (fun k => ?_) (Ev.now _)
    unfold spec_Sum.f; rw [l1W, Option.bind_some, if_neg c]
theorem iSum1 (n : Nat) : ∀ (x : Int) (l : List Int), n ≤ l.length → l.length ≤ 8 → 
    Ev (fun k => impl_Sum.l1 k x l ((n : Int) - 1)) (strOfNums (dig x n ++ l.drop n)) := by
  induction n with
  | zero =>
    intro x l hn hl
    refine Ev.step (f := fun _ => some (strOfNums l)) (fun k => ?_) (Ev.now _)
    simp only [impl_Sum.l1]; rw [if_neg (by omega)]
  | succ n ih =>
    intro x l hn hl
    have e1 : (((n + 1 : Nat) : Int) - 1).toNat = n := by omega
    have := ih (x / 256) (l.set n (x % 256)) (by simp; omega) (by simpa using hl)
    have e : dig x (n + 1) ++ l.drop (n + 1) = dig (x / 256) n ++ (l.set n (x % 256)).drop n := by
      have hlt : n < (l.set n (x % 256)).length := by simp; omega
      rw [List.drop_eq_getElem_cons hlt, List.getElem_set_self, List.drop_set_of_lt (by omega)]
      simp [dig]
    rw [e]
    have e4 : wrap64 (((n + 1 : Nat) : Int) - 1 - 1) = (n : Int) - 1 := by unfold wrap64; omega
    refine Ev.step (fun k => ?_) this
    simp only [impl_Sum.l1]; rw [if_pos (by omega), if_pos (by omega), if_pos (by omega), e1, e4]
theorem iSum0 (s : ByteArray) (w : Int) (hw : 1 ≤ w ∧ w ≤ 8) (hs : s.size ≤ 140737488351232) (n : Nat) : ∀ (i : Nat) (h : Int), s.size - i = n → i ≤ s.size →
    Ev (fun k => impl_Sum.l0 k s w h (s.size : Int) (i : Int)) (strOfNums (dig (hashFrom s n i h) w.toNat)) := by
  induction n with
  | zero =>
    intro i h hn hi
    have := iSum1 w.toNat h (List.replicate w.toNat 0) (by simp) (by simp; omega)
    rw [List.drop_of_length_le (by simp), List.append_nil] at this
    have e : wrap64 (w - 1) = ((w.toNat : Nat) : Int) - 1 := by unfold wrap64; omega
    refine Ev.step (fun k => ?_) this
    simp only [impl_Sum.l0]; rw [if_neg (by omega), if_pos (by omega), if_pos (by omega), e]
  | succ n ih =>
    intro i h hn hi
    refine Ev.step (fun k => ?_) (ih (i + 1) (hstep h (bt s (i : Int))) (by omega) (by omega))
    simp only [impl_Sum.l0]; rw [if_pos (by omega), if_pos (by omega), if_pos (by omega), wsucc (show i < s.size by omega) hs]; rfl
theorem iSum_ev (s : ByteArray) (w : Int) (hs : s.size ≤ 140737488351232) : Ev (fun k => impl_Sum.f k s w) (sumB s w) := by
  unfold sumB
  by_cases c : widB w = true
  · rw [if_pos c]
    refine Ev.congr (fun k => ?_) (iSum0 s w (widB_iff.1 c) hs s.size 0 14695981039346656037 (by omega) (by omega))
    unfold impl_Sum.f; rw [wOk, Option.bind_some, if_pos c]; rfl
  · rw [if_neg c]
    refine Ev.congr (fun k => ?_) (Ev.now _)
    unfold impl_Sum.f; rw [wOk, Option.bind_some, if_neg c]

/-! ### forms -/
theorem son_append (xs ys : List Int) : strOfNums (xs ++ ys) = strOfNums xs ++ strOfNums ys := by
  apply ByteArray.ext; rw [ByteArray.data_append]; simp [strOfNums]
theorem son_bytes (s : ByteArray) : strOfNums (bytesOf s) = s := by
  apply ByteArray.ext; apply Array.ext'; simp [strOfNums, bytesOf, Function.comp_def]
theorem son_size (xs : List Int) : (strOfNums xs).size = xs.length := by simp [strOfNums, ByteArray.size]
theorem bytes_length (s : ByteArray) : (bytesOf s).length = s.size := by unfold bytesOf; rw [List.length_map]; exact Array.length_toList
def catB : List ByteArray → ByteArray
  | [] => ⟨#[]⟩
  | x :: l => x ++ catB l
def headB (n : Nat) : ByteArray := strOfNums [(n : Int) % 256]
def formB (t : ByteArray) (l : List ByteArray) : ByteArray := headB l.length ++ (catB l ++ t)
theorem ba_assoc (a b c : ByteArray) : a ++ b ++ c = a ++ (b ++ c) := by apply ByteArray.ext; simp [ByteArray.data_append, Array.append_assoc]
theorem ba_nil (a : ByteArray) : (⟨#[]⟩ : ByteArray) ++ a = a := by apply ByteArray.ext; simp [ByteArray.data_append]
def szAll (l : List ByteArray) : Nat := (l.map ByteArray.size).sum
theorem catB_size (l : List ByteArray) : (catB l).size = szAll l := by
  induction l with
  | nil => rfl
  | cons x l ih => simp [catB, szAll, ByteArray.size_append, ih] at *
theorem szAll_drop (l : List ByteArray) (i : Nat) (h : i < l.length) : szAll (l.drop i) = (rdOf ByteArray.empty l (i : Int)).size + szAll (l.drop (i + 1)) := by
  rw [rd_drop ByteArray.empty l i h]; simp [szAll]
theorem iForm_loop (t : ByteArray) (l : List ByteArray) (hl : l.length ≤ 140737488351232) (n : Nat) : ∀ (i : Nat) (x : ByteArray), l.length - i = n → i ≤ l.length → x.size + szAll (l.drop i) + t.size ≤ 9223372036854775807 →
    Ev (fun k => impl_form.l0 k x l (l.length : Int) (i : Int) t l) (x ++ (catB (l.drop i) ++ t)) := by
  induction n with
  | zero =>
    intro i x hn hi hb
    rw [List.drop_of_length_le (by omega)] at hb ⊢
    simp only [catB, ba_nil]
    refine Ev.step (f := fun _ => some (x ++ t)) (fun k => ?_) (Ev.now _)
    simp only [impl_form.l0]; rw [if_neg (by omega), if_pos (by simp [szAll] at hb; omega)]
  | succ n ih =>
    intro i x hn hi hb
    have hlt : i < l.length := by omega
    rw [szAll_drop l i hlt] at hb
    have := ih (i + 1) (x ++ rdOf ByteArray.empty l (i : Int)) (by omega) (by omega) (by rw [ByteArray.size_append]; omega)
    have e : x ++ (catB (l.drop i) ++ t) = (x ++ rdOf ByteArray.empty l (i : Int)) ++ (catB (l.drop (i + 1)) ++ t) := by
      rw [rd_drop ByteArray.empty l i hlt]; simp only [catB, ba_assoc]
    rw [e]
    refine Ev.step (fun k => ?_) this
    simp only [impl_form.l0]; rw [if_pos (by omega), if_pos (by omega), if_pos (by omega), if_pos (by omega), wsucc hlt hl]
theorem iForm_ev (t : ByteArray) (l : List ByteArray) (hl : l.length ≤ 140737488351232) (hb : 1 + szAll l + t.size ≤ 9223372036854775807) : Ev (fun k => impl_form.f k t l) (formB t l) := by
  have h1 : (headB l.length).size = 1 := by unfold headB; rw [son_size]; rfl
  have := iForm_loop t l hl (l.length - 0) 0 (headB l.length) rfl (by omega) (by rw [h1, List.drop_zero]; exact hb)
  rw [List.drop_zero] at this
  exact Ev.congr (fun k => by unfold impl_form.f; rfl) this
theorem sForm_loop (t : ByteArray) (l : List ByteArray) (hl : l.length ≤ 140737488351232) (n : Nat) : ∀ (i : Nat) (x : List Int), l.length - i = n → i ≤ l.length → x.length + szAll (l.drop i) + t.size < 140737488355328 →
    Ev (fun k => spec_FormThing.l0 k x (i : Int) t l) (strOfNums x ++ (catB (l.drop i) ++ t)) := by
  induction n with
  | zero =>
    intro i x hn hi hb
    rw [List.drop_of_length_le (by omega)] at hb ⊢
    simp only [catB, ba_nil]
    refine Ev.step (f := fun _ => some (strOfNums (x ++ bytesOf t))) (fun k => ?_) (by rw [son_append, son_bytes]; exact Ev.now _)
    simp only [spec_FormThing.l0]; rw [if_neg (by omega), if_pos (by simp [szAll] at hb; omega)]
  | succ n ih =>
    intro i x hn hi hb
    have hlt : i < l.length := by omega
    rw [szAll_drop l i hlt] at hb
    have := ih (i + 1) (x ++ bytesOf (rdOf ByteArray.empty l (i : Int))) (by omega) (by omega) (by rw [List.length_append, bytes_length]; omega)
    have e : strOfNums x ++ (catB (l.drop i) ++ t) = strOfNums (x ++ bytesOf (rdOf ByteArray.empty l (i : Int))) ++ (catB (l.drop (i + 1)) ++ t) := by
      rw [rd_drop ByteArray.empty l i hlt, son_append, son_bytes]; simp only [catB, ba_assoc]
    rw [e]
    refine Ev.step (fun k => ?_) this
    simp only [spec_FormThing.l0]; rw [if_pos (by omega), if_pos (by omega), if_pos (by omega), wsucc hlt hl]
/-- What is valid is small. -/
theorem refs_sizes (w : Int) (l : List ByteArray) (n : Nat) : ∀ i, l.length - i = n → i ≤ l.length → refsFrom w l n i = true → (szAll (l.drop i) : Int) = (n : Int) * w := by
  induction n with
  | zero => intro i hn hi h; rw [List.drop_of_length_le (by omega)]; simp [szAll]
  | succ n ih =>
    intro i hn hi h
    unfold refsFrom at h
    have hlt : i < l.length := by omega
    rw [szAll_drop l i hlt]
    split at h
    · rename_i c1
      have hr : refsFrom w l n (i + 1) = true := by
        split at h
        · split at h
          · exact h
          · cases h
        · exact h
      have := ih (i + 1) (by omega) (by omega) hr
      have e : ((n + 1 : Nat) : Int) * w = w + (n : Int) * w := by rw [Int.natCast_add, Int.add_mul]; omega
      rw [e, Int.natCast_add, this, c1]
    · cases h
theorem thing_small {t : ByteArray} {l : List ByteArray} {w : Int} (h : thingB t l w = true) : szAll l ≤ 240 ∧ t.size ≤ 2000 ∧ l.length ≤ 30 := by
  obtain ⟨h1, h2, h3, h4, h5⟩ := thingB_le h
  have := refs_sizes w l l.length 0 (by omega) (by omega) h5
  rw [List.drop_zero] at this
  have : (l.length : Int) * w ≤ 30 * 8 := Int.mul_le_mul (by omega) h4 (by omega) (by omega)
  omega
def formT (t : ByteArray) (l : List ByteArray) (w : Int) : ByteArray := if thingB t l w = true then formB t l else ⟨#[]⟩
theorem sFormT_ev (t : ByteArray) (l : List ByteArray) (w : Int) (hl : l.length ≤ 140737488351232) : Ev (fun k => spec_FormThing.f k t l w) (formT t l w) := by
  refine Ev.bind (sOk_ev t l w hl) ?_
  unfold formT
  by_cases c : thingB t l w = true
  · have hs := thing_small c
    rw [if_pos c]
    have := sForm_loop t l hl (l.length - 0) 0 [(l.length : Int) % 256] rfl (by omega) (by rw [List.drop_zero]; simp; omega)
    rw [List.drop_zero] at this
    exact Ev.congr (fun k => by rw [if_pos c]; rfl) this
  · rw [if_neg c]
    exact Ev.congr (fun k => by rw [if_neg c]) (Ev.now _)
end Go.Proofs.Ytcijlemojododaa.Q

/- Plain laws of names. -/
namespace Go.Proofs.Ytcijlemojododaa.Q
open Go.RowKit Go.Proofs.Ytcijlemojododaa.P Go.Proofs.YtcijlemojododaaW.PrintWords Go.Proofs.YtcijlemojododaaW.PrintLast Go.Proofs.YtcijlemojododaaW.PrintMore
set_option linter.unusedVariables false

theorem Ev.ite' {α : Type} {c : Prop} [Decidable c] {g f : Nat → Option α} {r : α} (h1 : c → Ev g r) (h2 : ¬ c → Ev f r) : Ev (fun k => if c then g k else f k) r := by
  by_cases h : c
  · exact Ev.congr (fun k => if_pos h) (h1 h)
  · exact Ev.congr (fun k => if_neg h) (h2 h)
theorem Ev.ret {α : Type} {a r : α} (h : a = r) : Ev (fun _ => some a) r := by rw [h]; exact Ev.now r
theorem Ev.pos {α : Type} {c : Prop} [Decidable c] {g f : Nat → Option α} {r : α} (h : c) (e : Ev g r) : Ev (fun k => if c then g k else f k) r := Ev.congr (fun _ => if_pos h) e
theorem Ev.neg {α : Type} {c : Prop} [Decidable c] {g f : Nat → Option α} {r : α} (h : ¬ c) (e : Ev f r) : Ev (fun k => if c then g k else f k) r := Ev.congr (fun _ => if_neg h) e
/-! ### names -/
def nameFrom (s : ByteArray) : Nat → Nat → Bool
  | 0, _ => decide (1 ≤ s.size ∧ s.size ≤ 40)
  | n + 1, i => if bt s (i : Int) < 33 then false else if bt s (i : Int) > 126 then false else nameFrom s n (i + 1)
def nameB (s : ByteArray) : Bool := nameFrom s s.size 0
theorem nameEnd (s : ByteArray) : (if (s.size : Int) ≥ 1 then some (decide ((s.size : Int) ≤ 40)) else some false) = some (decide (1 ≤ s.size ∧ s.size ≤ 40)) := by
  by_cases h : (s.size : Int) ≥ 1
  · rw [if_pos h]; congr 1; rw [Bool.eq_iff_iff, decide_eq_true_eq, decide_eq_true_eq]; omega
  · rw [if_neg h]; congr 1; symm; rw [decide_eq_false_iff_not]; omega
theorem sName_loop (s : ByteArray) (hs : s.size ≤ 140737488351232) (n : Nat) : ∀ (i : Nat), s.size - i = n → i ≤ s.size → Ev (fun k => spec_l3NameOk.l0 k s (i : Int)) (nameFrom s n i) := by
  induction n with
  | zero =>
    intro i hn hi
    refine Ev.step (f := fun _ => some (nameFrom s 0 i)) (fun k => ?_) (Ev.now _)
    simp only [spec_l3NameOk.l0]; rw [if_neg (by omega), nameEnd]; rfl
  | succ n ih =>
    intro i hn hi
    have hlt : i < s.size := by omega
    refine Ev.step (fun k => by simp only [spec_l3NameOk.l0]; rw [if_pos (by omega), if_pos (by omega), wsucc hlt hs]) ?_
    unfold nameFrom
    refine Ev.ite' (fun h => ?_) (fun h => ?_)
    · rw [if_pos h]; exact Ev.now _
    · rw [if_neg h]
      refine Ev.ite' (fun h2 => ?_) (fun h2 => ?_)
      · rw [if_pos h2]; exact Ev.now _
      · rw [if_neg h2]; exact ih (i + 1) (by omega) (by omega)
theorem sName_ev (s : ByteArray) (hs : s.size ≤ 140737488351232) : Ev (fun k => spec_l3NameOk.f k s) (nameB s) :=
  Ev.congr (fun k => by unfold spec_l3NameOk.f; rfl) (sName_loop s hs s.size 0 (by omega) (by omega))
theorem iName_loop (s : ByteArray) (hs : s.size ≤ 140737488351232) (n : Nat) : ∀ (i : Nat), s.size - i = n → i ≤ s.size → Ev (fun k => impl_nameOk.l0 k s (s.size : Int) (i : Int)) (nameFrom s n i) := by
  induction n with
  | zero =>
    intro i hn hi
    refine Ev.step (f := fun _ => some (nameFrom s 0 i)) (fun k => ?_) (Ev.now _)
    simp only [impl_nameOk.l0]; rw [if_neg (by omega), nameEnd]; rfl
  | succ n ih =>
    intro i hn hi
    have hlt : i < s.size := by omega
    refine Ev.step (fun k => by simp only [impl_nameOk.l0]; rw [if_pos (by omega), if_pos (by omega), if_pos (by omega), wsucc hlt hs]) ?_
    unfold nameFrom
    refine Ev.ite' (fun h => ?_) (fun h => ?_)
    · rw [if_pos h]; exact Ev.now _
    · rw [if_neg h]
      refine Ev.ite' (fun h2 => ?_) (fun h2 => ?_)
      · rw [if_pos h2]; exact Ev.now _
      · rw [if_neg h2]; exact ih (i + 1) (by omega) (by omega)
theorem iName_ev (s : ByteArray) (hs : s.size ≤ 140737488351232) : Ev (fun k => impl_nameOk.f k s) (nameB s) :=
  Ev.congr (fun k => by unfold impl_nameOk.f; rfl) (iName_loop s hs s.size 0 (by omega) (by omega))
end Go.Proofs.Ytcijlemojododaa.Q

/- Plain laws of texts in order: bytesLess is an order; the place that halving finds. -/
namespace Go.Proofs.Ytcijlemojododaa.Q
open Go.RowKit Go.Proofs.Ytcijlemojododaa.P Go.Proofs.Ytcijlemojododaa.S Go.Proofs.YtcijlemojododaaW.PrintWords Go.Proofs.YtcijlemojododaaW.PrintLast Go.Proofs.YtcijlemojododaaW.PrintMore
set_option linter.unusedVariables false

theorem bl_irr : ∀ x : List UInt8, Op.bytesLess x x = false
  | [] => rfl
  | a :: x => by
    have h := bl_irr x
    have h2 : ¬ a < a := by rw [UInt8.lt_iff_toNat_lt]; omega
    simp [Op.bytesLess, h, h2]
theorem bl_trans : ∀ x y z : List UInt8, Op.bytesLess x y = true → Op.bytesLess y z = true → Op.bytesLess x z = true
  | _, y, [], _, h => by cases y <;> simp [Op.bytesLess] at h
  | [], _, _ :: _, _, _ => rfl
  | _ :: _, [], _ :: _, h, _ => by simp [Op.bytesLess] at h
  | a :: x, b :: y, c :: z, h1, h2 => by
    have ih := bl_trans x y z
    simp only [Op.bytesLess, Bool.or_eq_true, decide_eq_true_eq, Bool.and_eq_true, beq_iff_eq, UInt8.lt_iff_toNat_lt] at h1 h2 ⊢
    rcases h1 with h1 | ⟨rfl, h1⟩
    · rcases h2 with h2 | ⟨rfl, h2⟩
      · exact Or.inl (by omega)
      · exact Or.inl h1
    · rcases h2 with h2 | ⟨rfl, h2⟩
      · exact Or.inl h2
      · exact Or.inr ⟨rfl, ih h1 h2⟩
/-! ### halving -/
theorem bsr_spec (p : Nat → Bool) (N : Nat) (hm : ∀ i j, i ≤ j → j < N → p i = true → p j = true) : ∀ (k lo hi : Nat), hi - lo ≤ k → lo ≤ hi → hi ≤ N → (∀ i, i < lo → p i = false) → (∀ i, hi ≤ i → i < N → p i = true) →
    bsr p k lo hi ≤ N ∧ (∀ i, i < bsr p k lo hi → p i = false) ∧ (∀ i, bsr p k lo hi ≤ i → i < N → p i = true) := by
  intro k
  induction k with
  | zero =>
    intro lo hi h1 h2 h3 h4 h5
    have : lo = hi := by omega
    subst this
    exact ⟨h3, h4, h5⟩
  | succ k ih =>
    intro lo hi h1 h2 h3 h4 h5
    unfold bsr
    by_cases c : lo < hi
    · rw [if_pos c]
      by_cases c2 : p ((lo + hi) / 2) = true
      · rw [if_pos c2]
        exact ih lo ((lo + hi) / 2) (by omega) (by omega) (by omega) h4 (fun i hi1 hi2 => hm _ i hi1 hi2 c2)
      · rw [if_neg c2]
        refine ih ((lo + hi) / 2 + 1) hi (by omega) (by omega) h3 (fun i hi1 => ?_) h5
        cases hp : p i with
        | false => rfl
        | true => exact absurd (hm i ((lo + hi) / 2) (by omega) (by omega) hp) c2
    · rw [if_neg c]
      have : lo = hi := by omega
      subst this
      exact ⟨h3, h4, h5⟩
abbrev KT := S91
/-- The things stand in order. -/
def srt (T : List KT) : Prop := ∀ i : Nat, 0 < i → i < T.length → Op.bytesLess (rd_T91 T ((i - 1 : Nat) : Int)).f0.toList (rd_T91 T (i : Int)).f0.toList = true
theorem srt_lt {T : List KT} (h : srt T) (i : Nat) : ∀ j, i < j → j < T.length → Op.bytesLess (rd_T91 T (i : Int)).f0.toList (rd_T91 T (j : Int)).f0.toList = true := by
  intro j
  induction j with
  | zero => intro h1; omega
  | succ j ih =>
    intro h1 h2
    have h3 := h (j + 1) (by omega) h2
    rw [Nat.add_sub_cancel] at h3
    by_cases c : i = j
    · rw [c]; exact h3
    · exact bl_trans _ _ _ (ih (by omega) (by omega)) h3
/-- The first place of a sum from i on. -/
def findF (T : List KT) (x : ByteArray) : Nat → Nat → Option Nat
  | 0, _ => none
  | n + 1, i => if (rd_T91 T (i : Int)).f0.toList = x.toList then some i else findF T x n (i + 1)
def findT (T : List KT) (x : ByteArray) : Option Nat := findF T x T.length 0
def findI (T : List KT) (x : ByteArray) : Int := match findT T x with | none => -1 | some i => (i : Int)
theorem findF_none (T : List KT) (x : ByteArray) : ∀ (n i : Nat), (∀ j : Nat, i ≤ j → j < i + n → (rd_T91 T (j : Int)).f0.toList ≠ x.toList) → findF T x n i = none
  | 0, _, _ => rfl
  | n + 1, i, h => by
    unfold findF
    rw [if_neg (h i (by omega) (by omega))]
    exact findF_none T x n (i + 1) (fun j h1 h2 => h j (by omega) (by omega))
theorem findF_some (T : List KT) (x : ByteArray) (r : Nat) (hr : (rd_T91 T (r : Int)).f0.toList = x.toList) : ∀ (n i : Nat), i ≤ r → r < i + n → (∀ j : Nat, i ≤ j → j < r → (rd_T91 T (j : Int)).f0.toList ≠ x.toList) → findF T x n i = some r
  | 0, _, h1, h2, _ => by omega
  | n + 1, i, h1, h2, h3 => by
    unfold findF
    by_cases c : i = r
    · subst c; rw [if_pos hr]
    · rw [if_neg (h3 i (by omega) (by omega))]
      exact findF_some T x r hr n (i + 1) (by omega) (by omega) (fun j h4 h5 => h3 j (by omega) h5)
theorem findF_lt (T : List KT) (x : ByteArray) (r : Nat) : ∀ (n i : Nat), findF T x n i = some r → r < i + n ∧ (rd_T91 T (r : Int)).f0.toList = x.toList
  | 0, _, h => by simp [findF] at h
  | n + 1, i, h => by
    unfold findF at h
    split at h
    · rename_i c; injection h with h; subst h; exact ⟨by omega, c⟩
    · have := findF_lt T x r n (i + 1) h; exact ⟨by omega, this.2⟩
theorem find_lt {T : List KT} {x : ByteArray} {r : Nat} (h : findT T x = some r) : r < T.length := by have := (findF_lt T x r T.length 0 h).1; omega
/-- What halving finds is what going through finds, where the things stand in order. -/
theorem place_spec {T : List KT} (h : srt T) (x : ByteArray) : (thereT T x = true → findT T x = some (placeT T x)) ∧ (thereT T x = false → findT T x = none) := by
  have hm : ∀ i j, i ≤ j → j < T.length → geT T x i = true → geT T x j = true := by
    intro i j h1 h2 h3
    by_cases c : i = j
    · rw [← c]; exact h3
    · unfold geT at h3 ⊢
      cases hb : Op.bytesLess (rd_T91 T (j : Int)).f0.toList x.toList with
      | false => rfl
      | true =>
        have := bl_trans _ _ _ (srt_lt h i j (by omega) h2) hb
        rw [this] at h3
        cases h3
  obtain ⟨h1, h2, h3⟩ := bsr_spec (geT T x) T.length hm T.length 0 T.length (by omega) (by omega) (by omega) (by omega) (by omega)
  have e : bsr (geT T x) T.length 0 T.length = placeT T x := rfl
  rw [e] at h1 h2 h3
  have hne : ∀ j, j < placeT T x → (rd_T91 T (j : Int)).f0.toList ≠ x.toList := by
    intro j hj e
    have := h2 j hj
    unfold geT at this
    rw [e, bl_irr] at this
    cases this
  constructor
  · intro ht
    unfold thereT at ht
    rw [Bool.and_eq_true, decide_eq_true_eq, beq_iff_eq] at ht
    exact findF_some T x _ ht.2 T.length 0 (by omega) (by omega) (fun j _ h4 => hne j h4)
  · intro ht
    refine findF_none T x T.length 0 (fun j _ h4 he => ?_)
    by_cases c : j < placeT T x
    · exact hne j c he
    · by_cases c2 : j = placeT T x
      · unfold thereT at ht
        rw [← c2, he, decide_eq_true (show j < T.length by omega)] at ht
        simp at ht
      · have h5 := srt_lt h (placeT T x) j (by omega) (by omega)
        have h6 := h3 (placeT T x) (by omega) (by omega)
        unfold geT at h6
        rw [he] at h5
        rw [h5] at h6
        cases h6
/-! ### l4Find -/
theorem find_loop (T : List KT) (P : List S82) (L : List S85) (w a b c : Int) (x : ByteArray) (hT : T.length ≤ 140737488351232) (n : Nat) : ∀ i : Nat, T.length - i = n → i ≤ T.length →
    Ev (fun k => spec_l4Find.l0 k x (i : Int) w a b c T P L) (match findF T x n i with | none => -1 | some i => (i : Int)) := by
  induction n with
  | zero =>
    intro i hn hi
    refine Ev.step (f := fun _ => some (-1)) (fun k => ?_) (Ev.now _)
    simp only [spec_l4Find.l0]; rw [if_neg (by omega)]
  | succ n ih =>
    intro i hn hi
    have hlt : i < T.length := by omega
    unfold findF
    by_cases c1 : (rd_T91 T (i : Int)).f0.toList = x.toList
    · rw [if_pos c1]
      refine Ev.step (f := fun _ => some (i : Int)) (fun k => ?_) (Ev.now _)
      simp only [spec_l4Find.l0]; rw [if_pos (by omega), if_pos (by omega), if_pos c1]
    · rw [if_neg c1]
      refine Ev.step (fun k => ?_) (ih (i + 1) (by omega) (by omega))
      simp only [spec_l4Find.l0]; rw [if_pos (by omega), if_pos (by omega), if_neg c1, wsucc hlt hT]
theorem find_ev (T : List KT) (P : List S82) (L : List S85) (w a b c : Int) (x : ByteArray) (hT : T.length ≤ 140737488351232) : Ev (fun k => spec_l4Find.f k w a b c T P L x) (findI T x) :=
  Ev.congr (fun k => by unfold spec_l4Find.f; rfl) (find_loop T P L w a b c x hT T.length 0 (by omega) (by omega))
end Go.Proofs.Ytcijlemojododaa.Q

/- Plain laws of valid states: what the program and the reference come to is one function. -/
namespace Go.Proofs.Ytcijlemojododaa.Q
open Go.RowKit Go.Proofs.Ytcijlemojododaa.P Go.Proofs.Ytcijlemojododaa.S Go.Proofs.YtcijlemojododaaW.PrintWords Go.Proofs.YtcijlemojododaaW.PrintLast Go.Proofs.YtcijlemojododaaW.PrintMore
set_option linter.unusedVariables false

abbrev PT := S82
abbrev LT := S85
abbrev rK (T : List KT) (i : Nat) : KT := rd_T91 T (i : Int)
abbrev rP (T : List PT) (i : Nat) : PT := rd_T82 T (i : Int)
abbrev rL (T : List LT) (i : Nat) : LT := rd_T85 T (i : Int)
def timeB (n : Int) : Bool := decide (0 ≤ n ∧ n ≤ 1000000000)
theorem iTime (n : Int) : impl_timeOk.f n = some (timeB n) := by
  unfold impl_timeOk.f timeB
  by_cases h : n ≥ 0
  · rw [if_pos h]; congr 1; simp; omega
  · rw [if_neg h]; congr 1; simp; omega
theorem sRange (a b c : Int) : spec_l4Range.f a b c = some (decide (b ≤ a ∧ a ≤ c)) := by
  unfold spec_l4Range.f
  by_cases h : a ≥ b
  · rw [if_pos h]; congr 1; simp; omega
  · rw [if_neg h]; congr 1; simp; omega
theorem formB_size (t : ByteArray) (l : List ByteArray) : (formB t l).size = 1 + szAll l + t.size := by
  have h1 : (headB l.length).size = 1 := by unfold headB; rw [son_size]; rfl
  unfold formB
  rw [ByteArray.size_append, ByteArray.size_append, h1, catB_size]
  omega
/-! ### things by themselves -/
/-- A thing's own conditions: its form, its sum, its birth. -/
def conB (w b : Int) (k : KT) : Bool := thingB k.f2.f0 k.f2.f1 w && (decide (k.f0.toList = (sumB (formB k.f2.f0 k.f2.f1) w).toList) && decide (1 ≤ k.f1 ∧ k.f1 ≤ b))
def tFrom (w b : Int) (T : List KT) : Nat → Nat → List Int → Bool
  | 0, _, _ => true
  | n + 1, i, ks => if (if 0 < i then Op.bytesLess (rK T (i - 1)).f0.toList (rK T i).f0.toList else true) = true then (if conB w b (rK T i) = true then (if ks.contains (rK T i).f1 = true then false else tFrom w b T n (i + 1) (ins (rK T i).f1 ks)) else false) else false
theorem iT_tail (J : Nat → Bool → Option Bool) (X ct : Bool) (h1 : Ev (fun k => J k true) false) (w b : Int) (x : KT) (hl : x.f2.f1.length ≤ 140737488351232) (h2 : conB w b x = true → ct = false → Ev (fun k => J k false) X) :
    Ev (fun k => (impl_thingOk.f k x.f2.f0 x.f2.f1 w).bind fun t1 => (if t1 = true then ((impl_form.f k x.f2.f0 x.f2.f1).bind fun t2 => ((impl_Sum.f k t2 w).bind fun t3 => (if x.f0.toList = t3.toList then (if x.f1 < 1 then J k true else (if x.f1 > b then J k true else J k ct)) else J k true))) else J k true))
      (if conB w b x = true then (if ct = true then false else X) else false) := by
  have hF : conB w b x = false → Ev (fun k => J k true) (if conB w b x = true then (if ct = true then false else X) else false) := fun h => by rw [h]; exact h1
  refine Ev.bind (iOk_ev _ _ w hl) ?_
  refine Ev.ite' (fun c => ?_) (fun c => hF (by unfold conB; rw [Bool.eq_false_iff.2 c, Bool.false_and]))
  have hs := thing_small c
  refine Ev.bind (iForm_ev _ _ hl (by omega)) ?_
  refine Ev.bind (iSum_ev _ w (by rw [formB_size]; omega)) ?_
  refine Ev.ite' (fun c2 => ?_) (fun c2 => hF (by unfold conB; rw [decide_eq_false c2, Bool.false_and, Bool.and_false]))
  refine Ev.ite' (fun c3 => hF (by unfold conB; rw [decide_eq_false (show ¬ (1 ≤ x.f1 ∧ x.f1 ≤ b) by omega), Bool.and_false, Bool.and_false])) (fun c3 => ?_)
  refine Ev.ite' (fun c4 => hF (by unfold conB; rw [decide_eq_false (show ¬ (1 ≤ x.f1 ∧ x.f1 ≤ b) by omega), Bool.and_false, Bool.and_false])) (fun c4 => ?_)
  have hc : conB w b x = true := by unfold conB; rw [c, decide_eq_true c2, decide_eq_true (show 1 ≤ x.f1 ∧ x.f1 ≤ b by omega)]; rfl
  rw [if_pos hc]
  cases ct with
  | true => exact h1
  | false => exact h2 hc rfl
theorem tEq (c A D Y C : Bool) : (if (if c = true then (if A = true then (if D = true then false else Y) else false) else false) = true then C else false) = (if c = true then (if A = true then (if D = true then false else (if Y = true then C else false)) else false) else false) := by
  cases c <;> cases A <;> cases D <;> simp
theorem iT_loop (T : List KT) (P : List PT) (L : List LT) (w nw g b : Int) (C : Bool) (hT : T.length ≤ 600) (hr : ∀ i, i < T.length → (rK T i).f2.f1.length ≤ 140737488351232) (n : Nat) : ∀ (i : Nat) (ks : List Int), T.length - i = n → i ≤ T.length →
    (tFrom w b T n i ks = true → Ev (fun k => impl_ValidState.l1 k T (T.length : Int) 0 w nw g b T P L) C) →
    Ev (fun k => impl_ValidState.l0 k T (T.length : Int) (i : Int) w nw g b T P L ks) (if tFrom w b T n i ks = true then C else false) := by
  induction n with
  | zero =>
    intro i ks hn hi hC
    have e : (if tFrom w b T 0 i ks = true then C else false) = C := if_pos rfl
    rw [e]
    refine Ev.step (fun k => ?_) (hC rfl)
    simp only [impl_ValidState.l0]; rw [if_neg (by omega)]
  | succ n ih =>
    intro i ks hn hi hC
    have hlt : i < T.length := by omega
    have hj1 : Ev (fun k => impl_ValidState.j2 k T (T.length : Int) (i : Int) true w nw g b T P L ks) false := by
      refine Ev.step (f := fun _ => some false) (fun k => ?_) (Ev.now _)
      simp only [impl_ValidState.j2, if_true]
    have hj2 : (if 0 < i then Op.bytesLess (rK T (i - 1)).f0.toList (rK T i).f0.toList else true) = true → conB w b (rK T i) = true → ks.contains (rK T i).f1 = false →
        Ev (fun k => impl_ValidState.j2 k T (T.length : Int) (i : Int) false w nw g b T P L ks) (if tFrom w b T n (i + 1) (ins (rK T i).f1 ks) = true then C else false) := fun a1 a2 a3 => by
      refine Ev.step (fun k => ?_) (ih (i + 1) (ins (rK T i).f1 ks) (by omega) (by omega) (fun h => hC (by unfold tFrom; rw [if_pos a1, if_pos a2, a3]; exact h)))
      simp only [impl_ValidState.j2]; rw [if_neg (by decide), wsucc hlt (by omega)]
    unfold tFrom
    rw [tEq]
    by_cases c2 : 0 < i
    · rw [if_pos c2] at hj2 ⊢
      refine Ev.step (fun k => by simp only [impl_ValidState.l0]; rw [if_pos (by omega), if_pos (by omega), if_pos (by omega), if_pos (by omega), wpred c2 (by omega), if_pos (by omega), if_pos (by omega)]) ?_
      refine Ev.ite' (fun c3 => ?_) (fun c3 => by rw [if_neg c3]; exact hj1)
      rw [if_pos c3]
      exact iT_tail (fun k c => impl_ValidState.j2 k T (T.length : Int) (i : Int) c w nw g b T P L ks) _ _ hj1 w b (rK T i) (hr i hlt) (hj2 c3)
    · rw [if_neg c2] at hj2 ⊢
      rw [if_pos rfl]
      refine Ev.step (fun k => by simp only [impl_ValidState.l0]; rw [if_pos (by omega), if_pos (by omega), if_pos (by omega), if_neg (by omega)]) ?_
      exact iT_tail (fun k c => impl_ValidState.j2 k T (T.length : Int) (i : Int) c w nw g b T P L ks) _ _ hj1 w b (rK T i) (hr i hlt) (hj2 rfl)
/-- Where the things hold, they stand in order. -/
theorem tFrom_srt (w b : Int) (T : List KT) : ∀ (n i : Nat) (ks : List Int), tFrom w b T n i ks = true → ∀ j, i ≤ j → j < i + n → 0 < j → Op.bytesLess (rK T (j - 1)).f0.toList (rK T j).f0.toList = true
  | 0, _, _, _, j, h1, h2, _ => by omega
  | n + 1, i, ks, h, j, h1, h2, h3 => by
    unfold tFrom at h
    by_cases a1 : (if 0 < i then Op.bytesLess (rK T (i - 1)).f0.toList (rK T i).f0.toList else true) = true
    · rw [if_pos a1] at h
      by_cases a2 : conB w b (rK T i) = true
      · rw [if_pos a2] at h
        by_cases a3 : ks.contains (rK T i).f1 = true
        · rw [if_pos a3] at h; cases h
        · rw [if_neg a3] at h
          by_cases e : j = i
          · subst e; rw [if_pos h3] at a1; exact a1
          · exact tFrom_srt w b T n (i + 1) _ h j (by omega) (by omega) h3
      · rw [if_neg a2] at h; cases h
    · rw [if_neg a1] at h; cases h
theorem srt_of {w b : Int} {T : List KT} (h : tFrom w b T T.length 0 [] = true) : srt T := fun i h1 h2 => tFrom_srt w b T T.length 0 [] h i (by omega) (by omega) h1
/-! ### references -/
def refsB (T : List KT) (b0 : Int) (l : List ByteArray) : Nat → Nat → Bool
  | 0, _ => true
  | n + 1, j => match findT T (rdOf ByteArray.empty l (j : Int)) with
    | none => false
    | some a => if (rK T a).f1 ≥ b0 then false else refsB T b0 l n (j + 1)
def allR (T : List KT) : Nat → Nat → Bool
  | 0, _ => true
  | n + 1, i => if refsB T (rK T i).f1 (rK T i).f2.f1 (rK T i).f2.f1.length 0 = true then allR T n (i + 1) else false
theorem thing_some (T : List KT) (x : ByteArray) (hT : T.length ≤ 600) : impl_State_thing.f T x = some ((placeT T x : Int), thereT T x) := by unfold impl_State_thing.f; rw [if_pos (by omega)]
theorem there_none {T : List KT} {x : ByteArray} (hs : srt T) (h : findT T x = none) : thereT T x = false := by
  cases ht : thereT T x with
  | false => rfl
  | true => have := (place_spec hs x).1 ht; rw [h] at this; cases this
theorem there_some {T : List KT} {x : ByteArray} {a : Nat} (hs : srt T) (h : findT T x = some a) : thereT T x = true ∧ placeT T x = a := by
  cases ht : thereT T x with
  | false => have := (place_spec hs x).2 ht; rw [h] at this; cases this
  | true => have := (place_spec hs x).1 ht; rw [h] at this; injection this with e; exact ⟨rfl, e.symm⟩
theorem iR_in (T : List KT) (P : List PT) (L : List LT) (w nw g b : Int) (C : Bool) (hT : T.length ≤ 600) (hs : srt T) (i : Nat) (l : List ByteArray) (hl : l.length ≤ 140737488351232) (f0 f2 : ByteArray) (b0 : Int)
    (hC : Ev (fun k => impl_ValidState.l1 k T (T.length : Int) (wrap64 ((i : Int) + 1)) w nw g b T P L) C) (n : Nat) : ∀ j : Nat, l.length - j = n → j ≤ l.length →
    Ev (fun k => impl_ValidState.l2 k T (T.length : Int) (i : Int) l (l.length : Int) (j : Int) w nw g b T P L f0 b0 f2 l) (if refsB T b0 l n j = true then C else false) := by
  induction n with
  | zero =>
    intro j hn hj
    have e : (if refsB T b0 l 0 j = true then C else false) = C := if_pos rfl
    rw [e]
    refine Ev.step (fun k => ?_) hC
    simp only [impl_ValidState.l2]; rw [if_neg (by omega)]
  | succ n ih =>
    intro j hn hj
    have hlt : j < l.length := by omega
    refine Ev.step (fun k => by simp only [impl_ValidState.l2]; rw [if_pos (by omega), if_pos (by omega), if_pos (by omega), thing_some T _ hT, Option.bind_some, wsucc hlt hl]) ?_
    cases hf : findT T (rdOf ByteArray.empty l (j : Int)) with
    | none =>
      have e : refsB T b0 l (n + 1) j = false := by conv => lhs; unfold refsB; rw [hf]
      rw [e]
      have ht := there_none hs hf
      refine Ev.neg (by show ¬ thereT T _ = true; rw [ht]; decide) ?_
      exact Ev.now _
    | some a =>
      have e : refsB T b0 l (n + 1) j = (if (rK T a).f1 ≥ b0 then false else refsB T b0 l n (j + 1)) := by conv => lhs; unfold refsB; rw [hf]
      rw [e]
      obtain ⟨ht, hp⟩ := there_some hs hf
      have ha := find_lt hf
      refine Ev.pos ht (Ev.pos (by show 0 ≤ ((placeT T _ : Nat) : Int); omega) (Ev.pos (by show ((placeT T _ : Nat) : Int) < _; rw [hp]; omega) ?_))
      simp only [hp]
      refine Ev.ite' (fun c => ?_) (fun c => ?_)
      · rw [if_pos c]; exact Ev.now _
      · rw [if_neg c]; exact ih (j + 1) (by omega) (by omega)
theorem iR_out (T : List KT) (P : List PT) (L : List LT) (w nw g b : Int) (C : Bool) (hT : T.length ≤ 600) (hr : ∀ i, i < T.length → (rK T i).f2.f1.length ≤ 140737488351232) (hs : srt T)
    (hC : Ev (fun k => impl_ValidState.l3 k T P (P.length : Int) 0 w nw g b T P L) C) (n : Nat) : ∀ i : Nat, T.length - i = n → i ≤ T.length →
    Ev (fun k => impl_ValidState.l1 k T (T.length : Int) (i : Int) w nw g b T P L) (if allR T n i = true then C else false) := by
  induction n with
  | zero =>
    intro i hn hi
    have e : (if allR T 0 i = true then C else false) = C := if_pos rfl
    rw [e]
    refine Ev.step (fun k => ?_) hC
    simp only [impl_ValidState.l1]; rw [if_neg (by omega)]
  | succ n ih =>
    intro i hn hi
    have hlt : i < T.length := by omega
    have h1 := ih (i + 1) (by omega) (by omega)
    have h2 := iR_in T P L w nw g b (if allR T n (i + 1) = true then C else false) hT hs i (rK T i).f2.f1 (hr i hlt) (rK T i).f0 (rK T i).f2.f0 (rK T i).f1 (by rw [wsucc hlt (by omega)]; exact h1) (rK T i).f2.f1.length 0 (by omega) (by omega)
    have e : (if allR T (n + 1) i = true then C else false) = (if refsB T (rK T i).f1 (rK T i).f2.f1 (rK T i).f2.f1.length 0 = true then (if allR T n (i + 1) = true then C else false) else false) := by
      conv => lhs; unfold allR
      cases refsB T (rK T i).f1 (rK T i).f2.f1 (rK T i).f2.f1.length 0 <;> simp
    rw [e]
    refine Ev.step (fun k => ?_) h2
    simp only [impl_ValidState.l1]; rw [if_pos (by omega), if_pos (by omega), if_pos (by omega)]; rfl
/-! ### pins and leases -/
def pinsB (T : List KT) (P : List PT) : Nat → Nat → Bool
  | 0, _ => true
  | n + 1, i => if (nameB (rP P i).f0 && ((if 0 < i then Op.bytesLess (rP P (i - 1)).f0.toList (rP P i).f0.toList else true) && (findT T (rP P i).f1).isSome)) = true then pinsB T P n (i + 1) else false
def leasesB (T : List KT) (L : List LT) (nw g : Int) : Nat → Nat → Bool
  | 0, _ => true
  | n + 1, i => if (decide (1 ≤ (rL L i).f0 ∧ (rL L i).f0 ≤ g) && ((if 0 < i then decide ((rL L (i - 1)).f0 < (rL L i).f0) else true) && ((findT T (rL L i).f1).isSome && decide (nw < (rL L i).f2 ∧ (rL L i).f2 ≤ wrap64 (nw + 100000))))) = true then leasesB T L nw g n (i + 1) else false
theorem there_is {T : List KT} (hs : srt T) (x : ByteArray) : thereT T x = (findT T x).isSome := by
  cases hf : findT T x with
  | none => rw [there_none hs hf]; rfl
  | some a => rw [(there_some hs hf).1]; rfl
theorem iP_loop (T : List KT) (P : List PT) (L : List LT) (w nw g b : Int) (C : Bool) (hT : T.length ≤ 600) (hP : P.length ≤ 100) (hn0 : ∀ i, i < P.length → (rP P i).f0.size ≤ 140737488351232) (hs : srt T)
    (hC : Ev (fun k => impl_ValidState.l4 k T L (L.length : Int) 0 w nw g b T P L) C) (n : Nat) : ∀ i : Nat, P.length - i = n → i ≤ P.length →
    Ev (fun k => impl_ValidState.l3 k T P (P.length : Int) (i : Int) w nw g b T P L) (if pinsB T P n i = true then C else false) := by
  induction n with
  | zero =>
    intro i hn hi
    have e : (if pinsB T P 0 i = true then C else false) = C := if_pos rfl
    rw [e]
    refine Ev.step (fun k => ?_) hC
    simp only [impl_ValidState.l3]; rw [if_neg (by omega)]
  | succ n ih =>
    intro i hn hi
    have hlt : i < P.length := by omega
    have h1 := ih (i + 1) (by omega) (by omega)
    have hj1 : Ev (fun k => impl_ValidState.j6 k T P (P.length : Int) (i : Int) true w nw g b T P L) false := by
      refine Ev.step (f := fun _ => some false) (fun k => ?_) (Ev.now _)
      simp only [impl_ValidState.j6, if_true]
    have hj2 : Ev (fun k => impl_ValidState.j6 k T P (P.length : Int) (i : Int) false w nw g b T P L) (if pinsB T P n (i + 1) = true then C else false) := by
      refine Ev.step (fun k => ?_) h1
      simp only [impl_ValidState.j6]; rw [if_neg (by decide), wsucc hlt (by omega)]
    refine Ev.step (fun k => by simp only [impl_ValidState.l3]; rw [if_pos (by omega), if_pos (by omega), if_pos (by omega), thing_some T _ hT, Option.bind_some]) ?_
    unfold pinsB
    rw [← there_is hs]
    refine Ev.ite' (fun c1 => ?_) (fun c1 => ?_)
    · have c1' : thereT T (rP P i).f1 = true := c1
      refine Ev.bind (iName_ev _ (hn0 i hlt)) ?_
      refine Ev.ite' (fun c2 => ?_) (fun c2 => ?_)
      · have c2' : nameB (rP P i).f0 = true := c2
        by_cases c3 : 0 < i
        · refine Ev.congr (fun k => by rw [if_pos (by omega), wpred c3 (by omega), if_pos (by omega), if_pos (by omega)]) ?_
          cases c4 : Op.bytesLess (rP P (i - 1)).f0.toList (rP P i).f0.toList with
          | true =>
            rw [if_pos c3, c1', c2']
            exact hj2
          | false =>
            rw [if_pos c3, Bool.false_and, Bool.and_false]
            exact hj1
        · refine Ev.congr (fun k => by rw [if_neg (by omega)]) ?_
          rw [if_neg c3, c1', c2']; exact hj2
      · have c2' : nameB (rP P i).f0 = false := Bool.eq_false_iff.2 c2
        rw [c2', Bool.false_and]; exact hj1
    · have c1' : thereT T (rP P i).f1 = false := Bool.eq_false_iff.2 c1
      rw [c1', Bool.and_false, Bool.and_false]; exact hj1
theorem iL_loop (T : List KT) (P : List PT) (L : List LT) (w nw g b : Int) (hT : T.length ≤ 600) (hL : L.length ≤ 200) (hs : srt T) (n : Nat) : ∀ i : Nat, L.length - i = n → i ≤ L.length →
    Ev (fun k => impl_ValidState.l4 k T L (L.length : Int) (i : Int) w nw g b T P L) (leasesB T L nw g n i) := by
  induction n with
  | zero =>
    intro i hn hi
    refine Ev.step (f := fun _ => some true) (fun k => ?_) (Ev.now _)
    simp only [impl_ValidState.l4]; rw [if_neg (by omega)]
  | succ n ih =>
    intro i hn hi
    have hlt : i < L.length := by omega
    have h1 := ih (i + 1) (by omega) (by omega)
    have hj1 : Ev (fun k => impl_ValidState.j8 k T L (L.length : Int) (i : Int) true w nw g b T P L) false := by
      refine Ev.step (f := fun _ => some false) (fun k => ?_) (Ev.now _)
      simp only [impl_ValidState.j8, if_true]
    have hj : ∀ c : Bool, Ev (fun k => impl_ValidState.j8 k T L (L.length : Int) (i : Int) c w nw g b T P L) (if c = true then false else leasesB T L nw g n (i + 1)) := fun c => by
      cases c with
      | true => exact hj1
      | false =>
        refine Ev.step (fun k => ?_) h1
        simp only [impl_ValidState.j8]; rw [if_neg (by decide), wsucc hlt (by omega)]
    refine Ev.step (fun k => by simp only [impl_ValidState.l4]; rw [if_pos (by omega), if_pos (by omega), if_pos (by omega), thing_some T _ hT, Option.bind_some]) ?_
    unfold leasesB
    rw [← there_is hs]
    have hE : Ev (fun k => if (rL L i).f2 ≤ nw then (impl_ValidState.j8 k T L (L.length : Int) (i : Int) true w nw g b T P L) else (impl_ValidState.j8 k T L (L.length : Int) (i : Int) (decide ((rL L i).f2 > (wrap64 (nw + 100000)))) w nw g b T P L)) (if decide (nw < (rL L i).f2 ∧ (rL L i).f2 ≤ wrap64 (nw + 100000)) = true then leasesB T L nw g n (i + 1) else false) := by
      refine Ev.ite' (fun c => ?_) (fun c => ?_)
      · rw [decide_eq_false (show ¬ (nw < (rL L i).f2 ∧ (rL L i).f2 ≤ wrap64 (nw + 100000)) by omega)]; exact hj1
      · have := hj (decide ((rL L i).f2 > (wrap64 (nw + 100000))))
        by_cases c2 : (rL L i).f2 > (wrap64 (nw + 100000))
        · rw [decide_eq_true c2] at this ⊢
          rw [decide_eq_false (show ¬ (nw < (rL L i).f2 ∧ (rL L i).f2 ≤ wrap64 (nw + 100000)) by omega)]; exact this
        · rw [decide_eq_false c2] at this ⊢
          rw [decide_eq_true (show (nw < (rL L i).f2 ∧ (rL L i).f2 ≤ wrap64 (nw + 100000)) by omega)]; exact this
    refine Ev.ite' (fun c1 => ?_) (fun c1 => ?_)
    · have c1' : thereT T (rL L i).f1 = true := c1
      rw [c1', Bool.true_and]
      refine Ev.ite' (fun c2 => ?_) (fun c2 => ?_)
      · rw [decide_eq_false (show ¬ (1 ≤ (rL L i).f0 ∧ (rL L i).f0 ≤ g) by have : (rL L i).f0 < 1 := c2; omega), Bool.false_and]; exact hj1
      · refine Ev.ite' (fun c3 => ?_) (fun c3 => ?_)
        · rw [decide_eq_false (show ¬ (1 ≤ (rL L i).f0 ∧ (rL L i).f0 ≤ g) by have : (rL L i).f0 > g := c3; omega), Bool.false_and]; exact hj1
        · rw [decide_eq_true (show (1 ≤ (rL L i).f0 ∧ (rL L i).f0 ≤ g) by have a1 : ¬ (rL L i).f0 < 1 := c2; have a2 : ¬ (rL L i).f0 > g := c3; omega), Bool.true_and]
          by_cases c4 : 0 < i
          · refine Ev.congr (fun k => by rw [if_pos (by omega), wpred c4 (by omega), if_pos (by omega), if_pos (by omega)]) ?_
            rw [if_pos c4]
            refine Ev.ite' (fun c5 => ?_) (fun c5 => ?_)
            · rw [decide_eq_false (show ¬ ((rL L (i - 1)).f0 < (rL L i).f0) by have : (rL L (i - 1)).f0 ≥ (rL L i).f0 := c5; omega), Bool.false_and]; exact hj1
            · rw [decide_eq_true (show ((rL L (i - 1)).f0 < (rL L i).f0) by have : ¬ (rL L (i - 1)).f0 ≥ (rL L i).f0 := c5; omega), Bool.true_and]; exact hE
          · refine Ev.congr (fun k => by rw [if_neg (by omega)]) ?_
            rw [if_neg c4, Bool.true_and]; exact hE
    · have c1' : thereT T (rL L i).f1 = false := Bool.eq_false_iff.2 c1
      rw [c1', Bool.false_and, Bool.and_false, Bool.and_false]
      exact hj1
/-! ### the state -/
def stB (w nw g b : Int) (T : List KT) (P : List PT) (L : List LT) : Bool :=
  if widB w = true then (if timeB nw = true then (if timeB g = true then (if timeB b = true then (if T.length ≤ 600 ∧ P.length ≤ 100 ∧ L.length ≤ 200 then
    (if tFrom w b T T.length 0 [] = true then (if allR T T.length 0 = true then (if pinsB T P P.length 0 = true then leasesB T L nw g L.length 0 else false) else false) else false) else false) else false) else false) else false) else false
theorem iVS_ev (w nw g b : Int) (T : List KT) (P : List PT) (L : List LT) (hr : ∀ i, i < T.length → (rK T i).f2.f1.length ≤ 140737488351232) (hn0 : ∀ i, i < P.length → (rP P i).f0.size ≤ 140737488351232) :
    Ev (fun k => impl_ValidState.f k w nw g b T P L) (stB w nw g b T P L) := by
  have hj : Ev (fun k => impl_ValidState.j0 k true w nw g b T P L) false := by
    refine Ev.step (f := fun _ => some false) (fun k => ?_) (Ev.now _)
    simp only [impl_ValidState.j0, if_true]
  refine Ev.congr (fun k => by unfold impl_ValidState.f; rw [wOk, Option.bind_some, iTime, iTime, iTime]) ?_
  unfold stB
  refine Ev.ite' (fun c => ?_) (fun c => by rw [if_neg c]; exact hj)
  rw [if_pos c]
  refine Ev.ite' (fun c => ?_) (fun c => by rw [if_neg c]; exact hj)
  rw [if_pos c]
  refine Ev.ite' (fun c => ?_) (fun c => by rw [if_neg c]; exact hj)
  rw [if_pos c]
  refine Ev.ite' (fun c => ?_) (fun c => by rw [if_neg c]; exact hj)
  rw [if_pos c]
  refine Ev.ite' (fun c => by rw [if_neg (by omega)]; exact hj) (fun c1 => ?_)
  refine Ev.ite' (fun c => by rw [if_neg (by omega)]; exact hj) (fun c2 => ?_)
  by_cases c3 : (L.length : Int) > 200
  · rw [if_neg (by omega)]
    refine Ev.congr (fun k => by rw [decide_eq_true c3]) hj
  · rw [if_pos (by omega)]
    refine Ev.congr (fun k => by rw [decide_eq_false c3]) ?_
    refine Ev.step (fun k => by simp only [impl_ValidState.j0]; rw [if_neg (by decide)]) ?_
    refine iT_loop T P L w nw g b _ (by omega) hr T.length 0 [] (by omega) (by omega) (fun h => ?_)
    have hs := srt_of h
    refine iR_out T P L w nw g b _ (by omega) hr hs ?_ T.length 0 (by omega) (by omega)
    refine iP_loop T P L w nw g b _ (by omega) (by omega) hn0 hs ?_ P.length 0 (by omega) (by omega)
    exact iL_loop T P L w nw g b (by omega) (by omega) hs L.length 0 (by omega) (by omega)
end Go.Proofs.Ytcijlemojododaa.Q

/- Plain laws of valid states: the reference comes to the same function. -/
namespace Go.Proofs.Ytcijlemojododaa.Q
open Go.RowKit Go.Proofs.Ytcijlemojododaa.P Go.Proofs.Ytcijlemojododaa.S Go.Proofs.YtcijlemojododaaW.PrintWords Go.Proofs.YtcijlemojododaaW.PrintLast Go.Proofs.YtcijlemojododaaW.PrintMore
set_option linter.unusedVariables false

/-! ### things by themselves, births -/
theorem sT_tail (J : Nat → Bool → Option Bool) (G : Nat → Option Bool) (Y : Bool) (h1 : Ev (fun k => J k true) false) (w : Int) (x : KT) (hl : x.f2.f1.length ≤ 140737488351232)
    (h2 : thingB x.f2.f0 x.f2.f1 w = true → x.f0.toList = (sumB (formB x.f2.f0 x.f2.f1) w).toList → Ev G Y) :
    Ev (fun k => (spec_l1ThingOk.f k x.f2.f0 x.f2.f1 w).bind fun t1 => (if t1 = true then ((spec_FormThing.f k x.f2.f0 x.f2.f1 w).bind fun t2 => ((spec_Sum.f k t2 w).bind fun t3 => (if x.f0.toList = t3.toList then G k else J k true))) else J k true))
      (if (thingB x.f2.f0 x.f2.f1 w && decide (x.f0.toList = (sumB (formB x.f2.f0 x.f2.f1) w).toList)) = true then Y else false) := by
  refine Ev.bind (sOk_ev _ _ w hl) ?_
  refine Ev.ite' (fun c => ?_) (fun c => by rw [Bool.eq_false_iff.2 c, Bool.false_and]; exact h1)
  have hs := thing_small c
  refine Ev.bind (sFormT_ev _ _ w hl) ?_
  have ef : formT x.f2.f0 x.f2.f1 w = formB x.f2.f0 x.f2.f1 := by unfold formT; rw [if_pos c]
  rw [ef]
  refine Ev.bind (sSum_ev _ w (by rw [formB_size]; omega)) ?_
  refine Ev.ite' (fun c2 => ?_) (fun c2 => by rw [decide_eq_false c2, Bool.and_false]; exact h1)
  rw [c, decide_eq_true c2]
  exact h2 c c2
/-- What the row of bools and the row of births know: the births that have been. -/
def births (x3 : List Bool) (x4 ks : List Int) (i : Nat) : Prop := x3.length = 601 ∧ (∀ v : Int, 1 ≤ v → v ≤ 600 → rdOf false x3 v = ks.contains v) ∧ (∀ v : Int, 600 < v → x4.contains v = ks.contains v) ∧ x4.length ≤ i
theorem ins_new {x : Int} {ks : List Int} (h : ks.contains x = false) : ins x ks = x :: ks := by unfold ins; rw [h]; rfl
theorem births_row {x3 : List Bool} {x4 ks : List Int} {i : Nat} (h : births x3 x4 ks i) {x : Int} (h1 : 1 ≤ x) (h2 : x ≤ 600) (hc : ks.contains x = false) : births (x3.set x.toNat true) x4 (ins x ks) (i + 1) := by
  obtain ⟨a1, a2, a3, a4⟩ := h
  refine ⟨by rw [List.length_set]; exact a1, fun v v1 v2 => ?_, fun v v1 => ?_, by omega⟩
  · rw [ins_new hc, List.contains_cons]
    by_cases e : v = x
    · subst e
      unfold rdOf
      rw [List.getD_eq_getElem?_getD, List.getElem?_set_self (by omega)]
      simp
    · have := a2 v v1 v2
      unfold rdOf at this ⊢
      rw [List.getD_eq_getElem?_getD] at this ⊢
      rw [List.getElem?_set_ne (by omega), this, beq_false_of_ne e, Bool.false_or]
  · rw [ins_new hc, List.contains_cons, a3 v v1, beq_false_of_ne (by omega), Bool.false_or]
theorem births_app {x3 : List Bool} {x4 ks : List Int} {i : Nat} (h : births x3 x4 ks i) {x : Int} (h2 : 600 < x) (hc : ks.contains x = false) : births x3 (x4 ++ [x]) (ins x ks) (i + 1) := by
  obtain ⟨a1, a2, a3, a4⟩ := h
  refine ⟨a1, fun v v1 v2 => ?_, fun v v1 => ?_, by simp; omega⟩
  · rw [ins_new hc, List.contains_cons, a2 v v1 v2, beq_false_of_ne (by omega), Bool.false_or]
  · rw [ins_new hc, List.contains_cons, List.contains_append, a3 v v1, List.contains_cons, List.contains_nil, Bool.or_false, Bool.or_comm]
theorem sB_loop (T : List KT) (P : List PT) (L : List LT) (w nw g b : Int) (i : Nat) (x3 : List Bool) (x4 : List Int) (h4 : x4.length ≤ 1000) (x : KT) (X : Bool)
    (hX : x4.contains x.f1 = false → Ev (fun k => spec_l4ThingsOk.l0 k x3 (x4 ++ [x.f1]) (wrap64 ((i : Int) + 1)) w nw g b T P L) X) (n : Nat) : ∀ j : Nat, x4.length - j = n → j ≤ x4.length → ((x4.drop j).contains x.f1 = false → x4.contains x.f1 = false) →
    Ev (fun k => spec_l4ThingsOk.l1 k x3 x4 (i : Int) (j : Int) w nw g b T P L x.f0 x.f1 x.f2.f0 x.f2.f1) (if (x4.drop j).contains x.f1 = true then false else X) := by
  induction n with
  | zero =>
    intro j hn hj hd
    have e : x4.drop j = [] := List.drop_eq_nil_of_le (by omega)
    rw [e] at hd ⊢
    refine Ev.step (fun k => ?_) (hX (hd rfl))
    simp only [spec_l4ThingsOk.l1]; rw [if_neg (by omega), if_pos (by omega)]
  | succ n ih =>
    intro j hn hj hd
    have hlt : j < x4.length := by omega
    have e : x4.drop j = rd x4 (j : Int) :: x4.drop (j + 1) := rd_drop 0 x4 j hlt
    rw [e, List.contains_cons] at hd ⊢
    refine Ev.step (fun k => by simp only [spec_l4ThingsOk.l1]; rw [if_pos (by omega), if_pos (by omega), wsucc hlt (by omega)]) ?_
    refine Ev.ite' (fun c => ?_) (fun c => ?_)
    · rw [c]
      rw [show (x.f1 == x.f1) = true from beq_self_eq_true _, Bool.true_or]
      exact Ev.now _
    · have e2 : (x.f1 == rd x4 (j : Int)) = false := beq_false_of_ne (Ne.symm c)
      rw [e2, Bool.false_or] at hd ⊢
      exact ih (j + 1) (by omega) (by omega) hd
theorem sT_loop (T : List KT) (P : List PT) (L : List LT) (w nw g b : Int) (C : Bool) (hT : T.length ≤ 600) (hr : ∀ i, i < T.length → (rK T i).f2.f1.length ≤ 140737488351232)
    (hC : Ev (fun k => spec_l4ThingsOk.l2 k 0 w nw g b T P L) C) (n : Nat) : ∀ (i : Nat) (ks : List Int) (x3 : List Bool) (x4 : List Int), T.length - i = n → i ≤ T.length → births x3 x4 ks i →
    Ev (fun k => spec_l4ThingsOk.l0 k x3 x4 (i : Int) w nw g b T P L) (if tFrom w b T n i ks = true then C else false) := by
  induction n with
  | zero =>
    intro i ks x3 x4 hn hi hb
    have e : (if tFrom w b T 0 i ks = true then C else false) = C := if_pos rfl
    rw [e]
    refine Ev.step (fun k => ?_) hC
    simp only [spec_l4ThingsOk.l0]; rw [if_neg (by omega)]
  | succ n ih =>
    intro i ks x3 x4 hn hi hb
    have hlt : i < T.length := by omega
    have hj1 : Ev (fun k => spec_l4ThingsOk.j1 k x3 x4 (i : Int) true w nw g b T P L (rK T i).f0 (rK T i).f1 (rK T i).f2.f0 (rK T i).f2.f1) false := by
      refine Ev.step (f := fun _ => some false) (fun k => ?_) (Ev.now _)
      simp only [spec_l4ThingsOk.j1, if_true]
    have hj2 : 1 ≤ (rK T i).f1 → Ev (fun k => spec_l4ThingsOk.j1 k x3 x4 (i : Int) false w nw g b T P L (rK T i).f0 (rK T i).f1 (rK T i).f2.f0 (rK T i).f2.f1) (if ks.contains (rK T i).f1 = true then false else (if tFrom w b T n (i + 1) (ins (rK T i).f1 ks) = true then C else false)) := fun h1 => by
      by_cases c : (rK T i).f1 ≤ 600
      · have hb2 := hb.2.1 (rK T i).f1 h1 c
        have hl3 := hb.1
        refine Ev.step (fun k => by simp only [spec_l4ThingsOk.j1]; rw [if_neg (by decide), if_pos c, if_pos (by omega), if_pos (by omega), hb2, wsucc hlt (by omega)]) ?_
        refine Ev.ite' (fun c2 => ?_) (fun c2 => ?_)
        · rw [if_pos c2]; exact Ev.now _
        · rw [if_neg c2]
          exact ih (i + 1) _ _ _ (by omega) (by omega) (births_row hb h1 c (Bool.eq_false_iff.2 c2))
      · have hb3 := hb.2.2.1 (rK T i).f1 (by omega)
        refine Ev.step (fun k => by simp only [spec_l4ThingsOk.j1]; rw [if_neg (by decide), if_neg c]) ?_
        have h4 := hb.2.2.2
        have := sB_loop T P L w nw g b i x3 x4 (by omega) (rK T i) (if tFrom w b T n (i + 1) (ins (rK T i).f1 ks) = true then C else false)
          (fun hc => by rw [wsucc hlt (by omega)]; exact ih (i + 1) _ _ _ (by omega) (by omega) (births_app hb (by omega) (by rw [← hb3]; exact hc))) x4.length 0 (by omega) (by omega) (fun h => h)
        rw [List.drop_zero, hb3] at this
        exact this
    have hR : Ev (fun k => (spec_l4Range.f (rK T i).f1 1 b).bind fun t => spec_l4ThingsOk.j1 k x3 x4 (i : Int) (!t) w nw g b T P L (rK T i).f0 (rK T i).f1 (rK T i).f2.f0 (rK T i).f2.f1)
        (if decide (1 ≤ (rK T i).f1 ∧ (rK T i).f1 ≤ b) = true then (if ks.contains (rK T i).f1 = true then false else (if tFrom w b T n (i + 1) (ins (rK T i).f1 ks) = true then C else false)) else false) := by
      by_cases c : 1 ≤ (rK T i).f1 ∧ (rK T i).f1 ≤ b
      · rw [if_pos (decide_eq_true c)]
        exact Ev.congr (fun k => by rw [sRange, Option.bind_some, decide_eq_true c]; rfl) (hj2 c.1)
      · rw [if_neg (by rw [decide_eq_false c]; decide)]
        exact Ev.congr (fun k => by rw [sRange, Option.bind_some, decide_eq_false c]; rfl) hj1
    have hZ : ∀ D : Bool, (D = true → Ev (fun k => (if (i : Int) > 0 then (if 0 ≤ (wrap64 ((i : Int) - 1)) then (if (wrap64 ((i : Int) - 1)) < (T.length : Int) then (if ((Op.bytesLess (((rd_T91 T (wrap64 ((i : Int) - 1))).f0).toList) (((rd_T91 T (i : Int)).f0).toList)) = true) then ((spec_l4Range.f ((rd_T91 T (i : Int)).f1) 1 b).bind fun t160 => (spec_l4ThingsOk.j1 k x3 x4 (i : Int) (!t160) w nw g b T P L ((rd_T91 T (i : Int)).f0) ((rd_T91 T (i : Int)).f1) ((rd_T91 T (i : Int)).f2.f0) ((rd_T91 T (i : Int)).f2.f1))) else (spec_l4ThingsOk.j1 k x3 x4 (i : Int) true w nw g b T P L ((rd_T91 T (i : Int)).f0) ((rd_T91 T (i : Int)).f1) ((rd_T91 T (i : Int)).f2.f0) ((rd_T91 T (i : Int)).f2.f1))) else (none)) else (none)) else ((spec_l4Range.f ((rd_T91 T (i : Int)).f1) 1 b).bind fun t161 => (spec_l4ThingsOk.j1 k x3 x4 (i : Int) (!t161) w nw g b T P L ((rd_T91 T (i : Int)).f0) ((rd_T91 T (i : Int)).f1) ((rd_T91 T (i : Int)).f2.f0) ((rd_T91 T (i : Int)).f2.f1)))))
        (if (if 0 < i then Op.bytesLess (rK T (i - 1)).f0.toList (rK T i).f0.toList else true) = true then (if decide (1 ≤ (rK T i).f1 ∧ (rK T i).f1 ≤ b) = true then (if ks.contains (rK T i).f1 = true then false else (if tFrom w b T n (i + 1) (ins (rK T i).f1 ks) = true then C else false)) else false) else false)) := fun D hD => by
      by_cases c2 : 0 < i
      · rw [if_pos c2]
        refine Ev.congr (fun k => by rw [if_pos (by omega), wpred c2 (by omega), if_pos (by omega), if_pos (by omega)]) ?_
        refine Ev.ite' (fun c3 => ?_) (fun c3 => by rw [if_neg c3]; exact hj1)
        rw [if_pos c3]
        exact hR
      · rw [if_neg c2, if_pos rfl]
        refine Ev.congr (fun k => by rw [if_neg (by omega)]) ?_
        exact hR
    have e : (if tFrom w b T (n + 1) i ks = true then C else false) = (if (thingB (rK T i).f2.f0 (rK T i).f2.f1 w && decide ((rK T i).f0.toList = (sumB (formB (rK T i).f2.f0 (rK T i).f2.f1) w).toList)) = true then
        (if (if 0 < i then Op.bytesLess (rK T (i - 1)).f0.toList (rK T i).f0.toList else true) = true then (if decide (1 ≤ (rK T i).f1 ∧ (rK T i).f1 ≤ b) = true then (if ks.contains (rK T i).f1 = true then false else (if tFrom w b T n (i + 1) (ins (rK T i).f1 ks) = true then C else false)) else false) else false) else false) := by
      conv => lhs; unfold tFrom
      rw [tEq]
      unfold conB
      generalize thingB (rK T i).f2.f0 (rK T i).f2.f1 w = q1
      generalize decide ((rK T i).f0.toList = (sumB (formB (rK T i).f2.f0 (rK T i).f2.f1) w).toList) = q2
      generalize decide (1 ≤ (rK T i).f1 ∧ (rK T i).f1 ≤ b) = q3
      generalize (if 0 < i then Op.bytesLess (rK T (i - 1)).f0.toList (rK T i).f0.toList else true) = q4
      generalize (if ks.contains (rK T i).f1 = true then false else (if tFrom w b T n (i + 1) (ins (rK T i).f1 ks) = true then C else false)) = q5
      cases q1 <;> cases q2 <;> cases q3 <;> cases q4 <;> rfl
    rw [e]
    refine Ev.step (fun k => by simp only [spec_l4ThingsOk.l0]; rw [if_pos (by omega), if_pos (by omega)]) ?_
    exact sT_tail (fun k c => spec_l4ThingsOk.j1 k x3 x4 (i : Int) c w nw g b T P L (rK T i).f0 (rK T i).f1 (rK T i).f2.f0 (rK T i).f2.f1) _ _ hj1 w (rK T i) (hr i hlt) (fun _ _ => hZ true rfl)
/-! ### references -/
theorem sR_in (T : List KT) (P : List PT) (L : List LT) (w nw g b : Int) (C : Bool) (hT : T.length ≤ 600) (i : Nat) (hi : i < T.length) (hl : (rK T i).f2.f1.length ≤ 140737488351232)
    (hC : Ev (fun k => spec_l4ThingsOk.l2 k (wrap64 ((i : Int) + 1)) w nw g b T P L) C) (n : Nat) : ∀ j : Nat, (rK T i).f2.f1.length - j = n → j ≤ (rK T i).f2.f1.length →
    Ev (fun k => spec_l4ThingsOk.l3 k (i : Int) (j : Int) w nw g b T P L) (if refsB T (rK T i).f1 (rK T i).f2.f1 n j = true then C else false) := by
  induction n with
  | zero =>
    intro j hn hj
    have e : (if refsB T (rK T i).f1 (rK T i).f2.f1 0 j = true then C else false) = C := if_pos rfl
    rw [e]
    refine Ev.step (fun k => ?_) hC
    simp only [spec_l4ThingsOk.l3]; rw [if_pos (by omega), if_pos (by omega), if_neg (by show ¬ (j : Int) < ((rK T i).f2.f1.length : Int); omega)]
  | succ n ih =>
    intro j hn hj
    have hlt : j < (rK T i).f2.f1.length := by omega
    have hj5 : ∀ c : Bool, Ev (fun k => spec_l4ThingsOk.j5 k (i : Int) (j : Int) c w nw g b T P L) (if c = true then false else (if refsB T (rK T i).f1 (rK T i).f2.f1 n (j + 1) = true then C else false)) := fun c => by
      cases c with
      | true =>
        refine Ev.step (f := fun _ => some false) (fun k => ?_) (Ev.now _)
        simp only [spec_l4ThingsOk.j5, if_true]
      | false =>
        refine Ev.step (fun k => ?_) (ih (j + 1) (by omega) (by omega))
        simp only [spec_l4ThingsOk.j5]; rw [if_neg (by decide), wsucc hlt hl]
    refine Ev.step (fun k => by simp only [spec_l4ThingsOk.l3]; rw [if_pos (by omega), if_pos (by omega), if_pos (show (j : Int) < ((rK T i).f2.f1.length : Int) by omega), if_pos (by omega)]) ?_
    refine Ev.bind (find_ev T P L w nw g b _ (by omega)) ?_
    have hx : ∀ x, x = rdOf ByteArray.empty (rK T i).f2.f1 (j : Int) → Ev (fun k => if findI T x < 0 then (spec_l4ThingsOk.j5 k (i : Int) (j : Int) true w nw g b T P L) else (if 0 ≤ findI T x then (if findI T x < (T.length : Int) then (spec_l4ThingsOk.j5 k (i : Int) (j : Int) (decide (((rd_T91 T (findI T x)).f1) ≥ ((rd_T91 T (i : Int)).f1))) w nw g b T P L) else (none)) else (none)))
        (if refsB T (rK T i).f1 (rK T i).f2.f1 (n + 1) j = true then C else false) := fun x hx => by
      cases hf : findT T x with
      | none =>
        have e : refsB T (rK T i).f1 (rK T i).f2.f1 (n + 1) j = false := by conv => lhs; unfold refsB; rw [← hx, hf]
        have ei : findI T x = -1 := by unfold findI; rw [hf]
        rw [e]
        simp only [ei]
        exact Ev.pos (by omega) (hj5 true)
      | some a =>
        have e : refsB T (rK T i).f1 (rK T i).f2.f1 (n + 1) j = (if (rK T a).f1 ≥ (rK T i).f1 then false else refsB T (rK T i).f1 (rK T i).f2.f1 n (j + 1)) := by conv => lhs; unfold refsB; rw [← hx, hf]
        have ei : findI T x = (a : Int) := by unfold findI; rw [hf]
        have ha := find_lt hf
        rw [e]
        simp only [ei]
        refine Ev.neg (by omega) (Ev.pos (by omega) (Ev.pos (by omega) ?_))
        have := hj5 (decide ((rK T a).f1 ≥ (rK T i).f1))
        by_cases c : (rK T a).f1 ≥ (rK T i).f1
        · rw [if_pos c]
          rw [decide_eq_true c] at this
          exact Ev.congr (fun k => by rw [decide_eq_true c]) this
        · rw [if_neg c]
          rw [decide_eq_false c] at this
          exact Ev.congr (fun k => by rw [decide_eq_false c]) this
    exact hx _ rfl
theorem sR_out (T : List KT) (P : List PT) (L : List LT) (w nw g b : Int) (hT : T.length ≤ 600) (hr : ∀ i, i < T.length → (rK T i).f2.f1.length ≤ 140737488351232) (n : Nat) : ∀ i : Nat, T.length - i = n → i ≤ T.length →
    Ev (fun k => spec_l4ThingsOk.l2 k (i : Int) w nw g b T P L) (allR T n i) := by
  induction n with
  | zero =>
    intro i hn hi
    refine Ev.step (f := fun _ => some true) (fun k => ?_) (Ev.now _)
    simp only [spec_l4ThingsOk.l2]; rw [if_neg (by omega)]
  | succ n ih =>
    intro i hn hi
    have hlt : i < T.length := by omega
    have h1 := ih (i + 1) (by omega) (by omega)
    have h2 := sR_in T P L w nw g b (allR T n (i + 1)) hT i hlt (hr i hlt) (by rw [wsucc hlt (by omega)]; exact h1) (rK T i).f2.f1.length 0 (by omega) (by omega)
    unfold allR
    refine Ev.step (fun k => ?_) h2
    simp only [spec_l4ThingsOk.l2]; rw [if_pos (by omega)]; rfl
theorem sTO_ev (T : List KT) (P : List PT) (L : List LT) (w nw g b : Int) (hT : T.length ≤ 600) (hr : ∀ i, i < T.length → (rK T i).f2.f1.length ≤ 140737488351232) :
    Ev (fun k => spec_l4ThingsOk.f k w nw g b T P L) (if tFrom w b T T.length 0 [] = true then allR T T.length 0 else false) := by
  refine Ev.congr (fun k => by unfold spec_l4ThingsOk.f; rw [if_pos (by decide)]) ?_
  refine sT_loop T P L w nw g b _ hT hr (sR_out T P L w nw g b hT hr T.length 0 (by omega) (by omega)) T.length 0 [] _ _ (by omega) (by omega) ⟨by rw [List.length_replicate], fun v v1 v2 => ?_, fun v _ => rfl, by simp⟩
  unfold rdOf
  rw [List.getD_eq_getElem?_getD, List.getElem?_replicate]
  split <;> rfl
/-! ### pins and leases -/
theorem find_neg (T : List KT) (x : ByteArray) : decide (findI T x < 0) = !(findT T x).isSome := by
  unfold findI
  cases findT T x with
  | none => rfl
  | some a => simp
theorem sP_loop (T : List KT) (P : List PT) (L : List LT) (w nw g b : Int) (C : Bool) (hT : T.length ≤ 600) (hP : P.length ≤ 100) (hn0 : ∀ i, i < P.length → (rP P i).f0.size ≤ 140737488351232)
    (hC : Ev (fun k => spec_ValidState.l1 k 0 w nw g b T P L) C) (n : Nat) : ∀ i : Nat, P.length - i = n → i ≤ P.length →
    Ev (fun k => spec_ValidState.l0 k (i : Int) w nw g b T P L) (if pinsB T P n i = true then C else false) := by
  induction n with
  | zero =>
    intro i hn hi
    have e : (if pinsB T P 0 i = true then C else false) = C := if_pos rfl
    rw [e]
    refine Ev.step (fun k => ?_) hC
    simp only [spec_ValidState.l0]; rw [if_neg (by omega)]
  | succ n ih =>
    intro i hn hi
    have hlt : i < P.length := by omega
    have h1 := ih (i + 1) (by omega) (by omega)
    have hj1 : Ev (fun k => spec_ValidState.j3 k (i : Int) true w nw g b T P L) false := by
      refine Ev.step (f := fun _ => some false) (fun k => ?_) (Ev.now _)
      simp only [spec_ValidState.j3, if_true]
    have hF : Ev (fun k => (spec_l4Find.f k w nw g b T P L (rP P i).f1).bind fun t => spec_ValidState.j3 k (i : Int) (decide (t < 0)) w nw g b T P L) (if (findT T (rP P i).f1).isSome = true then (if pinsB T P n (i + 1) = true then C else false) else false) := by
      refine Ev.bind (find_ev T P L w nw g b _ (by omega)) ?_
      refine Ev.congr (fun k => by rw [find_neg]) ?_
      cases (findT T (rP P i).f1).isSome with
      | false => exact hj1
      | true =>
        refine Ev.step (fun k => ?_) h1
        simp only [spec_ValidState.j3]; rw [if_neg (by decide), wsucc hlt (by omega)]
    refine Ev.step (fun k => by simp only [spec_ValidState.l0]; rw [if_pos (by omega), if_pos (by omega)]) ?_
    have e : (if pinsB T P (n + 1) i = true then C else false) = (if nameB (rP P i).f0 = true then (if (if 0 < i then Op.bytesLess (rP P (i - 1)).f0.toList (rP P i).f0.toList else true) = true then (if (findT T (rP P i).f1).isSome = true then (if pinsB T P n (i + 1) = true then C else false) else false) else false) else false) := by
      conv => lhs; unfold pinsB
      generalize nameB (rP P i).f0 = q1
      generalize (if 0 < i then Op.bytesLess (rP P (i - 1)).f0.toList (rP P i).f0.toList else true) = q2
      generalize (findT T (rP P i).f1).isSome = q3
      cases q1 <;> cases q2 <;> cases q3 <;> simp
    rw [e]
    refine Ev.bind (sName_ev _ (hn0 i hlt)) ?_
    refine Ev.ite' (fun c => ?_) (fun c => by rw [if_neg c]; exact hj1)
    rw [if_pos c]
    by_cases c2 : 0 < i
    · rw [if_pos c2]
      refine Ev.congr (fun k => by rw [if_pos (by omega), wpred c2 (by omega), if_pos (by omega), if_pos (by omega)]) ?_
      refine Ev.ite' (fun c3 => ?_) (fun c3 => by rw [if_neg c3]; exact hj1)
      rw [if_pos c3]
      exact hF
    · rw [if_neg c2, if_pos rfl]
      refine Ev.congr (fun k => by rw [if_neg (by omega)]) ?_
      exact hF
theorem sL_loop (T : List KT) (P : List PT) (L : List LT) (w nw g b : Int) (hT : T.length ≤ 600) (hL : L.length ≤ 200) (n : Nat) : ∀ i : Nat, L.length - i = n → i ≤ L.length →
    Ev (fun k => spec_ValidState.l1 k (i : Int) w nw g b T P L) (leasesB T L nw g n i) := by
  induction n with
  | zero =>
    intro i hn hi
    refine Ev.step (f := fun _ => some true) (fun k => ?_) (Ev.now _)
    simp only [spec_ValidState.l1]; rw [if_neg (by omega)]
  | succ n ih =>
    intro i hn hi
    have hlt : i < L.length := by omega
    have h1 := ih (i + 1) (by omega) (by omega)
    have hj1 : Ev (fun k => spec_ValidState.j5 k (i : Int) true w nw g b T P L) false := by
      refine Ev.step (f := fun _ => some false) (fun k => ?_) (Ev.now _)
      simp only [spec_ValidState.j5, if_true]
    have hj : ∀ c : Bool, Ev (fun k => spec_ValidState.j5 k (i : Int) c w nw g b T P L) (if c = true then false else leasesB T L nw g n (i + 1)) := fun c => by
      cases c with
      | true => exact hj1
      | false =>
        refine Ev.step (fun k => ?_) h1
        simp only [spec_ValidState.j5]; rw [if_neg (by decide), wsucc hlt (by omega)]
    have hE : Ev (fun k => if (rL L i).f2 ≤ nw then (spec_ValidState.j5 k (i : Int) true w nw g b T P L) else (spec_ValidState.j5 k (i : Int) (decide ((rL L i).f2 > (wrap64 (nw + 100000)))) w nw g b T P L)) (if decide (nw < (rL L i).f2 ∧ (rL L i).f2 ≤ wrap64 (nw + 100000)) = true then leasesB T L nw g n (i + 1) else false) := by
      refine Ev.ite' (fun c => ?_) (fun c => ?_)
      · rw [decide_eq_false (show ¬ (nw < (rL L i).f2 ∧ (rL L i).f2 ≤ wrap64 (nw + 100000)) by omega)]; exact hj1
      · have := hj (decide ((rL L i).f2 > (wrap64 (nw + 100000))))
        by_cases c2 : (rL L i).f2 > (wrap64 (nw + 100000))
        · rw [decide_eq_true c2] at this ⊢
          rw [decide_eq_false (show ¬ (nw < (rL L i).f2 ∧ (rL L i).f2 ≤ wrap64 (nw + 100000)) by omega)]; exact this
        · rw [decide_eq_false c2] at this ⊢
          rw [decide_eq_true (show (nw < (rL L i).f2 ∧ (rL L i).f2 ≤ wrap64 (nw + 100000)) by omega)]; exact this
    have hF : Ev (fun k => (spec_l4Find.f k w nw g b T P L (rL L i).f1).bind fun t => if t < 0 then (spec_ValidState.j5 k (i : Int) true w nw g b T P L) else (if (rL L i).f2 ≤ nw then (spec_ValidState.j5 k (i : Int) true w nw g b T P L) else (spec_ValidState.j5 k (i : Int) (decide ((rL L i).f2 > (wrap64 (nw + 100000)))) w nw g b T P L)))
        (if (findT T (rL L i).f1).isSome = true then (if decide (nw < (rL L i).f2 ∧ (rL L i).f2 ≤ wrap64 (nw + 100000)) = true then leasesB T L nw g n (i + 1) else false) else false) := by
      refine Ev.bind (find_ev T P L w nw g b _ (by omega)) ?_
      have hd := find_neg T (rL L i).f1
      refine Ev.ite' (fun c => ?_) (fun c => ?_)
      · rw [decide_eq_true c] at hd
        have : (findT T (rL L i).f1).isSome = false := by cases hq : (findT T (rL L i).f1).isSome with | false => rfl | true => rw [hq] at hd; cases hd
        rw [this]; exact hj1
      · rw [decide_eq_false c] at hd
        have : (findT T (rL L i).f1).isSome = true := by cases hq : (findT T (rL L i).f1).isSome with | true => rfl | false => rw [hq] at hd; cases hd
        rw [this]; exact hE
    have e : leasesB T L nw g (n + 1) i = (if decide (1 ≤ (rL L i).f0 ∧ (rL L i).f0 ≤ g) = true then (if (if 0 < i then decide ((rL L (i - 1)).f0 < (rL L i).f0) else true) = true then (if (findT T (rL L i).f1).isSome = true then (if decide (nw < (rL L i).f2 ∧ (rL L i).f2 ≤ wrap64 (nw + 100000)) = true then leasesB T L nw g n (i + 1) else false) else false) else false) else false) := by
      conv => lhs; unfold leasesB
      generalize decide (1 ≤ (rL L i).f0 ∧ (rL L i).f0 ≤ g) = q1
      generalize (if 0 < i then decide ((rL L (i - 1)).f0 < (rL L i).f0) else true) = q2
      generalize (findT T (rL L i).f1).isSome = q3
      generalize decide (nw < (rL L i).f2 ∧ (rL L i).f2 ≤ wrap64 (nw + 100000)) = q4
      cases q1 <;> cases q2 <;> cases q3 <;> cases q4 <;> simp
    rw [e]
    refine Ev.step (fun k => by simp only [spec_ValidState.l1]; rw [if_pos (by omega), if_pos (by omega), sRange, Option.bind_some]) ?_
    refine Ev.ite' (fun c => ?_) (fun c => by rw [if_neg c]; exact hj1)
    rw [if_pos c]
    by_cases c2 : 0 < i
    · rw [if_pos c2]
      refine Ev.congr (fun k => by rw [if_pos (by omega), wpred c2 (by omega), if_pos (by omega), if_pos (by omega)]) ?_
      refine Ev.ite' (fun c3 => ?_) (fun c3 => ?_)
      · rw [decide_eq_false (show ¬ ((rL L (i - 1)).f0 < (rL L i).f0) by have : (rL L (i - 1)).f0 ≥ (rL L i).f0 := c3; omega)]; exact hj1
      · rw [decide_eq_true (show ((rL L (i - 1)).f0 < (rL L i).f0) by have : ¬ (rL L (i - 1)).f0 ≥ (rL L i).f0 := c3; omega), if_pos rfl]; exact hF
    · rw [if_neg c2, if_pos rfl]
      refine Ev.congr (fun k => by rw [if_neg (by omega)]) ?_
      exact hF
theorem sVS_ev (w nw g b : Int) (T : List KT) (P : List PT) (L : List LT) (hr : ∀ i, i < T.length → (rK T i).f2.f1.length ≤ 140737488351232) (hn0 : ∀ i, i < P.length → (rP P i).f0.size ≤ 140737488351232) :
    Ev (fun k => spec_ValidState.f k w nw g b T P L) (stB w nw g b T P L) := by
  have hj0 : Ev (fun k => spec_ValidState.j0 k true w nw g b T P L) false := by
    refine Ev.step (f := fun _ => some false) (fun k => ?_) (Ev.now _)
    simp only [spec_ValidState.j0, if_true]
  have hj1 : Ev (fun k => spec_ValidState.j1 k true w nw g b T P L) false := by
    refine Ev.step (f := fun _ => some false) (fun k => ?_) (Ev.now _)
    simp only [spec_ValidState.j1, if_true]
  refine Ev.congr (fun k => by unfold spec_ValidState.f; rw [l1W, Option.bind_some, sRange, sRange, sRange]) ?_
  unfold stB timeB
  refine Ev.ite' (fun c => ?_) (fun c => by rw [if_neg c]; exact hj0)
  rw [if_pos c]
  refine Ev.ite' (fun c => ?_) (fun c => by rw [if_neg c]; exact hj0)
  rw [if_pos c]
  refine Ev.ite' (fun c => ?_) (fun c => by rw [if_neg c]; exact hj0)
  rw [if_pos c]
  by_cases cb : 0 ≤ b ∧ b ≤ 1000000000
  rotate_left
  · rw [if_neg (by rw [decide_eq_false cb]; decide)]
    exact Ev.congr (fun k => by rw [decide_eq_false cb]; rfl) hj0
  rw [if_pos (decide_eq_true cb)]
  refine Ev.congr (f := fun k => spec_ValidState.j0 k false w nw g b T P L) (fun k => by rw [decide_eq_true cb]; rfl) ?_
  refine Ev.step (fun k => by simp only [spec_ValidState.j0]; rw [if_neg (by decide)]) ?_
  refine Ev.ite' (fun c => by rw [if_neg (by omega)]; exact hj1) (fun c1 => ?_)
  refine Ev.ite' (fun c => by rw [if_neg (by omega)]; exact hj1) (fun c2 => ?_)
  refine Ev.ite' (fun c => by rw [if_neg (by omega)]; exact hj1) (fun c3 => ?_)
  rw [if_pos (by omega)]
  refine Ev.bind (sTO_ev T P L w nw g b (by omega) hr) ?_
  have hP := sP_loop T P L w nw g b _ (by omega) (by omega) hn0 (sL_loop T P L w nw g b (by omega) (by omega) L.length 0 (by omega) (by omega)) P.length 0 (by omega) (by omega)
  have e : (if tFrom w b T T.length 0 [] = true then (if allR T T.length 0 = true then (if pinsB T P P.length 0 = true then leasesB T L nw g L.length 0 else false) else false) else false) = (if (if tFrom w b T T.length 0 [] = true then allR T T.length 0 else false) = true then (if pinsB T P P.length 0 = true then leasesB T L nw g L.length 0 else false) else false) := by
    cases tFrom w b T T.length 0 [] <;> cases allR T T.length 0 <;> simp
  rw [e]
  generalize (if tFrom w b T T.length 0 [] = true then allR T T.length 0 else false) = q
  cases q with
  | false => exact hj1
  | true =>
    refine Ev.step (fun k => ?_) hP
    simp only [spec_ValidState.j1]; rw [if_neg (by decide)]; rfl
end Go.Proofs.Ytcijlemojododaa.Q

/- Plain laws of the laws' own helpers over states: how large, a copy, a state equals itself. (Printed by gen_u.py.) -/
namespace Go.Proofs.Ytcijlemojododaa.Q
open Go.RowKit Go.Proofs.Ytcijlemojododaa.P Go.Proofs.Ytcijlemojododaa.S Go.Proofs.YtcijlemojododaaW.PrintWords Go.Proofs.YtcijlemojododaaW.PrintLast Go.Proofs.YtcijlemojododaaW.PrintMore
set_option linter.unusedVariables false

/-- It comes to something of which p holds. -/
def EP {α : Type} (g : Nat → Option α) (p : α → Prop) : Prop := ∃ r, Ev g r ∧ p r
theorem EP.of {α : Type} {g : Nat → Option α} {r : α} {p : α → Prop} (h : Ev g r) (hp : p r) : EP g p := ⟨r, h, hp⟩
theorem EP.ret {α : Type} {r : α} {p : α → Prop} (hp : p r) : EP (fun _ => some r) p := ⟨r, Ev.now r, hp⟩
theorem EP.bind {α β : Type} {g : Nat → Option α} {f : Nat → α → Option β} {p : α → Prop} {q : β → Prop} (h : EP g p) (hf : ∀ a, p a → EP (fun k => f k a) q) : EP (fun k => (g k).bind (f k)) q := by
  obtain ⟨a, ha, hp⟩ := h
  obtain ⟨b, hb, hq⟩ := hf a hp
  exact ⟨b, Ev.bind ha hb, hq⟩
theorem EP.ite {α : Type} {c : Prop} [Decidable c] {g f : Nat → Option α} {p : α → Prop} (h1 : c → EP g p) (h2 : ¬ c → EP f p) : EP (fun k => if c then g k else f k) p := by
  by_cases h : c
  · obtain ⟨r, hr, hp⟩ := h1 h; exact ⟨r, Ev.pos h hr, hp⟩
  · obtain ⟨r, hr, hp⟩ := h2 h; exact ⟨r, Ev.neg h hr, hp⟩
theorem EP.step {α : Type} {g f : Nat → Option α} {p : α → Prop} (hg : ∀ k, g (k + 1) = f k) (h : EP f p) : EP g p := by
  obtain ⟨r, hr, hp⟩ := h; exact ⟨r, Ev.step hg hr, hp⟩
theorem EP.congr {α : Type} {g f : Nat → Option α} {p : α → Prop} (hg : ∀ k, g k = f k) (h : EP f p) : EP g p := by
  obtain ⟨r, hr, hp⟩ := h; exact ⟨r, Ev.congr hg hr, hp⟩
theorem EP.mono {α : Type} {g : Nat → Option α} {p q : α → Prop} (h : EP g p) (hq : ∀ a, p a → q a) : EP g q := by
  obtain ⟨r, hr, hp⟩ := h; exact ⟨r, hr, hq r hp⟩
abbrev KA := S130
abbrev PA := S132
abbrev LA := S134
def cvK (x : KA) : KT := ⟨x.f0, x.f1, ⟨x.f2.f0, x.f2.f1⟩⟩
def cvP (x : PA) : PT := ⟨x.f0, x.f1⟩
def cvL (x : LA) : LT := ⟨x.f0, x.f1, x.f2⟩
theorem w_sub {a : Int} {n : Nat} (h0 : 0 ≤ a) (h1 : a ≤ 1048576) (hn : n ≤ 140737488351232) : wrap64 (a - (n : Int)) = a - (n : Int) := by unfold wrap64; omega
/-- What is left: less than before, or -1. -/
def left (a r : Int) : Prop := -1 ≤ r ∧ r ≤ a
theorem left.neg {a : Int} (h : 0 ≤ a) : left a (-1) := ⟨Int.le_refl _, by omega⟩
theorem szT_ep (t : ByteArray) (l : List ByteArray) (a : Int) (h0 : 0 ≤ a) (h1 : a ≤ 1048576) (ht : t.size ≤ 140737488351232) (hl : l.length ≤ 140737488351232) (hs : ∀ x ∈ l, x.size ≤ 140737488351232) :
    EP (fun k => laws_szThing.f k t l a) (fun r => left a r ∧ (0 ≤ r → (t.size : Int) ≤ 1048576 ∧ (l.length : Int) ≤ 1048576)) := by
  refine EP.congr (fun k => by unfold laws_szThing.f; rw [w_sub h0 h1 ht]) ?_
  refine EP.ite (fun c => EP.ret ⟨left.neg h0, fun h => by omega⟩) (fun c => ?_)
  refine EP.bind (EP.of (p := fun r => r = szS l (a - (t.size : Int))) (szS_ev l hl hs (a - (t.size : Int)) (by omega) (by omega)) rfl) (fun r hr => ?_)
  subst hr
  refine EP.ite (fun c2 => EP.ret ⟨left.neg h0, fun h => by omega⟩) (fun c2 => ?_)
  have h2 := szS_le (l := l) (a := a - (t.size : Int)) (by omega)
  exact EP.ret ⟨⟨by omega, by omega⟩, fun _ => ⟨by omega, by omega⟩⟩
theorem szK_ep (x : KA) (a : Int) (h0 : 0 ≤ a) (h1 : a ≤ 1048576) (hx : x.f0.size ≤ 140737488351232 ∧ x.f2.f0.size ≤ 140737488351232 ∧ x.f2.f1.length ≤ 140737488351232 ∧ ∀ y ∈ x.f2.f1, y.size ≤ 140737488351232) :
    EP (fun k => laws_szKept.f k x.f0 x.f1 x.f2.f0 x.f2.f1 a) (fun r => left a r ∧ (0 ≤ r → (x.f2.f1.length : Int) ≤ 1048576)) := by
  refine EP.congr (fun k => by unfold laws_szKept.f; rw [w_sub h0 h1 hx.1]) ?_
  refine EP.ite (fun c => EP.ret ⟨left.neg h0, fun h => by omega⟩) (fun c => ?_)
  refine EP.bind (szT_ep x.f2.f0 x.f2.f1 (a - (x.f0.size : Int)) (by omega) (by omega) hx.2.1 hx.2.2.1 hx.2.2.2) (fun r hr => ?_)
  obtain ⟨⟨g1, g2⟩, g3⟩ := hr
  refine EP.ite (fun c2 => EP.ret ⟨left.neg h0, fun h => by omega⟩) (fun c2 => ?_)
  exact EP.ret ⟨⟨g1, by omega⟩, fun h => (g3 h).2⟩
theorem szP_ep (x : PA) (a : Int) (h0 : 0 ≤ a) (h1 : a ≤ 1048576) (hx : x.f0.size ≤ 140737488351232 ∧ x.f1.size ≤ 140737488351232) : EP (fun _ => laws_szPin.f x.f0 x.f1 a) (fun r => left a r ∧ (0 ≤ r → (x.f0.size : Int) ≤ 1048576)) := by
  by_cases c : a - (x.f0.size : Int) < 0
  · exact EP.congr (f := fun _ => some (-1)) (fun k => by unfold laws_szPin.f; rw [w_sub h0 h1 hx.1, if_pos c]) (EP.ret ⟨left.neg h0, fun h => by omega⟩)
  · by_cases c2 : a - (x.f0.size : Int) - (x.f1.size : Int) < 0
    · exact EP.congr (f := fun _ => some (-1)) (fun k => by unfold laws_szPin.f; rw [w_sub h0 h1 hx.1, if_neg c, w_sub (by omega) (by omega) hx.2, if_pos c2]) (EP.ret ⟨left.neg h0, fun h => by omega⟩)
    · exact EP.congr (f := fun _ => some (a - (x.f0.size : Int) - (x.f1.size : Int))) (fun k => by unfold laws_szPin.f; rw [w_sub h0 h1 hx.1, if_neg c, w_sub (by omega) (by omega) hx.2, if_neg c2]) (EP.ret ⟨⟨by omega, by omega⟩, fun h => by omega⟩)
theorem szL_ep (x : LA) (a : Int) (h0 : 0 ≤ a) (h1 : a ≤ 1048576) (hx : x.f1.size ≤ 140737488351232) : EP (fun _ => laws_szLease.f x.f0 x.f1 x.f2 a) (fun r => left a r ∧ (0 ≤ r → True)) := by
  by_cases c : a - (x.f1.size : Int) < 0
  · exact EP.congr (f := fun _ => some (-1)) (fun k => by unfold laws_szLease.f; rw [w_sub h0 h1 hx, if_pos c]) (EP.ret ⟨left.neg h0, fun h => trivial⟩)
  · exact EP.congr (f := fun _ => some (a - (x.f1.size : Int))) (fun k => by unfold laws_szLease.f; rw [w_sub h0 h1 hx, if_neg c]) (EP.ret ⟨⟨by omega, by omega⟩, fun h => trivial⟩)
theorem eqK_ev (x : KT) (hl : x.f2.f1.length ≤ 140737488351232) : Ev (fun k => laws_eqKept.f k x.f0 x.f1 x.f2.f0 x.f2.f1 x.f0 x.f1 x.f2.f0 x.f2.f1) true := by
  have h : Ev (fun k => laws_eqThing.f k x.f2.f0 x.f2.f1 x.f2.f0 x.f2.f1) true := Ev.congr (fun k => by unfold laws_eqThing.f; rw [if_pos rfl]) (Ev.bind (eqS_ev _ hl) (Ev.congr (fun k => if_pos rfl) (Ev.now _)))
  exact Ev.congr (fun k => by unfold laws_eqKept.f; rw [if_pos rfl, if_pos rfl]) (Ev.bind h (Ev.congr (fun k => if_pos rfl) (Ev.now _)))
theorem eqP_ev (x : PT) : Ev (fun _ => laws_eqPin.f x.f0 x.f1 x.f0 x.f1) true := Ev.congr (fun k => by unfold laws_eqPin.f; rw [if_pos rfl, if_pos rfl]) (Ev.now _)
theorem eqL_ev (x : LT) : Ev (fun _ => laws_eqLease.f x.f0 x.f1 x.f2 x.f0 x.f1 x.f2) true := Ev.congr (fun k => by unfold laws_eqLease.f; rw [if_pos rfl, if_pos rfl, if_pos rfl]) (Ev.now _)
theorem toK_ev (x : KA) (hl : x.f2.f1.length ≤ 8796093022207) : Ev (fun k => laws_toKept.f k x.f0 x.f1 x.f2.f0 x.f2.f1) (x.f0, x.f1, x.f2.f0, x.f2.f1) := Ev.bind (a := (x.f2.f0, x.f2.f1)) (Ev.bind (toS_ev _ hl) (Ev.now _)) (Ev.now _)
theorem toP_ev (x : PA) : Ev (fun _ => laws_toPin.f x.f0 x.f1) (x.f0, x.f1) := Ev.now _
theorem toL_ev (x : LA) : Ev (fun _ => laws_toLease.f x.f0 x.f1 x.f2) (x.f0, x.f1, x.f2) := Ev.now _
/-! ### lists of Kepts -/
theorem szK_loop (l : List KA) (hl : l.length ≤ 140737488351232) (hx : ∀ i, i < l.length → (rd_T130 l (i : Int)).f0.size ≤ 140737488351232 ∧ (rd_T130 l (i : Int)).f2.f0.size ≤ 140737488351232 ∧ (rd_T130 l (i : Int)).f2.f1.length ≤ 140737488351232 ∧ ∀ y ∈ (rd_T130 l (i : Int)).f2.f1, y.size ≤ 140737488351232) (n : Nat) : ∀ (i : Nat) (a : Int), l.length - i = n → i ≤ l.length → 0 ≤ a → a ≤ 1048576 →
    EP (fun k => laws_szKeptS.l0 k l a (i : Int)) (fun r => left a r ∧ (0 ≤ r → ∀ j, i ≤ j → j < l.length → ((rd_T130 l (j : Int)).f2.f1.length : Int) ≤ 1048576)) := by
  induction n with
  | zero =>
    intro i a hn hi h0 h1
    refine EP.step (f := fun _ => some a) (fun k => ?_) (EP.ret ⟨⟨by omega, Int.le_refl _⟩, fun _ j h2 h3 => by omega⟩)
    simp only [laws_szKeptS.l0]; rw [if_neg (by omega)]
  | succ n ih =>
    intro i a hn hi h0 h1
    have hlt : i < l.length := by omega
    refine EP.step (fun k => by simp only [laws_szKeptS.l0]; rw [if_pos (by omega), if_pos (by omega), wsucc hlt hl]) ?_
    refine EP.bind (szK_ep (rd_T130 l (i : Int)) a h0 h1 (hx i hlt)) (fun r hr => ?_)
    obtain ⟨⟨g1, g2⟩, g3⟩ := hr
    refine EP.ite (fun c => EP.ret ⟨left.neg h0, fun h => by omega⟩) (fun c => ?_)
    refine (ih (i + 1) r (by omega) (by omega) (by omega) (by omega)).mono (fun q hq => ⟨⟨hq.1.1, by have := hq.1.2; omega⟩, fun h j h2 h3 => ?_⟩)
    by_cases e : j = i
    · subst e; exact g3 (by omega)
    · exact hq.2 h j (by omega) h3
theorem szKS_ep (l : List KA) (hl : l.length ≤ 140737488351232) (hx : ∀ i, i < l.length → (rd_T130 l (i : Int)).f0.size ≤ 140737488351232 ∧ (rd_T130 l (i : Int)).f2.f0.size ≤ 140737488351232 ∧ (rd_T130 l (i : Int)).f2.f1.length ≤ 140737488351232 ∧ ∀ y ∈ (rd_T130 l (i : Int)).f2.f1, y.size ≤ 140737488351232) (a : Int) (h0 : 0 ≤ a) (h1 : a ≤ 1048576) :
    EP (fun k => laws_szKeptS.f k l a) (fun r => left a r ∧ (0 ≤ r → (l.length : Int) ≤ 1048576 ∧ ∀ i, i < l.length → ((rd_T130 l (i : Int)).f2.f1.length : Int) ≤ 1048576)) := by
  refine EP.congr (fun k => by unfold laws_szKeptS.f; rw [w_sub h0 h1 hl]) ?_
  refine EP.ite (fun c => EP.ret ⟨left.neg h0, fun h => by omega⟩) (fun c => ?_)
  refine (szK_loop l hl hx l.length 0 (a - (l.length : Int)) (by omega) (by omega) (by omega) (by omega)).mono (fun r hr => ⟨⟨hr.1.1, by have := hr.1.2; omega⟩, fun h => ⟨by omega, fun i hi => hr.2 h i (by omega) hi⟩⟩)
theorem rdK_map (l : List KA) (i : Nat) (hi : i < l.length) : rd_T91 (l.map cvK) (i : Int) = cvK (rd_T130 l (i : Int)) := by
  unfold rd_T91 rd_T130
  simp [List.getD_eq_getElem?_getD, List.getElem?_eq_getElem hi]
theorem toK_loop (l : List KA) (hl : l.length ≤ 1048576) (hr : ∀ i, i < l.length → (rd_T130 l (i : Int)).f2.f1.length ≤ 8796093022207) (n : Nat) : ∀ (i : Nat) (y : List KT), l.length - i = n → i ≤ l.length → y.length = l.length →
    Ev (fun k => laws_toKeptS.l0 k l y (i : Int)) (y.take i ++ (l.drop i).map cvK) := by
  induction n with
  | zero =>
    intro i y hn hi hy
    refine Ev.step (f := fun _ => some y) (fun k => ?_) ?_
    · simp only [laws_toKeptS.l0]; rw [if_neg (by omega)]
    · rw [List.drop_eq_nil_of_le (by omega), List.map_nil, List.append_nil, List.take_of_length_le (by omega)]; exact Ev.now _
  | succ n ih =>
    intro i y hn hi hy
    have hlt : i < l.length := by omega
    have h1 := ih (i + 1) (y.set i (cvK (rd_T130 l (i : Int)))) (by omega) (by omega) (by simp [hy])
    have e : (y.set i (cvK (rd_T130 l (i : Int)))).take (i + 1) ++ (l.drop (i + 1)).map cvK = y.take i ++ (l.drop i).map cvK := by
      have e1 : l.drop i = rd_T130 l (i : Int) :: l.drop (i + 1) := rd_drop z130 l i hlt
      rw [e1, List.map_cons, List.take_add_one]
      have h1 : (y.set i (cvK (rd_T130 l (i : Int)))).take i = y.take i := by rw [List.take_set_of_le (by omega)]
      rw [h1, List.getElem?_set_self (by omega)]; simp
    rw [e] at h1
    refine Ev.step (fun k => by simp only [laws_toKeptS.l0]; rw [if_pos (by omega), if_pos (by omega), wsucc hlt (by omega)]) ?_
    refine Ev.bind (toK_ev (rd_T130 l (i : Int)) (hr i hlt)) ?_
    exact Ev.pos (by omega) h1
theorem toKS_ev (l : List KA) (hl : l.length ≤ 1048576) (hr : ∀ i, i < l.length → (rd_T130 l (i : Int)).f2.f1.length ≤ 8796093022207) : Ev (fun k => laws_toKeptS.f k l) (l.map cvK) := by
  have := toK_loop l hl hr l.length 0 (List.replicate l.length z91) (by omega) (by omega) (by simp)
  rw [List.take_zero, List.nil_append, List.drop_zero] at this
  refine Ev.congr (fun k => ?_) this
  unfold laws_toKeptS.f
  rw [if_pos (by omega), if_pos (by omega)]; rfl
theorem eqK_loop (l : List KT) (hl : l.length ≤ 1048576) (hr : ∀ i, i < l.length → (rd_T91 l (i : Int)).f2.f1.length ≤ 140737488351232) (n : Nat) : ∀ (i : Nat), l.length - i = n → i ≤ l.length → Ev (fun k => laws_eqKeptS.l0 k l l (i : Int)) true := by
  induction n with
  | zero =>
    intro i hn hi
    refine Ev.step (f := fun _ => some true) (fun k => ?_) (Ev.now _)
    simp only [laws_eqKeptS.l0]; rw [if_neg (by omega)]
  | succ n ih =>
    intro i hn hi
    have hlt : i < l.length := by omega
    refine Ev.step (fun k => by simp only [laws_eqKeptS.l0]; rw [if_pos (by omega), if_pos (by omega), if_pos (by omega), wsucc hlt (by omega)]) ?_
    exact Ev.bind (eqK_ev (rd_T91 l (i : Int)) (hr i hlt)) (Ev.pos rfl (ih (i + 1) (by omega) (by omega)))
theorem eqKS_ev (l : List KT) (hl : l.length ≤ 1048576) (hr : ∀ i, i < l.length → (rd_T91 l (i : Int)).f2.f1.length ≤ 140737488351232) : Ev (fun k => laws_eqKeptS.f k l l) true := by
  refine Ev.congr (fun k => ?_) (eqK_loop l hl hr l.length 0 (by omega) (by omega))
  unfold laws_eqKeptS.f
  rw [if_pos rfl]; rfl
/-! ### lists of Pins -/
theorem szP_loop (l : List PA) (hl : l.length ≤ 140737488351232) (hx : ∀ i, i < l.length → (rd_T132 l (i : Int)).f0.size ≤ 140737488351232 ∧ (rd_T132 l (i : Int)).f1.size ≤ 140737488351232) (n : Nat) : ∀ (i : Nat) (a : Int), l.length - i = n → i ≤ l.length → 0 ≤ a → a ≤ 1048576 →
    EP (fun k => laws_szPinS.l0 k l a (i : Int)) (fun r => left a r ∧ (0 ≤ r → ∀ j, i ≤ j → j < l.length → ((rd_T132 l (j : Int)).f0.size : Int) ≤ 1048576)) := by
  induction n with
  | zero =>
    intro i a hn hi h0 h1
    refine EP.step (f := fun _ => some a) (fun k => ?_) (EP.ret ⟨⟨by omega, Int.le_refl _⟩, fun _ j h2 h3 => by omega⟩)
    simp only [laws_szPinS.l0]; rw [if_neg (by omega)]
  | succ n ih =>
    intro i a hn hi h0 h1
    have hlt : i < l.length := by omega
    refine EP.step (fun k => by simp only [laws_szPinS.l0]; rw [if_pos (by omega), if_pos (by omega), wsucc hlt hl]) ?_
    refine EP.bind (szP_ep (rd_T132 l (i : Int)) a h0 h1 (hx i hlt)) (fun r hr => ?_)
    obtain ⟨⟨g1, g2⟩, g3⟩ := hr
    refine EP.ite (fun c => EP.ret ⟨left.neg h0, fun h => by omega⟩) (fun c => ?_)
    refine (ih (i + 1) r (by omega) (by omega) (by omega) (by omega)).mono (fun q hq => ⟨⟨hq.1.1, by have := hq.1.2; omega⟩, fun h j h2 h3 => ?_⟩)
    by_cases e : j = i
    · subst e; exact g3 (by omega)
    · exact hq.2 h j (by omega) h3
theorem szPS_ep (l : List PA) (hl : l.length ≤ 140737488351232) (hx : ∀ i, i < l.length → (rd_T132 l (i : Int)).f0.size ≤ 140737488351232 ∧ (rd_T132 l (i : Int)).f1.size ≤ 140737488351232) (a : Int) (h0 : 0 ≤ a) (h1 : a ≤ 1048576) :
    EP (fun k => laws_szPinS.f k l a) (fun r => left a r ∧ (0 ≤ r → (l.length : Int) ≤ 1048576 ∧ ∀ i, i < l.length → ((rd_T132 l (i : Int)).f0.size : Int) ≤ 1048576)) := by
  refine EP.congr (fun k => by unfold laws_szPinS.f; rw [w_sub h0 h1 hl]) ?_
  refine EP.ite (fun c => EP.ret ⟨left.neg h0, fun h => by omega⟩) (fun c => ?_)
  refine (szP_loop l hl hx l.length 0 (a - (l.length : Int)) (by omega) (by omega) (by omega) (by omega)).mono (fun r hr => ⟨⟨hr.1.1, by have := hr.1.2; omega⟩, fun h => ⟨by omega, fun i hi => hr.2 h i (by omega) hi⟩⟩)
theorem rdP_map (l : List PA) (i : Nat) (hi : i < l.length) : rd_T82 (l.map cvP) (i : Int) = cvP (rd_T132 l (i : Int)) := by
  unfold rd_T82 rd_T132
  simp [List.getD_eq_getElem?_getD, List.getElem?_eq_getElem hi]
theorem toP_loop (l : List PA) (hl : l.length ≤ 1048576) (n : Nat) : ∀ (i : Nat) (y : List PT), l.length - i = n → i ≤ l.length → y.length = l.length →
    Ev (fun k => laws_toPinS.l0 k l y (i : Int)) (y.take i ++ (l.drop i).map cvP) := by
  induction n with
  | zero =>
    intro i y hn hi hy
    refine Ev.step (f := fun _ => some y) (fun k => ?_) ?_
    · simp only [laws_toPinS.l0]; rw [if_neg (by omega)]
    · rw [List.drop_eq_nil_of_le (by omega), List.map_nil, List.append_nil, List.take_of_length_le (by omega)]; exact Ev.now _
  | succ n ih =>
    intro i y hn hi hy
    have hlt : i < l.length := by omega
    have h1 := ih (i + 1) (y.set i (cvP (rd_T132 l (i : Int)))) (by omega) (by omega) (by simp [hy])
    have e : (y.set i (cvP (rd_T132 l (i : Int)))).take (i + 1) ++ (l.drop (i + 1)).map cvP = y.take i ++ (l.drop i).map cvP := by
      have e1 : l.drop i = rd_T132 l (i : Int) :: l.drop (i + 1) := rd_drop z132 l i hlt
      rw [e1, List.map_cons, List.take_add_one]
      have h1 : (y.set i (cvP (rd_T132 l (i : Int)))).take i = y.take i := by rw [List.take_set_of_le (by omega)]
      rw [h1, List.getElem?_set_self (by omega)]; simp
    rw [e] at h1
    refine Ev.step (fun k => by simp only [laws_toPinS.l0]; rw [if_pos (by omega), if_pos (by omega), wsucc hlt (by omega)]) ?_
    refine Ev.bind (toP_ev (rd_T132 l (i : Int))) ?_
    exact Ev.pos (by omega) h1
theorem toPS_ev (l : List PA) (hl : l.length ≤ 1048576) : Ev (fun k => laws_toPinS.f k l) (l.map cvP) := by
  have := toP_loop l hl l.length 0 (List.replicate l.length z82) (by omega) (by omega) (by simp)
  rw [List.take_zero, List.nil_append, List.drop_zero] at this
  refine Ev.congr (fun k => ?_) this
  unfold laws_toPinS.f
  rw [if_pos (by omega), if_pos (by omega)]; rfl
theorem eqP_loop (l : List PT) (hl : l.length ≤ 1048576) (n : Nat) : ∀ (i : Nat), l.length - i = n → i ≤ l.length → Ev (fun k => laws_eqPinS.l0 k l l (i : Int)) true := by
  induction n with
  | zero =>
    intro i hn hi
    refine Ev.step (f := fun _ => some true) (fun k => ?_) (Ev.now _)
    simp only [laws_eqPinS.l0]; rw [if_neg (by omega)]
  | succ n ih =>
    intro i hn hi
    have hlt : i < l.length := by omega
    refine Ev.step (fun k => by simp only [laws_eqPinS.l0]; rw [if_pos (by omega), if_pos (by omega), if_pos (by omega), wsucc hlt (by omega)]) ?_
    exact Ev.bind (eqP_ev (rd_T82 l (i : Int))) (Ev.pos rfl (ih (i + 1) (by omega) (by omega)))
theorem eqPS_ev (l : List PT) (hl : l.length ≤ 1048576) : Ev (fun k => laws_eqPinS.f k l l) true := by
  refine Ev.congr (fun k => ?_) (eqP_loop l hl l.length 0 (by omega) (by omega))
  unfold laws_eqPinS.f
  rw [if_pos rfl]; rfl
/-! ### lists of Leases -/
theorem szL_loop (l : List LA) (hl : l.length ≤ 140737488351232) (hx : ∀ i, i < l.length → (rd_T134 l (i : Int)).f1.size ≤ 140737488351232) (n : Nat) : ∀ (i : Nat) (a : Int), l.length - i = n → i ≤ l.length → 0 ≤ a → a ≤ 1048576 →
    EP (fun k => laws_szLeaseS.l0 k l a (i : Int)) (fun r => left a r ∧ (0 ≤ r → ∀ j, i ≤ j → j < l.length → True)) := by
  induction n with
  | zero =>
    intro i a hn hi h0 h1
    refine EP.step (f := fun _ => some a) (fun k => ?_) (EP.ret ⟨⟨by omega, Int.le_refl _⟩, fun _ j h2 h3 => by omega⟩)
    simp only [laws_szLeaseS.l0]; rw [if_neg (by omega)]
  | succ n ih =>
    intro i a hn hi h0 h1
    have hlt : i < l.length := by omega
    refine EP.step (fun k => by simp only [laws_szLeaseS.l0]; rw [if_pos (by omega), if_pos (by omega), wsucc hlt hl]) ?_
    refine EP.bind (szL_ep (rd_T134 l (i : Int)) a h0 h1 (hx i hlt)) (fun r hr => ?_)
    obtain ⟨⟨g1, g2⟩, g3⟩ := hr
    refine EP.ite (fun c => EP.ret ⟨left.neg h0, fun h => by omega⟩) (fun c => ?_)
    refine (ih (i + 1) r (by omega) (by omega) (by omega) (by omega)).mono (fun q hq => ⟨⟨hq.1.1, by have := hq.1.2; omega⟩, fun h j h2 h3 => ?_⟩)
    by_cases e : j = i
    · subst e; exact g3 (by omega)
    · exact hq.2 h j (by omega) h3
theorem szLS_ep (l : List LA) (hl : l.length ≤ 140737488351232) (hx : ∀ i, i < l.length → (rd_T134 l (i : Int)).f1.size ≤ 140737488351232) (a : Int) (h0 : 0 ≤ a) (h1 : a ≤ 1048576) :
    EP (fun k => laws_szLeaseS.f k l a) (fun r => left a r ∧ (0 ≤ r → (l.length : Int) ≤ 1048576 ∧ ∀ i, i < l.length → True)) := by
  refine EP.congr (fun k => by unfold laws_szLeaseS.f; rw [w_sub h0 h1 hl]) ?_
  refine EP.ite (fun c => EP.ret ⟨left.neg h0, fun h => by omega⟩) (fun c => ?_)
  refine (szL_loop l hl hx l.length 0 (a - (l.length : Int)) (by omega) (by omega) (by omega) (by omega)).mono (fun r hr => ⟨⟨hr.1.1, by have := hr.1.2; omega⟩, fun h => ⟨by omega, fun i hi => hr.2 h i (by omega) hi⟩⟩)
theorem toL_loop (l : List LA) (hl : l.length ≤ 1048576) (n : Nat) : ∀ (i : Nat) (y : List LT), l.length - i = n → i ≤ l.length → y.length = l.length →
    Ev (fun k => laws_toLeaseS.l0 k l y (i : Int)) (y.take i ++ (l.drop i).map cvL) := by
  induction n with
  | zero =>
    intro i y hn hi hy
    refine Ev.step (f := fun _ => some y) (fun k => ?_) ?_
    · simp only [laws_toLeaseS.l0]; rw [if_neg (by omega)]
    · rw [List.drop_eq_nil_of_le (by omega), List.map_nil, List.append_nil, List.take_of_length_le (by omega)]; exact Ev.now _
  | succ n ih =>
    intro i y hn hi hy
    have hlt : i < l.length := by omega
    have h1 := ih (i + 1) (y.set i (cvL (rd_T134 l (i : Int)))) (by omega) (by omega) (by simp [hy])
    have e : (y.set i (cvL (rd_T134 l (i : Int)))).take (i + 1) ++ (l.drop (i + 1)).map cvL = y.take i ++ (l.drop i).map cvL := by
      have e1 : l.drop i = rd_T134 l (i : Int) :: l.drop (i + 1) := rd_drop z134 l i hlt
      rw [e1, List.map_cons, List.take_add_one]
      have h1 : (y.set i (cvL (rd_T134 l (i : Int)))).take i = y.take i := by rw [List.take_set_of_le (by omega)]
      rw [h1, List.getElem?_set_self (by omega)]; simp
    rw [e] at h1
    refine Ev.step (fun k => by simp only [laws_toLeaseS.l0]; rw [if_pos (by omega), if_pos (by omega), wsucc hlt (by omega)]) ?_
    refine Ev.bind (toL_ev (rd_T134 l (i : Int))) ?_
    exact Ev.pos (by omega) h1
theorem toLS_ev (l : List LA) (hl : l.length ≤ 1048576) : Ev (fun k => laws_toLeaseS.f k l) (l.map cvL) := by
  have := toL_loop l hl l.length 0 (List.replicate l.length z85) (by omega) (by omega) (by simp)
  rw [List.take_zero, List.nil_append, List.drop_zero] at this
  refine Ev.congr (fun k => ?_) this
  unfold laws_toLeaseS.f
  rw [if_pos (by omega), if_pos (by omega)]; rfl
theorem eqL_loop (l : List LT) (hl : l.length ≤ 1048576) (n : Nat) : ∀ (i : Nat), l.length - i = n → i ≤ l.length → Ev (fun k => laws_eqLeaseS.l0 k l l (i : Int)) true := by
  induction n with
  | zero =>
    intro i hn hi
    refine Ev.step (f := fun _ => some true) (fun k => ?_) (Ev.now _)
    simp only [laws_eqLeaseS.l0]; rw [if_neg (by omega)]
  | succ n ih =>
    intro i hn hi
    have hlt : i < l.length := by omega
    refine Ev.step (fun k => by simp only [laws_eqLeaseS.l0]; rw [if_pos (by omega), if_pos (by omega), if_pos (by omega), wsucc hlt (by omega)]) ?_
    exact Ev.bind (eqL_ev (rd_T85 l (i : Int))) (Ev.pos rfl (ih (i + 1) (by omega) (by omega)))
theorem eqLS_ev (l : List LT) (hl : l.length ≤ 1048576) : Ev (fun k => laws_eqLeaseS.f k l l) true := by
  refine Ev.congr (fun k => ?_) (eqL_loop l hl l.length 0 (by omega) (by omega))
  unfold laws_eqLeaseS.f
  rw [if_pos rfl]; rfl
/-! ### states -/
/-- What a state's parts are bounded by, out of the machine's reach. -/
def stH (T : List KA) (P : List PA) (L : List LA) : Prop := T.length ≤ 140737488351232 ∧ (∀ i, i < T.length → (rd_T130 T (i : Int)).f0.size ≤ 140737488351232 ∧ (rd_T130 T (i : Int)).f2.f0.size ≤ 140737488351232 ∧ (rd_T130 T (i : Int)).f2.f1.length ≤ 140737488351232 ∧ ∀ y ∈ (rd_T130 T (i : Int)).f2.f1, y.size ≤ 140737488351232) ∧
  P.length ≤ 140737488351232 ∧ (∀ i, i < P.length → (rd_T132 P (i : Int)).f0.size ≤ 140737488351232 ∧ (rd_T132 P (i : Int)).f1.size ≤ 140737488351232) ∧ L.length ≤ 140737488351232 ∧ (∀ i, i < L.length → (rd_T134 L (i : Int)).f1.size ≤ 140737488351232)
/-- .. and by the law's own measure. -/
def stS (T : List KA) (P : List PA) (L : List LA) : Prop := T.length ≤ 1048576 ∧ (∀ i, i < T.length → (rd_T130 T (i : Int)).f2.f1.length ≤ 1048576) ∧ P.length ≤ 1048576 ∧ (∀ i, i < P.length → (rd_T132 P (i : Int)).f0.size ≤ 1048576) ∧ L.length ≤ 1048576
theorem szSt_ep (w nw g b : Int) (T : List KA) (P : List PA) (L : List LA) (h : stH T P L) (a : Int) (h0 : 0 ≤ a) (h1 : a ≤ 1048576) : EP (fun k => laws_szState.f k w nw g b T P L a) (fun r => left a r ∧ (0 ≤ r → stS T P L)) := by
  obtain ⟨k1, k2, k3, k4, k5, k6⟩ := h
  unfold laws_szState.f
  refine EP.bind (szKS_ep T k1 k2 a h0 h1) (fun r hr => ?_)
  obtain ⟨⟨a1, a2⟩, a3⟩ := hr
  refine EP.ite (fun c => EP.ret ⟨left.neg h0, fun h => by omega⟩) (fun c => ?_)
  refine EP.bind (szPS_ep P k3 k4 r (by omega) (by omega)) (fun r2 hr => ?_)
  obtain ⟨⟨b1, b2⟩, b3⟩ := hr
  refine EP.ite (fun c2 => EP.ret ⟨left.neg h0, fun h => by omega⟩) (fun c2 => ?_)
  refine EP.bind (szLS_ep L k5 k6 r2 (by omega) (by omega)) (fun r3 hr => ?_)
  obtain ⟨⟨c1, c2⟩, c3⟩ := hr
  refine EP.ite (fun c3 => EP.ret ⟨left.neg h0, fun h => by omega⟩) (fun c4 => ?_)
  have d1 := a3 (by omega)
  have d2 := b3 (by omega)
  have d3 := c3 (by omega)
  exact EP.ret ⟨⟨by omega, by omega⟩, fun _ => ⟨by omega, fun i hi => by have := d1.2 i hi; omega, by omega, fun i hi => by have := d2.2 i hi; omega, by omega⟩⟩
theorem toSt_ev (w nw g b : Int) (T : List KA) (P : List PA) (L : List LA) (h : stS T P L) : Ev (fun k => laws_toState.f k w nw g b T P L) (w, nw, g, b, T.map cvK, P.map cvP, L.map cvL) := by
  obtain ⟨h1, h2, h3, h4, h5⟩ := h
  exact Ev.bind (toKS_ev T h1 (fun i hi => by have := h2 i hi; omega)) (Ev.bind (toPS_ev P h3) (Ev.bind (toLS_ev L h5) (Ev.now _)))
theorem eqSt_ev (w nw g b : Int) (T : List KA) (P : List PA) (L : List LA) (h : stS T P L) : Ev (fun k => laws_eqState.f k w nw g b (T.map cvK) (P.map cvP) (L.map cvL) w nw g b (T.map cvK) (P.map cvP) (L.map cvL)) true := by
  obtain ⟨h1, h2, h3, h4, h5⟩ := h
  refine Ev.congr (fun k => by unfold laws_eqState.f; rw [if_pos rfl, if_pos rfl, if_pos rfl, if_pos rfl]) ?_
  refine Ev.bind (eqKS_ev _ (by rw [List.length_map]; exact h1) (fun i hi => ?_)) (Ev.pos rfl (Ev.bind (eqPS_ev _ (by rw [List.length_map]; exact h3)) (Ev.pos rfl (Ev.bind (eqLS_ev _ (by rw [List.length_map]; exact h5)) (Ev.pos rfl (Ev.now _))))))
  rw [List.length_map] at hi
  have := h2 i hi
  rw [rdK_map T i hi]
  show (rd_T130 T (i : Int)).f2.f1.length ≤ 140737488351232
  omega
theorem stS_refs {T : List KA} {P : List PA} {L : List LA} (h : stS T P L) : ∀ i, i < (T.map cvK).length → (rK (T.map cvK) i).f2.f1.length ≤ 140737488351232 := fun i hi => by
  rw [List.length_map] at hi
  have := h.2.1 i hi
  show (rd_T91 (T.map cvK) (i : Int)).f2.f1.length ≤ _
  rw [rdK_map T i hi]
  show (rd_T130 T (i : Int)).f2.f1.length ≤ _
  omega
theorem stS_names {T : List KA} {P : List PA} {L : List LA} (h : stS T P L) : ∀ i, i < (P.map cvP).length → (rP (P.map cvP) i).f0.size ≤ 140737488351232 := fun i hi => by
  rw [List.length_map] at hi
  have := h.2.2.2.1 i hi
  show (rd_T82 (P.map cvP) (i : Int)).f0.size ≤ _
  rw [rdP_map P i hi]
  show (rd_T132 P (i : Int)).f0.size ≤ _
  omega
/-- The bounds, out of what the machine says of an argument's room. -/
theorem stH_of {b1 b2 b3 b4 : Nat} (p1 : 0 < b1) (p2 : 0 < b2) (p3 : 0 < b3) (p4 : 0 < b4) {T : List KA} {P : List PA} {L : List LA}
    (h1 : ∀ n ∈ (T.length * b1 :: T.flatMap fun x : KA => [x.f0.size] ++ ([] ++ ([x.f2.f0.size] ++ (x.f2.f1.length * b2 :: x.f2.f1.flatMap fun s : ByteArray => [s.size])))), n ≤ 140737488351232)
    (h2 : ∀ n ∈ (P.length * b3 :: P.flatMap fun x : PA => [x.f0.size] ++ [x.f1.size]), n ≤ 140737488351232) (h3 : ∀ n ∈ (L.length * b4 :: L.flatMap fun x : LA => [] ++ ([x.f1.size] ++ [])), n ≤ 140737488351232) : stH T P L := by
  have mK : ∀ i, i < T.length → rd_T130 T (i : Int) ∈ T := fun i hi => by have e : rd_T130 T (i : Int) = T[i] := rd_get z130 T i hi; rw [e]; exact List.getElem_mem hi
  have mP : ∀ i, i < P.length → rd_T132 P (i : Int) ∈ P := fun i hi => by have e : rd_T132 P (i : Int) = P[i] := rd_get z132 P i hi; rw [e]; exact List.getElem_mem hi
  have mL : ∀ i, i < L.length → rd_T134 L (i : Int) ∈ L := fun i hi => by have e : rd_T134 L (i : Int) = L[i] := rd_get z134 L i hi; rw [e]; exact List.getElem_mem hi
  refine ⟨Nat.le_trans (Nat.le_mul_of_pos_right _ p1) (h1 _ List.mem_cons_self), fun i hi => ?_, Nat.le_trans (Nat.le_mul_of_pos_right _ p3) (h2 _ List.mem_cons_self), fun i hi => ?_, Nat.le_trans (Nat.le_mul_of_pos_right _ p4) (h3 _ List.mem_cons_self), fun i hi => ?_⟩
  · have hm := fun n hn => h1 n (List.mem_cons_of_mem _ (List.mem_flatMap.2 ⟨_, mK i hi, hn⟩))
    generalize rd_T130 T (i : Int) = x at hm ⊢
    refine ⟨hm _ (by simp), hm _ (by simp), Nat.le_trans (Nat.le_mul_of_pos_right _ p2) (hm _ (by simp)), fun y hy => hm _ (by simp; exact Or.inr (Or.inr (Or.inr ⟨y, hy, rfl⟩)))⟩
  · have hm := fun n hn => h2 n (List.mem_cons_of_mem _ (List.mem_flatMap.2 ⟨_, mP i hi, hn⟩))
    exact ⟨hm _ (by simp), hm _ (by simp)⟩
  · exact h3 _ (List.mem_cons_of_mem _ (List.mem_flatMap.2 ⟨_, mL i hi, by simp⟩))
/-- A state's room, as the machine tells it, bounds its parts. -/
theorem stH_all {T : List KA} {P : List PA} {L : List LA}
    (hz : ∀ n ∈ ([] : List Nat) ++ ([] ++ ([] ++ ([] ++ ((T.length * Try.prog.bytesOf 130 :: T.flatMap fun x : KA => [x.f0.size] ++ ([] ++ ([x.f2.f0.size] ++ (x.f2.f1.length * Try.prog.bytesOf 9 :: x.f2.f1.flatMap fun s : ByteArray => [s.size])))) ++
      ((P.length * Try.prog.bytesOf 132 :: P.flatMap fun x : PA => [x.f0.size] ++ [x.f1.size]) ++ (L.length * Try.prog.bytesOf 134 :: L.flatMap fun x : LA => [] ++ ([x.f1.size] ++ []))))))), n ≤ 140737488351232) : stH T P L := by
  simp only [List.nil_append] at hz
  exact stH_of (of_decide_eq_true (by kernel_rfl)) (of_decide_eq_true (by kernel_rfl)) (of_decide_eq_true (by kernel_rfl)) (of_decide_eq_true (by kernel_rfl))
    (fun n hn => hz n (List.mem_append_left _ (by simpa using hn))) (fun n hn => hz n (List.mem_append_right _ (List.mem_append_left _ (by simpa using hn)))) (fun n hn => hz n (List.mem_append_right _ (List.mem_append_right _ (by simpa using hn))))
theorem ep_true {g : Nat → Option Bool} (h : EP g (fun r => r = true)) : Ev g true := by obtain ⟨r, hr, e⟩ := h; subst e; exact hr
end Go.Proofs.Ytcijlemojododaa.Q

/- Plain laws of valid states: their parts. -/
namespace Go.Proofs.Ytcijlemojododaa.Q
open Go.RowKit Go.Proofs.Ytcijlemojododaa.P Go.Proofs.Ytcijlemojododaa.S Go.Proofs.YtcijlemojododaaW.PrintWords Go.Proofs.YtcijlemojododaaW.PrintLast Go.Proofs.YtcijlemojododaaW.PrintMore
set_option linter.unusedVariables false

theorem tFrom_con (w b : Int) (T : List KT) : ∀ (n i : Nat) (ks : List Int), tFrom w b T n i ks = true → ∀ j, i ≤ j → j < i + n → conB w b (rK T j) = true
  | 0, _, _, _, j, h1, h2 => by omega
  | n + 1, i, ks, h, j, h1, h2 => by
    unfold tFrom at h
    by_cases a1 : (if 0 < i then Op.bytesLess (rK T (i - 1)).f0.toList (rK T i).f0.toList else true) = true
    · rw [if_pos a1] at h
      by_cases a2 : conB w b (rK T i) = true
      · rw [if_pos a2] at h
        by_cases a3 : ks.contains (rK T i).f1 = true
        · rw [if_pos a3] at h; cases h
        · rw [if_neg a3] at h
          by_cases e : j = i
          · subst e; exact a2
          · exact tFrom_con w b T n (i + 1) _ h j (by omega) (by omega)
      · rw [if_neg a2] at h; cases h
    · rw [if_neg a1] at h; cases h
theorem stB_parts {w nw g b : Int} {T : List KT} {P : List PT} {L : List LT} (h : stB w nw g b T P L = true) :
    (widB w = true ∧ timeB nw = true ∧ timeB g = true ∧ timeB b = true) ∧ (T.length ≤ 600 ∧ P.length ≤ 100 ∧ L.length ≤ 200) ∧ tFrom w b T T.length 0 [] = true ∧ allR T T.length 0 = true ∧ pinsB T P P.length 0 = true ∧ leasesB T L nw g L.length 0 = true := by
  unfold stB at h
  by_cases c1 : widB w = true
  · rw [if_pos c1] at h
    by_cases c2 : timeB nw = true
    · rw [if_pos c2] at h
      by_cases c3 : timeB g = true
      · rw [if_pos c3] at h
        by_cases c4 : timeB b = true
        · rw [if_pos c4] at h
          by_cases c5 : T.length ≤ 600 ∧ P.length ≤ 100 ∧ L.length ≤ 200
          · rw [if_pos c5] at h
            by_cases c6 : tFrom w b T T.length 0 [] = true
            · rw [if_pos c6] at h
              by_cases c7 : allR T T.length 0 = true
              · rw [if_pos c7] at h
                by_cases c8 : pinsB T P P.length 0 = true
                · rw [if_pos c8] at h; exact ⟨⟨c1, c2, c3, c4⟩, c5, c6, c7, c8, h⟩
                · rw [if_neg c8] at h; cases h
              · rw [if_neg c7] at h; cases h
            · rw [if_neg c6] at h; cases h
          · rw [if_neg c5] at h; cases h
        · rw [if_neg c4] at h; cases h
      · rw [if_neg c3] at h; cases h
    · rw [if_neg c2] at h; cases h
  · rw [if_neg c1] at h; cases h
theorem conB_thing {w b : Int} {k : KT} (h : conB w b k = true) : thingB k.f2.f0 k.f2.f1 w = true := by
  unfold conB at h; rw [Bool.and_eq_true] at h; exact h.1
theorem stB_things {w nw g b : Int} {T : List KT} {P : List PT} {L : List LT} (h : stB w nw g b T P L = true) : T.length ≤ 600 ∧ ∀ i, i < T.length → thingB (rK T i).f2.f0 (rK T i).f2.f1 w = true := by
  obtain ⟨_, h1, h2, _⟩ := stB_parts h
  exact ⟨h1.1, fun i hi => conB_thing (tFrom_con w b T T.length 0 [] h2 i (by omega) (by omega))⟩
end Go.Proofs.Ytcijlemojododaa.Q

/- The exact law of Room comes to true. -/
namespace Go.Proofs.Ytcijlemojododaa.Q
open Go.RowKit Go.Proofs.Ytcijlemojododaa.P Go.Proofs.Ytcijlemojododaa.S Go.Proofs.YtcijlemojododaaW.PrintWords Go.Proofs.YtcijlemojododaaW.PrintLast Go.Proofs.YtcijlemojododaaW.PrintMore
set_option linter.unusedVariables false

def roomF (T : List KT) : Nat → Nat → Int → Int
  | 0, _, a => a
  | n + 1, i, a => roomF T n (i + 1) (a + ((1 + szAll (rK T i).f2.f1 + (rK T i).f2.f0.size : Nat) : Int))
theorem iRoom_loop (T : List KT) (w : Int) (hT : T.length ≤ 600) (hc : ∀ i, i < T.length → thingB (rK T i).f2.f0 (rK T i).f2.f1 w = true) (n : Nat) : ∀ (i : Nat) (a : Int), T.length - i = n → i ≤ T.length → 0 ≤ a → a ≤ 3000 * i →
    Ev (fun k => impl_State_room.l0 k a T (T.length : Int) (i : Int)) (roomF T n i a) := by
  induction n with
  | zero =>
    intro i a hn hi h0 h1
    refine Ev.step (f := fun _ => some a) (fun k => ?_) (Ev.now _)
    simp only [impl_State_room.l0]; rw [if_neg (by omega)]
  | succ n ih =>
    intro i a hn hi h0 h1
    have hlt : i < T.length := by omega
    have hs := thing_small (hc i hlt)
    have hz := formB_size (rK T i).f2.f0 (rK T i).f2.f1
    refine Ev.step (fun k => by simp only [impl_State_room.l0]; rw [if_pos (by omega), if_pos (by omega), if_pos (by omega), wsucc hlt (by omega)]) ?_
    refine Ev.bind (iForm_ev (rK T i).f2.f0 (rK T i).f2.f1 (by omega) (by omega)) ?_
    have e : wrap64 (a + ((formB (rK T i).f2.f0 (rK T i).f2.f1).size : Int)) = a + ((1 + szAll (rK T i).f2.f1 + (rK T i).f2.f0.size : Nat) : Int) := by rw [hz]; unfold wrap64; omega
    rw [e]
    exact ih (i + 1) _ (by omega) (by omega) (by omega) (by omega)
theorem sRoom_loop (T : List KT) (P : List PT) (L : List LT) (w nw g b : Int) (hT : T.length ≤ 600) (hc : ∀ i, i < T.length → thingB (rK T i).f2.f0 (rK T i).f2.f1 w = true) (n : Nat) : ∀ (i : Nat) (a : Int), T.length - i = n → i ≤ T.length → 0 ≤ a → a ≤ 3000 * i →
    Ev (fun k => spec_l5Room.l0 k a (i : Int) w nw g b T P L) (roomF T n i a) := by
  induction n with
  | zero =>
    intro i a hn hi h0 h1
    refine Ev.step (f := fun _ => some a) (fun k => ?_) (Ev.now _)
    simp only [spec_l5Room.l0]; rw [if_neg (by omega)]
  | succ n ih =>
    intro i a hn hi h0 h1
    have hlt : i < T.length := by omega
    have hs := thing_small (hc i hlt)
    have hb := thingB_le (hc i hlt)
    have hr := refs_sizes w (rK T i).f2.f1 (rK T i).f2.f1.length 0 (by omega) (by omega) hb.2.2.2.2
    rw [List.drop_zero] at hr
    refine Ev.step (fun k => by simp only [spec_l5Room.l0]; rw [if_pos (by omega), if_pos (by omega), wsucc hlt (by omega)]) ?_
    have e1 : wrap64 ((((rK T i).f2.f1).length : Int) * w) = (szAll (rK T i).f2.f1 : Int) := by rw [← hr]; unfold wrap64; omega
    have e : wrap64 ((wrap64 ((wrap64 (a + 1)) + (wrap64 ((((rK T i).f2.f1).length : Int) * w)))) + (((rK T i).f2.f0).size : Int)) = a + ((1 + szAll (rK T i).f2.f1 + (rK T i).f2.f0.size : Nat) : Int) := by rw [e1]; unfold wrap64; omega
    have e2 : wrap64 ((wrap64 ((wrap64 (a + 1)) + (wrap64 ((((rd_T91 T (i : Int)).f2.f1).length : Int) * w)))) + (((rd_T91 T (i : Int)).f2.f0).size : Int)) = a + ((1 + szAll (rK T i).f2.f1 + (rK T i).f2.f0.size : Nat) : Int) := e
    rw [e2]
    exact ih (i + 1) _ (by omega) (by omega) (by omega) (by omega)
def roomB (w nw g b : Int) (T : List KT) (P : List PT) (L : List LT) : Int := if stB w nw g b T P L = true then roomF T T.length 0 0 else 0
theorem iRoom_ev (w nw g b : Int) (T : List KT) (P : List PT) (L : List LT) (hr : ∀ i, i < T.length → (rK T i).f2.f1.length ≤ 140737488351232) (hn0 : ∀ i, i < P.length → (rP P i).f0.size ≤ 140737488351232) :
    Ev (fun k => impl_Room.f k w nw g b T P L) (roomB w nw g b T P L) := by
  unfold impl_Room.f roomB
  refine Ev.bind (iVS_ev w nw g b T P L hr hn0) ?_
  refine Ev.ite' (fun c => ?_) (fun c => by rw [if_neg c]; exact Ev.now _)
  rw [if_pos c]
  have h := stB_things c
  exact Ev.bind (Ev.congr (fun k => by unfold impl_State_room.f; rfl) (iRoom_loop T w h.1 h.2 T.length 0 0 (by omega) (by omega) (by omega) (by omega))) (Ev.now _)
theorem sRoom_ev (w nw g b : Int) (T : List KT) (P : List PT) (L : List LT) (hr : ∀ i, i < T.length → (rK T i).f2.f1.length ≤ 140737488351232) (hn0 : ∀ i, i < P.length → (rP P i).f0.size ≤ 140737488351232) :
    Ev (fun k => spec_Room.f k w nw g b T P L) (roomB w nw g b T P L) := by
  unfold spec_Room.f roomB
  refine Ev.bind (sVS_ev w nw g b T P L hr hn0) ?_
  refine Ev.ite' (fun c => ?_) (fun c => by rw [if_neg c]; exact Ev.now _)
  rw [if_pos c]
  have h := stB_things c
  exact Ev.bind (Ev.congr (fun k => by unfold spec_l5Room.f; rfl) (sRoom_loop T P L w nw g b h.1 h.2 T.length 0 0 (by omega) (by omega) (by omega) (by omega))) (Ev.now _)
theorem room_pure (w nw g b : Int) (T : List KA) (P : List PA) (L : List LA) (h : stH T P L) : Ev (fun k => laws_FnExactRoom.f k w nw g b T P L) true := by
  refine ep_true ?_
  unfold laws_FnExactRoom.f
  refine EP.bind (szSt_ep w nw g b T P L h 1048576 (by omega) (by omega)) (fun r hr => ?_)
  refine EP.ite (fun _ => EP.ret rfl) (fun c => ?_)
  have hs := hr.2 (by omega)
  refine EP.of ?_ rfl
  refine Ev.bind (toSt_ev w nw g b T P L hs) ?_
  refine Ev.bind (sRoom_ev w nw g b (T.map cvK) (P.map cvP) (L.map cvL) (stS_refs hs) (stS_names hs)) ?_
  refine Ev.bind (toSt_ev w nw g b T P L hs) ?_
  refine Ev.bind (iRoom_ev w nw g b (T.map cvK) (P.map cvP) (L.map cvL) (stS_refs hs) (stS_names hs)) ?_
  refine Ev.pos rfl ?_
  refine Ev.bind (toSt_ev w nw g b T P L hs) ?_
  exact Ev.bind (eqSt_ev w nw g b T P L hs) (Ev.pos rfl (Ev.now _))
theorem room_all (w nw g b : Int) (T : List KA) (P : List PA) (L : List LA)
    (hz : ∀ n ∈ ([] : List Nat) ++ ([] ++ ([] ++ ([] ++ ((T.length * Try.prog.bytesOf 130 :: T.flatMap fun x : KA => [x.f0.size] ++ ([] ++ ([x.f2.f0.size] ++ (x.f2.f1.length * Try.prog.bytesOf 9 :: x.f2.f1.flatMap fun s : ByteArray => [s.size])))) ++
      ((P.length * Try.prog.bytesOf 132 :: P.flatMap fun x : PA => [x.f0.size] ++ [x.f1.size]) ++ (L.length * Try.prog.bytesOf 134 :: L.flatMap fun x : LA => [] ++ ([x.f1.size] ++ []))))))), n ≤ 140737488351232) :
    Ev (fun k => laws_FnExactRoom.f k w nw g b T P L) true := room_pure w nw g b T P L (stH_all hz)
end Go.Proofs.Ytcijlemojododaa.Q

namespace Go.Proofs.Ytcijlemojododaa.P
open Go.RowKit Go.Proofs.YtcijlemojododaaW.PrintWords Go.Proofs.YtcijlemojododaaW.PrintLast Go.Proofs.YtcijlemojododaaW.PrintMore
attribute [local go_sem] max2_int min2_int max_two min_two max_three min_three max_four min_four   -- for this text's walks alone
set_option linter.unusedVariables false
set_option linter.unusedSimpArgs false
/-! ### laws_FnExactValidState: function 3 -/
def laws_FnExactValidState.f (k : Nat) (a0_0 : Int) (a0_1 : Int) (a0_2 : Int) (a0_3 : Int) (l0_4 : List (S130)) (l0_5 : List (S132)) (l0_6 : List (S134)) : Option (Bool) := (laws_szState.f k a0_0 a0_1 a0_2 a0_3 l0_4 l0_5 l0_6 1048576).bind fun t329 => (if t329 < 0 then (some true) else ((laws_toState.f k a0_0 a0_1 a0_2 a0_3 l0_4 l0_5 l0_6).bind fun bt330 => ((spec_ValidState.f k bt330.1 bt330.2.1 bt330.2.2.1 bt330.2.2.2.1 bt330.2.2.2.2.1 bt330.2.2.2.2.2.1 bt330.2.2.2.2.2.2).bind fun t343 => ((laws_toState.f k a0_0 a0_1 a0_2 a0_3 l0_4 l0_5 l0_6).bind fun bt344 => ((impl_ValidState.f k bt344.1 bt344.2.1 bt344.2.2.1 bt344.2.2.2.1 bt344.2.2.2.2.1 bt344.2.2.2.2.2.1 bt344.2.2.2.2.2.2).bind fun t358 => (if (t358 != t343) = true then (none) else ((laws_toState.f k a0_0 a0_1 a0_2 a0_3 l0_4 l0_5 l0_6).bind fun bt359 => ((laws_eqState.f k bt344.1 bt344.2.1 bt344.2.2.1 bt344.2.2.2.1 bt344.2.2.2.2.1 bt344.2.2.2.2.2.1 bt344.2.2.2.2.2.2 bt359.1 bt359.2.1 bt359.2.2.1 bt359.2.2.2.1 bt359.2.2.2.2.1 bt359.2.2.2.2.2.1 bt359.2.2.2.2.2.2).bind fun t372 => (if t372 = true then (some true) else (none))))))))))
set_option maxHeartbeats 8000000 in
set_option maxRecDepth 100000 in
theorem laws_FnExactValidState.calls (k : Nat) (a0_0 : Int) (a0_1 : Int) (a0_2 : Int) (a0_3 : Int) (A0_4 : Option Addr) (c0_4 : Nat) (l0_4 : List (S130)) (A0_5 : Option Addr) (c0_5 : Nat) (l0_5 : List (S132)) (A0_6 : Option Addr) (c0_6 : Nat) (l0_6 : List (S134)) (r : Bool) (w : World) (hr0_4 : Kd.C k130 w A0_4 l0_4.length l0_4) (hc0_4 : l0_4.length ≤ c0_4) (hr0_5 : Kd.C k132 w A0_5 l0_5.length l0_5) (hc0_5 : l0_5.length ≤ c0_5) (hr0_6 : Kd.C k134 w A0_6 l0_6.length l0_6) (hc0_6 : l0_6.length ≤ c0_6) (h : laws_FnExactValidState.f k a0_0 a0_1 a0_2 a0_3 l0_4 l0_5 l0_6 = some r) :
  Calls Try.prog 3 #[.agg #[.int .i64 a0_0, .int .i64 a0_1, .int .i64 a0_2, .int .i64 a0_3, .slice A0_4 l0_4.length c0_4, .slice A0_5 l0_5.length c0_5, .slice A0_6 l0_6.length c0_6]] w fun e w' => e = .returned (.bool r) ∧ Below w.heap.size w w' := by
 have hu26 := Try.underlying26
 have hu33 := Try.underlying33
 have HR0_4 := Aside0.mk hr0_4
 have HC0_4 := Aside0.mk hc0_4
 clear hr0_4 hc0_4
 have HR0_5 := Aside0.mk hr0_5
 have HC0_5 := Aside0.mk hc0_5
 clear hr0_5 hc0_5
 have HR0_6 := Aside0.mk hr0_6
 have HC0_6 := Aside0.mk hc0_6
 clear hr0_6 hc0_6
 have HB := am__ (Below.refl w.heap.size w)
 have H : ((laws_szState.f k a0_0 a0_1 a0_2 a0_3 l0_4 l0_5 l0_6 1048576).bind fun t329 => (if t329 < 0 then (some true) else ((laws_toState.f k a0_0 a0_1 a0_2 a0_3 l0_4 l0_5 l0_6).bind fun bt330 => ((spec_ValidState.f k bt330.1 bt330.2.1 bt330.2.2.1 bt330.2.2.2.1 bt330.2.2.2.2.1 bt330.2.2.2.2.2.1 bt330.2.2.2.2.2.2).bind fun t343 => ((laws_toState.f k a0_0 a0_1 a0_2 a0_3 l0_4 l0_5 l0_6).bind fun bt344 => ((impl_ValidState.f k bt344.1 bt344.2.1 bt344.2.2.1 bt344.2.2.2.1 bt344.2.2.2.2.1 bt344.2.2.2.2.2.1 bt344.2.2.2.2.2.2).bind fun t358 => (if (t358 != t343) = true then (none) else ((laws_toState.f k a0_0 a0_1 a0_2 a0_3 l0_4 l0_5 l0_6).bind fun bt359 => ((laws_eqState.f k bt344.1 bt344.2.1 bt344.2.2.1 bt344.2.2.2.1 bt344.2.2.2.2.1 bt344.2.2.2.2.2.1 bt344.2.2.2.2.2.2 bt359.1 bt359.2.1 bt359.2.2.1 bt359.2.2.2.1 bt359.2.2.2.2.1 bt359.2.2.2.2.2.1 bt359.2.2.2.2.2.2).bind fun t372 => (if t372 = true then (some true) else (none))))))))))) = some r := h
 clear h
 replace H := Option.bind_eq_some_iff.mp H
 obtain ⟨t329, A20, H⟩ := H
 replace H : (if t329 < 0 then (some true) else ((laws_toState.f k a0_0 a0_1 a0_2 a0_3 l0_4 l0_5 l0_6).bind fun bt330 => ((spec_ValidState.f k bt330.1 bt330.2.1 bt330.2.2.1 bt330.2.2.2.1 bt330.2.2.2.2.1 bt330.2.2.2.2.2.1 bt330.2.2.2.2.2.2).bind fun t343 => ((laws_toState.f k a0_0 a0_1 a0_2 a0_3 l0_4 l0_5 l0_6).bind fun bt344 => ((impl_ValidState.f k bt344.1 bt344.2.1 bt344.2.2.1 bt344.2.2.2.1 bt344.2.2.2.2.1 bt344.2.2.2.2.2.1 bt344.2.2.2.2.2.2).bind fun t358 => (if (t358 != t343) = true then (none) else ((laws_toState.f k a0_0 a0_1 a0_2 a0_3 l0_4 l0_5 l0_6).bind fun bt359 => ((laws_eqState.f k bt344.1 bt344.2.1 bt344.2.2.1 bt344.2.2.2.1 bt344.2.2.2.2.1 bt344.2.2.2.2.2.1 bt344.2.2.2.2.2.2 bt359.1 bt359.2.1 bt359.2.2.1 bt359.2.2.2.1 bt359.2.2.2.2.1 bt359.2.2.2.2.2.1 bt359.2.2.2.2.2.2).bind fun t372 => (if t372 = true then (some true) else (none)))))))))) = some r := H
 have A2 := Aside0.mk A20
 clear A20
 by_cases c3 : t329 < 0
 ·rw [if_pos c3] at H
  have c3b0 : decide (t329 < 0) = true := decide_eq_true c3
  clear c3
  obtain rfl := Option.some.inj H
  go_enter Try.func3, Try.ntmps3
  go_wp2_with (first | ((with_reducible refine gate_dst (N := 1) rfl ?_); refine be__ 1 #[.int .i64 a0_0, .int .i64 a0_1, .int .i64 a0_2, .int .i64 a0_3, .slice A0_4 l0_4.length c0_4, .slice A0_5 l0_5.length c0_5, .slice A0_6 l0_6.length c0_6] 26 ?_; intro gb328 hg w4 hbox hb; have BK328 := am__ (hbox); have GW328 := am__ ((bsz__ hg bel__ : w.heap.size ≤ gb328)); have GE328 := am__ ((bsz__ hg bel__ : w.heap.size ≤ gb328)); replace HB := am__ (below_step (bel__) hb); clear hb hbox hg; obtain ⟨hcz5_0, hcz5_1, hcz5_2, hcz5_3, hcz5_4, hcz5_5, hcz5_6, hfz5_0, hfz5_1, hfz5_2, hfz5_3, hfz5_4, hfz5_5, hfz5_6⟩ := bk7__ BK328.out) | ((with_reducible refine gate_callee (f := 10) rfl ?_); refine gl__ (some 9) Try.func10 #[.agg #[.int .i64 a0_0, .int .i64 a0_1, .int .i64 a0_2, .int .i64 a0_3, .slice A0_4 l0_4.length c0_4, .slice A0_5 l0_5.length c0_5, .slice A0_6 l0_6.length c0_6], .int .i64 1048576] ?_; (with_reducible refine (laws_szState.calls k a0_0 a0_1 a0_2 a0_3 _ _ l0_4 _ _ l0_5 _ _ l0_6 1048576 t329 _ ?side1 HC0_4.out ?side3 HC0_5.out ?side5 HC0_6.out A2.out).mono ?_); (case side1 => repeat (first | exact (Kd.C_below HR0_4.out HB.out) | (with_reducible refine Kd.C_alloc ?_ _) | (with_reducible refine Kd.C_drewN ?_ _) | (with_reducible refine Kd.C_drew ?_))); (case side3 => repeat (first | exact (Kd.C_below HR0_5.out HB.out) | (with_reducible refine Kd.C_alloc ?_ _) | (with_reducible refine Kd.C_drewN ?_ _) | (with_reducible refine Kd.C_drew ?_))); (case side5 => repeat (first | exact (Kd.C_below HR0_6.out HB.out) | (with_reducible refine Kd.C_alloc ?_ _) | (with_reducible refine Kd.C_drewN ?_ _) | (with_reducible refine Kd.C_drew ?_))); rintro e w6 ⟨rfl, hb⟩; refine ⟨_, rfl, ?_⟩; replace BK328 := am__ (blb__ BK328.out hb); replace HB := am__ (below_step (bel__) hb); clear hb))
  go_ret
  exact ⟨by first | rfl | (simp [errW_none, errW_some] <;> rfl) | (simp [*, errW_none, errW_some] <;> rfl), bel__⟩
 ·rw [if_neg c3] at H
  have c3b0 : decide (t329 < 0) = false := decide_eq_false c3
  clear c3
  replace H := Option.bind_eq_some_iff.mp H
  obtain ⟨⟨t330, t331, t332, t333, t334, t337, t340⟩, A70, H⟩ := H
  replace H : ((spec_ValidState.f k t330 t331 t332 t333 t334 t337 t340).bind fun t343 => ((laws_toState.f k a0_0 a0_1 a0_2 a0_3 l0_4 l0_5 l0_6).bind fun bt344 => ((impl_ValidState.f k bt344.1 bt344.2.1 bt344.2.2.1 bt344.2.2.2.1 bt344.2.2.2.2.1 bt344.2.2.2.2.2.1 bt344.2.2.2.2.2.2).bind fun t358 => (if (t358 != t343) = true then (none) else ((laws_toState.f k a0_0 a0_1 a0_2 a0_3 l0_4 l0_5 l0_6).bind fun bt359 => ((laws_eqState.f k bt344.1 bt344.2.1 bt344.2.2.1 bt344.2.2.2.1 bt344.2.2.2.2.1 bt344.2.2.2.2.2.1 bt344.2.2.2.2.2.2 bt359.1 bt359.2.1 bt359.2.2.1 bt359.2.2.2.1 bt359.2.2.2.2.1 bt359.2.2.2.2.2.1 bt359.2.2.2.2.2.2).bind fun t372 => (if t372 = true then (some true) else (none)))))))) = some r := H
  have A7 := Aside0.mk A70
  clear A70
  replace H := Option.bind_eq_some_iff.mp H
  obtain ⟨t343, A80, H⟩ := H
  replace H : ((laws_toState.f k a0_0 a0_1 a0_2 a0_3 l0_4 l0_5 l0_6).bind fun bt344 => ((impl_ValidState.f k bt344.1 bt344.2.1 bt344.2.2.1 bt344.2.2.2.1 bt344.2.2.2.2.1 bt344.2.2.2.2.2.1 bt344.2.2.2.2.2.2).bind fun t358 => (if (t358 != t343) = true then (none) else ((laws_toState.f k a0_0 a0_1 a0_2 a0_3 l0_4 l0_5 l0_6).bind fun bt359 => ((laws_eqState.f k bt344.1 bt344.2.1 bt344.2.2.1 bt344.2.2.2.1 bt344.2.2.2.2.1 bt344.2.2.2.2.2.1 bt344.2.2.2.2.2.2 bt359.1 bt359.2.1 bt359.2.2.1 bt359.2.2.2.1 bt359.2.2.2.2.1 bt359.2.2.2.2.2.1 bt359.2.2.2.2.2.2).bind fun t372 => (if t372 = true then (some true) else (none))))))) = some r := H
  have A8 := Aside0.mk A80
  clear A80
  replace H := Option.bind_eq_some_iff.mp H
  obtain ⟨⟨t344, t345, t346, t347, t348, t351, t354⟩, A90, H⟩ := H
  replace H : ((impl_ValidState.f k t344 t345 t346 t347 t348 t351 t354).bind fun t358 => (if (t358 != t343) = true then (none) else ((laws_toState.f k a0_0 a0_1 a0_2 a0_3 l0_4 l0_5 l0_6).bind fun bt359 => ((laws_eqState.f k t344 t345 t346 t347 t348 t351 t354 bt359.1 bt359.2.1 bt359.2.2.1 bt359.2.2.2.1 bt359.2.2.2.2.1 bt359.2.2.2.2.2.1 bt359.2.2.2.2.2.2).bind fun t372 => (if t372 = true then (some true) else (none)))))) = some r := H
  have A9 := Aside0.mk A90
  clear A90
  replace H := Option.bind_eq_some_iff.mp H
  obtain ⟨t358, A100, H⟩ := H
  replace H : (if (t358 != t343) = true then (none) else ((laws_toState.f k a0_0 a0_1 a0_2 a0_3 l0_4 l0_5 l0_6).bind fun bt359 => ((laws_eqState.f k t344 t345 t346 t347 t348 t351 t354 bt359.1 bt359.2.1 bt359.2.2.1 bt359.2.2.2.1 bt359.2.2.2.2.1 bt359.2.2.2.2.2.1 bt359.2.2.2.2.2.2).bind fun t372 => (if t372 = true then (some true) else (none))))) = some r := H
  have A10 := Aside0.mk A100
  clear A100
  by_cases c11 : (t358 != t343) = true
  ·rw [if_pos c11] at H
   exact absurd H (by simp)
  ·rw [if_neg c11] at H
   have c11b0 : (t358 != t343) = false := by simpa using c11
   (try (have c11b1 : decide (t358 = t343) = true := by simpa using c11))
   (try (have c11b2 : (t358 == t343) = true := by simpa using c11))
   clear c11
   replace H := Option.bind_eq_some_iff.mp H
   obtain ⟨⟨t359, t360, t361, t362, t363, t366, t369⟩, A120, H⟩ := H
   replace H : ((laws_eqState.f k t344 t345 t346 t347 t348 t351 t354 t359 t360 t361 t362 t363 t366 t369).bind fun t372 => (if t372 = true then (some true) else (none))) = some r := H
   have A12 := Aside0.mk A120
   clear A120
   replace H := Option.bind_eq_some_iff.mp H
   obtain ⟨t372, A130, H⟩ := H
   replace H : (if t372 = true then (some true) else (none)) = some r := H
   have A13 := Aside0.mk A130
   clear A130
   by_cases c14 : t372 = true
   ·subst c14
    have H1 : (some true) = some r := by rw [if_pos rfl] at H; exact H
    clear H
    have H := H1
    clear H1
    obtain rfl := Option.some.inj H
    go_enter Try.func3, Try.ntmps3
    try go_wp2_with (first | ((with_reducible refine gate_dst (N := 1) rfl ?_); refine be__ 1 #[.int .i64 a0_0, .int .i64 a0_1, .int .i64 a0_2, .int .i64 a0_3, .slice A0_4 l0_4.length c0_4, .slice A0_5 l0_5.length c0_5, .slice A0_6 l0_6.length c0_6] 26 ?_; intro gb328 hg w15 hbox hb; have BK328 := am__ (hbox); have GW328 := am__ ((bsz__ hg bel__ : w.heap.size ≤ gb328)); have GE328 := am__ ((bsz__ hg bel__ : w.heap.size ≤ gb328)); replace HB := am__ (below_step (bel__) hb); clear hb hbox hg; obtain ⟨hcz16_0, hcz16_1, hcz16_2, hcz16_3, hcz16_4, hcz16_5, hcz16_6, hfz16_0, hfz16_1, hfz16_2, hfz16_3, hfz16_4, hfz16_5, hfz16_6⟩ := bk7__ BK328.out) | ((with_reducible refine gate_callee (f := 10) rfl ?_); refine gl__ (some 9) Try.func10 #[.agg #[.int .i64 a0_0, .int .i64 a0_1, .int .i64 a0_2, .int .i64 a0_3, .slice A0_4 l0_4.length c0_4, .slice A0_5 l0_5.length c0_5, .slice A0_6 l0_6.length c0_6], .int .i64 1048576] ?_; (with_reducible refine (laws_szState.calls k a0_0 a0_1 a0_2 a0_3 _ _ l0_4 _ _ l0_5 _ _ l0_6 1048576 t329 _ ?side1 HC0_4.out ?side3 HC0_5.out ?side5 HC0_6.out A2.out).mono ?_); (case side1 => repeat (first | exact (Kd.C_below HR0_4.out HB.out) | (with_reducible refine Kd.C_alloc ?_ _) | (with_reducible refine Kd.C_drewN ?_ _) | (with_reducible refine Kd.C_drew ?_))); (case side3 => repeat (first | exact (Kd.C_below HR0_5.out HB.out) | (with_reducible refine Kd.C_alloc ?_ _) | (with_reducible refine Kd.C_drewN ?_ _) | (with_reducible refine Kd.C_drew ?_))); (case side5 => repeat (first | exact (Kd.C_below HR0_6.out HB.out) | (with_reducible refine Kd.C_alloc ?_ _) | (with_reducible refine Kd.C_drewN ?_ _) | (with_reducible refine Kd.C_drew ?_))); rintro e w17 ⟨rfl, hb⟩; refine ⟨_, rfl, ?_⟩; replace BK328 := am__ (blb__ BK328.out hb); replace HB := am__ (below_step (bel__) hb); clear hb; obtain ⟨hcz18_0, hcz18_1, hcz18_2, hcz18_3, hcz18_4, hcz18_5, hcz18_6, hfz18_0, hfz18_1, hfz18_2, hfz18_3, hfz18_4, hfz18_5, hfz18_6⟩ := bk7__ BK328.out) | ((with_reducible refine gate_callee (f := 12) rfl ?_); refine gl__ (some 13) Try.func12 #[.agg #[.int .i64 a0_0, .int .i64 a0_1, .int .i64 a0_2, .int .i64 a0_3, .slice A0_4 l0_4.length c0_4, .slice A0_5 l0_5.length c0_5, .slice A0_6 l0_6.length c0_6]] ?_; (with_reducible refine (laws_toState.calls k a0_0 a0_1 a0_2 a0_3 _ _ l0_4 _ _ l0_5 _ _ l0_6 t330 t331 t332 t333 t334 t337 t340 _ ?side1 HC0_4.out ?side3 HC0_5.out ?side5 HC0_6.out A7.out).mono ?_); (case side1 => repeat (first | exact (Kd.C_below HR0_4.out HB.out) | (with_reducible refine Kd.C_alloc ?_ _) | (with_reducible refine Kd.C_drewN ?_ _) | (with_reducible refine Kd.C_drew ?_))); (case side3 => repeat (first | exact (Kd.C_below HR0_5.out HB.out) | (with_reducible refine Kd.C_alloc ?_ _) | (with_reducible refine Kd.C_drewN ?_ _) | (with_reducible refine Kd.C_drew ?_))); (case side5 => repeat (first | exact (Kd.C_below HR0_6.out HB.out) | (with_reducible refine Kd.C_alloc ?_ _) | (with_reducible refine Kd.C_drewN ?_ _) | (with_reducible refine Kd.C_drew ?_))); rintro e w19 ⟨v335, v338, v341, rfl, ho0, ho1, ho2, hb⟩; refine ⟨_, rfl, ?_⟩; have HO336 := am__ (Kd.S_lower ho0 (below_size (bel__))); have HO339 := am__ (Kd.R_lower ho1 (below_size (bel__))); have HO342 := am__ (Kd.R_lower ho2 (below_size (bel__))); replace BK328 := am__ (blb__ BK328.out hb); replace HB := am__ (below_step (bel__) hb); clear hb; (try clear ho0); (try clear ho1); (try clear ho2); obtain ⟨Ao20, co20, eo20⟩ := Kd.S_slice HO336.out; subst eo20; obtain ⟨Ao21, co21, eo21⟩ := Kd.R_slice HO339.out; subst eo21; obtain ⟨Ao22, co22, eo22⟩ := Kd.R_slice HO342.out; subst eo22) | ((with_reducible refine gate_callee (f := 11) rfl ?_); refine gl__ (some 14) Try.func11 #[.agg #[.int .i64 t330, .int .i64 t331, .int .i64 t332, .int .i64 t333, .slice Ao20 t334.length co20, .slice Ao21 t337.length co21, .slice Ao22 t340.length co22]] ?_; (with_reducible refine (spec_ValidState.calls k t330 t331 t332 t333 _ _ t334 _ _ t337 _ _ t340 t343 _ ?side1 ?side2 ?side3 ?side4 ?side5 ?side6 A8.out).mono ?_); (case side1 => repeat (first | exact (Kd.S_reads' HO336.out).2.2 | (with_reducible refine Kd.C_alloc ?_ _) | (with_reducible refine Kd.C_drewN ?_ _) | (with_reducible refine Kd.C_drew ?_))); (case side2 => exact (Kd.S_reads' HO336.out).2.1); (case side3 => repeat (first | exact (Kd.R_reads' HO339.out).2.2 | (with_reducible refine Kd.C_alloc ?_ _) | (with_reducible refine Kd.C_drewN ?_ _) | (with_reducible refine Kd.C_drew ?_))); (case side4 => exact (Kd.R_reads' HO339.out).2.1); (case side5 => repeat (first | exact (Kd.R_reads' HO342.out).2.2 | (with_reducible refine Kd.C_alloc ?_ _) | (with_reducible refine Kd.C_drewN ?_ _) | (with_reducible refine Kd.C_drew ?_))); (case side6 => exact (Kd.R_reads' HO342.out).2.1); rintro e w23 ⟨rfl, hb⟩; refine ⟨_, rfl, ?_⟩; replace HO336 := am__ (Kd.S_below (by (with_reducible repeat (first | apply Kd.S_alloc | apply Kd.S_drewN | apply Kd.S_drew)); exact HO336.out) hb); replace HO339 := am__ (Kd.R_below (rr__ HO339.out) hb); replace HO342 := am__ (Kd.R_below (rr__ HO342.out) hb); replace BK328 := am__ (blb__ BK328.out hb); replace HB := am__ (below_step (bel__) hb); clear hb; obtain ⟨hcz24_0, hcz24_1, hcz24_2, hcz24_3, hcz24_4, hcz24_5, hcz24_6, hfz24_0, hfz24_1, hfz24_2, hfz24_3, hfz24_4, hfz24_5, hfz24_6⟩ := bk7__ BK328.out) | ((with_reducible refine gate_callee (f := 12) rfl ?_); refine gl__ (some 16) Try.func12 #[.agg #[.int .i64 a0_0, .int .i64 a0_1, .int .i64 a0_2, .int .i64 a0_3, .slice A0_4 l0_4.length c0_4, .slice A0_5 l0_5.length c0_5, .slice A0_6 l0_6.length c0_6]] ?_; (with_reducible refine (laws_toState.calls k a0_0 a0_1 a0_2 a0_3 _ _ l0_4 _ _ l0_5 _ _ l0_6 t344 t345 t346 t347 t348 t351 t354 _ ?side1 HC0_4.out ?side3 HC0_5.out ?side5 HC0_6.out A9.out).mono ?_); (case side1 => repeat (first | exact (Kd.C_below HR0_4.out HB.out) | (with_reducible refine Kd.C_alloc ?_ _) | (with_reducible refine Kd.C_drewN ?_ _) | (with_reducible refine Kd.C_drew ?_))); (case side3 => repeat (first | exact (Kd.C_below HR0_5.out HB.out) | (with_reducible refine Kd.C_alloc ?_ _) | (with_reducible refine Kd.C_drewN ?_ _) | (with_reducible refine Kd.C_drew ?_))); (case side5 => repeat (first | exact (Kd.C_below HR0_6.out HB.out) | (with_reducible refine Kd.C_alloc ?_ _) | (with_reducible refine Kd.C_drewN ?_ _) | (with_reducible refine Kd.C_drew ?_))); rintro e w25 ⟨v349, v352, v355, rfl, ho0, ho1, ho2, hb⟩; refine ⟨_, rfl, ?_⟩; have HO350 := am__ (Kd.S_lower (Kd.S_new' ho0 (Kd.S_lt (by (with_reducible repeat (first | apply Kd.S_alloc | apply Kd.S_drewN | apply Kd.S_drew)); exact HO336.out))) (below_size (bel__))); replace HO336 := am__ (Kd.S_elder' (by (with_reducible repeat (first | apply Kd.S_alloc | apply Kd.S_drewN | apply Kd.S_drew)); exact HO336.out) (Kd.S_base ho0) hb); have HO353 := am__ (Kd.R_lower (Kd.R_new' ho1 (Kd.R_lt (rr__ HO339.out))) (below_size (bel__))); replace HO339 := am__ (Kd.R_elder' (rr__ HO339.out) (Kd.R_base ho1) hb); have HO356 := am__ (Kd.R_lower (Kd.R_new' ho2 (Kd.R_lt (rr__ HO342.out))) (below_size (bel__))); replace HO342 := am__ (Kd.R_elder' (rr__ HO342.out) (Kd.R_base ho2) hb); replace BK328 := am__ (blb__ BK328.out hb); replace HB := am__ (below_step (bel__) hb); clear hb; (try clear ho0); (try clear ho1); (try clear ho2)) | ((with_reducible refine gate_dst (N := 5) rfl ?_); refine be__ 5 #[.int .i64 0, .int .i64 0, .int .i64 0, .int .i64 0, .slice none 0 0, .slice none 0 0, .slice none 0 0] 33 ?_; intro gb357 hg w26 hbox hb; replace HO336 := am__ (Kd.S_below (by (with_reducible repeat (first | apply Kd.S_alloc | apply Kd.S_drewN | apply Kd.S_drew)); exact HO336.out) hb); replace HO339 := am__ (Kd.R_below (rr__ HO339.out) hb); replace HO342 := am__ (Kd.R_below (rr__ HO342.out) hb); replace HO350 := am__ (Kd.S_below (by (with_reducible repeat (first | apply Kd.S_alloc | apply Kd.S_drewN | apply Kd.S_drew)); exact HO350.out) hb); replace HO353 := am__ (Kd.R_below (rr__ HO353.out) hb); replace HO356 := am__ (Kd.R_below (rr__ HO356.out) hb); have BK357 := am__ (hbox); have GW357 := am__ ((bsz__ hg bel__ : w.heap.size ≤ gb357)); have GE357 := am__ ((bsz__ hg bel__ : w.heap.size ≤ gb357)); replace HB := am__ (below_step (bel__) hb); have NB328_357 := am__ ((nl__ hg BK328.out : gb328 ≠ gb357)); have NB357_328 := am__ ((ng__ hg BK328.out : gb357 ≠ gb328)); replace BK328 := am__ (blb__ BK328.out hb); clear hb hbox hg; have hnb27 := NB357_328.out; have hnc27 := NB328_357.out; obtain ⟨hcz28_0, hcz28_1, hcz28_2, hcz28_3, hcz28_4, hcz28_5, hcz28_6, hfz28_0, hfz28_1, hfz28_2, hfz28_3, hfz28_4, hfz28_5, hfz28_6⟩ := bk7__ BK357.out; obtain ⟨Ao29, co29, eo29⟩ := Kd.S_slice HO350.out; subst eo29; obtain ⟨Ao30, co30, eo30⟩ := Kd.R_slice HO353.out; subst eo30; obtain ⟨Ao31, co31, eo31⟩ := Kd.R_slice HO356.out; subst eo31) | ((with_reducible refine gate_callee (f := 13) rfl ?_); refine gl__ (some 18) Try.func13 #[.agg #[.int .i64 t344, .int .i64 t345, .int .i64 t346, .int .i64 t347, .slice Ao29 t348.length co29, .slice Ao30 t351.length co30, .slice Ao31 t354.length co31]] ?_; (with_reducible refine (impl_ValidState.calls k t344 t345 t346 t347 _ _ t348 _ _ t351 _ _ t354 t358 _ ?side1 ?side2 ?side3 ?side4 ?side5 ?side6 A10.out).mono ?_); (case side1 => refine (Kd.S_reads' (e := 91) (base := w.heap.size) (ok := fun k_ => (True ∧ some k_ ≠ (ob__ Ao20 t334.length co20))) (n := t348.length) (c := co29) ?_).2.2; exact (by (with_reducible repeat (first | apply Kd.S_alloc | apply Kd.S_drewN | apply Kd.S_drew)); exact (Kd.S_mono (Kd.S_far (p := ⟨gb357, 6, none⟩) (Kd.S_far (p := ⟨gb357, 5, none⟩) (Kd.S_far (p := ⟨gb357, 4, none⟩) (Kd.S_far (p := ⟨gb357, 3, none⟩) (Kd.S_far (p := ⟨gb357, 2, none⟩) (Kd.S_far (p := ⟨gb357, 1, none⟩) (Kd.S_far (p := ⟨gb357, 0, none⟩) (Kd.S_types HO350.out BK357.out (by decide)) h2__ (.int .i64 t344)) h2__ (.int .i64 t345)) h2__ (.int .i64 t346)) h2__ (.int .i64 t347)) h2__ (.slice Ao29 t348.length co29)) h2__ (.slice Ao30 t351.length co30)) h2__ (.slice Ao31 t354.length co31)) h1__))); (case side2 => exact (Kd.S_reads' HO350.out).2.1); (case side3 => refine (Kd.R_reads' (e := 82) (base := w.heap.size) (ok := fun k_ => (True ∧ some k_ ≠ (ob__ Ao21 t337.length co21))) (n := t351.length) (c := co30) ?_).2.2; exact (by refine rps__ ?_; exact (Kd.R_mono (Kd.R_far (p := ⟨gb357, 6, none⟩) (Kd.R_far (p := ⟨gb357, 5, none⟩) (Kd.R_far (p := ⟨gb357, 4, none⟩) (Kd.R_far (p := ⟨gb357, 3, none⟩) (Kd.R_far (p := ⟨gb357, 2, none⟩) (Kd.R_far (p := ⟨gb357, 1, none⟩) (Kd.R_far (p := ⟨gb357, 0, none⟩) (Kd.R_types HO353.out BK357.out (by decide)) h2__ (.int .i64 t344)) h2__ (.int .i64 t345)) h2__ (.int .i64 t346)) h2__ (.int .i64 t347)) h2__ (.slice Ao29 t348.length co29)) h2__ (.slice Ao30 t351.length co30)) h2__ (.slice Ao31 t354.length co31)) h1__))); (case side4 => exact (Kd.R_reads' HO353.out).2.1); (case side5 => refine (Kd.R_reads' (e := 85) (base := w.heap.size) (ok := fun k_ => (True ∧ some k_ ≠ (ob__ Ao22 t340.length co22))) (n := t354.length) (c := co31) ?_).2.2; exact (by refine rps__ ?_; exact (Kd.R_mono (Kd.R_far (p := ⟨gb357, 6, none⟩) (Kd.R_far (p := ⟨gb357, 5, none⟩) (Kd.R_far (p := ⟨gb357, 4, none⟩) (Kd.R_far (p := ⟨gb357, 3, none⟩) (Kd.R_far (p := ⟨gb357, 2, none⟩) (Kd.R_far (p := ⟨gb357, 1, none⟩) (Kd.R_far (p := ⟨gb357, 0, none⟩) (Kd.R_types HO356.out BK357.out (by decide)) h2__ (.int .i64 t344)) h2__ (.int .i64 t345)) h2__ (.int .i64 t346)) h2__ (.int .i64 t347)) h2__ (.slice Ao29 t348.length co29)) h2__ (.slice Ao30 t351.length co30)) h2__ (.slice Ao31 t354.length co31)) h1__))); (case side6 => exact (Kd.R_reads' HO356.out).2.1); rintro e w32 ⟨rfl, hb⟩; refine ⟨_, rfl, ?_⟩; replace HO336 := am__ (Kd.S_below (by (with_reducible repeat (first | apply Kd.S_alloc | apply Kd.S_drewN | apply Kd.S_drew)); exact (Kd.S_mono (Kd.S_far (p := ⟨gb357, 6, none⟩) (Kd.S_far (p := ⟨gb357, 5, none⟩) (Kd.S_far (p := ⟨gb357, 4, none⟩) (Kd.S_far (p := ⟨gb357, 3, none⟩) (Kd.S_far (p := ⟨gb357, 2, none⟩) (Kd.S_far (p := ⟨gb357, 1, none⟩) (Kd.S_far (p := ⟨gb357, 0, none⟩) (Kd.S_types HO336.out BK357.out (by decide)) h2__ (.int .i64 t344)) h2__ (.int .i64 t345)) h2__ (.int .i64 t346)) h2__ (.int .i64 t347)) h2__ (.slice Ao29 t348.length co29)) h2__ (.slice Ao30 t351.length co30)) h2__ (.slice Ao31 t354.length co31)) h1__)) hb); replace HO339 := am__ (Kd.R_below (by refine rps__ ?_; exact (Kd.R_mono (Kd.R_far (p := ⟨gb357, 6, none⟩) (Kd.R_far (p := ⟨gb357, 5, none⟩) (Kd.R_far (p := ⟨gb357, 4, none⟩) (Kd.R_far (p := ⟨gb357, 3, none⟩) (Kd.R_far (p := ⟨gb357, 2, none⟩) (Kd.R_far (p := ⟨gb357, 1, none⟩) (Kd.R_far (p := ⟨gb357, 0, none⟩) (Kd.R_types HO339.out BK357.out (by decide)) h2__ (.int .i64 t344)) h2__ (.int .i64 t345)) h2__ (.int .i64 t346)) h2__ (.int .i64 t347)) h2__ (.slice Ao29 t348.length co29)) h2__ (.slice Ao30 t351.length co30)) h2__ (.slice Ao31 t354.length co31)) h1__)) hb); replace HO342 := am__ (Kd.R_below (by refine rps__ ?_; exact (Kd.R_mono (Kd.R_far (p := ⟨gb357, 6, none⟩) (Kd.R_far (p := ⟨gb357, 5, none⟩) (Kd.R_far (p := ⟨gb357, 4, none⟩) (Kd.R_far (p := ⟨gb357, 3, none⟩) (Kd.R_far (p := ⟨gb357, 2, none⟩) (Kd.R_far (p := ⟨gb357, 1, none⟩) (Kd.R_far (p := ⟨gb357, 0, none⟩) (Kd.R_types HO342.out BK357.out (by decide)) h2__ (.int .i64 t344)) h2__ (.int .i64 t345)) h2__ (.int .i64 t346)) h2__ (.int .i64 t347)) h2__ (.slice Ao29 t348.length co29)) h2__ (.slice Ao30 t351.length co30)) h2__ (.slice Ao31 t354.length co31)) h1__)) hb); replace HO350 := am__ (Kd.S_below (by (with_reducible repeat (first | apply Kd.S_alloc | apply Kd.S_drewN | apply Kd.S_drew)); exact (Kd.S_mono (Kd.S_far (p := ⟨gb357, 6, none⟩) (Kd.S_far (p := ⟨gb357, 5, none⟩) (Kd.S_far (p := ⟨gb357, 4, none⟩) (Kd.S_far (p := ⟨gb357, 3, none⟩) (Kd.S_far (p := ⟨gb357, 2, none⟩) (Kd.S_far (p := ⟨gb357, 1, none⟩) (Kd.S_far (p := ⟨gb357, 0, none⟩) (Kd.S_types HO350.out BK357.out (by decide)) h2__ (.int .i64 t344)) h2__ (.int .i64 t345)) h2__ (.int .i64 t346)) h2__ (.int .i64 t347)) h2__ (.slice Ao29 t348.length co29)) h2__ (.slice Ao30 t351.length co30)) h2__ (.slice Ao31 t354.length co31)) h1__)) hb); replace HO353 := am__ (Kd.R_below (by refine rps__ ?_; exact (Kd.R_mono (Kd.R_far (p := ⟨gb357, 6, none⟩) (Kd.R_far (p := ⟨gb357, 5, none⟩) (Kd.R_far (p := ⟨gb357, 4, none⟩) (Kd.R_far (p := ⟨gb357, 3, none⟩) (Kd.R_far (p := ⟨gb357, 2, none⟩) (Kd.R_far (p := ⟨gb357, 1, none⟩) (Kd.R_far (p := ⟨gb357, 0, none⟩) (Kd.R_types HO353.out BK357.out (by decide)) h2__ (.int .i64 t344)) h2__ (.int .i64 t345)) h2__ (.int .i64 t346)) h2__ (.int .i64 t347)) h2__ (.slice Ao29 t348.length co29)) h2__ (.slice Ao30 t351.length co30)) h2__ (.slice Ao31 t354.length co31)) h1__)) hb); replace HO356 := am__ (Kd.R_below (by refine rps__ ?_; exact (Kd.R_mono (Kd.R_far (p := ⟨gb357, 6, none⟩) (Kd.R_far (p := ⟨gb357, 5, none⟩) (Kd.R_far (p := ⟨gb357, 4, none⟩) (Kd.R_far (p := ⟨gb357, 3, none⟩) (Kd.R_far (p := ⟨gb357, 2, none⟩) (Kd.R_far (p := ⟨gb357, 1, none⟩) (Kd.R_far (p := ⟨gb357, 0, none⟩) (Kd.R_types HO356.out BK357.out (by decide)) h2__ (.int .i64 t344)) h2__ (.int .i64 t345)) h2__ (.int .i64 t346)) h2__ (.int .i64 t347)) h2__ (.slice Ao29 t348.length co29)) h2__ (.slice Ao30 t351.length co30)) h2__ (.slice Ao31 t354.length co31)) h1__)) hb); replace BK328 := am__ (blk_below (g := gb328) (o := .cells #[.int .i64 a0_0, .int .i64 a0_1, .int .i64 a0_2, .int .i64 a0_3, .slice A0_4 l0_4.length c0_4, .slice A0_5 l0_5.length c0_5, .slice A0_6 l0_6.length c0_6] 26 (0, 0)) (blf7__ BK328.out) hb); replace BK357 := am__ (blk_below (g := gb357) (o := .cells #[.int .i64 t344, .int .i64 t345, .int .i64 t346, .int .i64 t347, .slice Ao29 t348.length co29, .slice Ao30 t351.length co30, .slice Ao31 t354.length co31] 33 (0, 0)) (bpu__ BK357.out) hb); replace HB := am__ (below_step (bel__) hb); clear hb))
    replace HO336 := am__ (Kd.S_drew HO336.out)
    replace HO339 := am__ (Kd.R_drew HO339.out)
    replace HO342 := am__ (Kd.R_drew HO342.out)
    replace HO350 := am__ (Kd.S_drew HO350.out)
    replace HO353 := am__ (Kd.R_drew HO353.out)
    replace HO356 := am__ (Kd.R_drew HO356.out)
    replace BK328 := am__ (blk_drew BK328.out)
    replace BK357 := am__ (blk_drew BK357.out)
    replace HB := am__ (below_drew1 HB.out)
    refine start_ (n := 5) (S := fun w' => w'.cell? ⟨gb357, 0, none⟩ = some (.int .i64 t344) ∧ w'.cell? ⟨gb357, 1, none⟩ = some (.int .i64 t345) ∧ w'.cell? ⟨gb357, 2, none⟩ = some (.int .i64 t346) ∧ w'.cell? ⟨gb357, 3, none⟩ = some (.int .i64 t347) ∧ w'.cell? ⟨gb357, 4, none⟩ = some (.slice Ao29 t348.length co29) ∧ w'.cell? ⟨gb357, 5, none⟩ = some (.slice Ao30 t351.length co30) ∧ w'.cell? ⟨gb357, 6, none⟩ = some (.slice Ao31 t354.length co31) ∧ w'.cell? ⟨gb328, 0, none⟩ = some (.int .i64 a0_0) ∧ w'.cell? ⟨gb328, 1, none⟩ = some (.int .i64 a0_1) ∧ w'.cell? ⟨gb328, 2, none⟩ = some (.int .i64 a0_2) ∧ w'.cell? ⟨gb328, 3, none⟩ = some (.int .i64 a0_3) ∧ w'.cell? ⟨gb328, 4, none⟩ = some (.slice A0_4 l0_4.length c0_4) ∧ w'.cell? ⟨gb328, 5, none⟩ = some (.slice A0_5 l0_5.length c0_5) ∧ w'.cell? ⟨gb328, 6, none⟩ = some (.slice A0_6 l0_6.length c0_6)) (ds := []) #[false, false, false, false, false] (by kernel_rfl) rfl rfl ⟨bc__ BK357.out 0, bc__ BK357.out 1, bc__ BK357.out 2, bc__ BK357.out 3, bc__ BK357.out 4, bc__ BK357.out 5, bc__ BK357.out 6, bc__ BK328.out 0, bc__ BK328.out 1, bc__ BK328.out 2, bc__ BK328.out 3, bc__ BK328.out 4, bc__ BK328.out 5, bc__ BK328.out 6⟩ (fun hHeld => ?_)
    generalize w32.drew = w33 at HO336 HO339 HO342 HO350 HO353 HO356 BK328 BK357 HB hHeld ⊢
    refine take_ (i := 0) (N := some 22) (v := ?_) (a' := ?_) #[true, false, false, false, false] rfl rfl (by kernel_rfl) (fun _ _ _ h => h) (Or.inl ⟨by rfl, ?_⟩) hHeld ?_ ?_
    rotate_left
    ·rintro w' ⟨s0, s1, s2, s3, s4, s5, s6, s7, s8, s9, s10, s11, s12, s13⟩
     go_simp
     with_reducible rfl
    rotate_left
    ·simp only [Act.put, List.setIfInBounds_toArray, List.set_cons_zero, List.set_cons_succ, i64_w, i32_w]
     rfl
    refine take_ (i := 1) (N := some 23) (v := ?_) (a' := ?_) #[true, true, false, false, false] rfl rfl (by kernel_rfl) (fun _ _ _ h => h) (Or.inl ⟨by rfl, ?_⟩) hHeld ?_ ?_
    rotate_left
    ·rintro w' ⟨s0, s1, s2, s3, s4, s5, s6, s7, s8, s9, s10, s11, s12, s13⟩
     go_simp
     with_reducible rfl
    rotate_left
    ·simp only [Act.put, List.setIfInBounds_toArray, List.set_cons_zero, List.set_cons_succ, i64_w, i32_w]
     rfl
    refine one_ (i := 2) (N := some 24) #[true, true, true, false, false] rfl rfl (by kernel_rfl) (by decide) (fun K hK => ?_)
    refine gs__ Try.func12 #[.agg #[.int .i64 a0_0, .int .i64 a0_1, .int .i64 a0_2, .int .i64 a0_3, .slice A0_4 l0_4.length c0_4, .slice A0_5 l0_5.length c0_5, .slice A0_6 l0_6.length c0_6]] ?_
    with_reducible refine (laws_toState.calls k a0_0 a0_1 a0_2 a0_3 _ _ l0_4 _ _ l0_5 _ _ l0_6 t359 t360 t361 t362 t363 t366 t369 _ ?side1 ?side2 ?side3 ?side4 ?side5 ?side6 A12.out).mono ?_
    (case side1 => repeat (first | exact (Kd.C_below HR0_4.out HB.out) | (with_reducible refine Kd.C_alloc ?_ _) | (with_reducible refine Kd.C_drewN ?_ _) | (with_reducible refine Kd.C_drew ?_)))
    (case side2 => exact HC0_4.out)
    (case side3 => repeat (first | exact (Kd.C_below HR0_5.out HB.out) | (with_reducible refine Kd.C_alloc ?_ _) | (with_reducible refine Kd.C_drewN ?_ _) | (with_reducible refine Kd.C_drew ?_)))
    (case side4 => exact HC0_5.out)
    (case side5 => repeat (first | exact (Kd.C_below HR0_6.out HB.out) | (with_reducible refine Kd.C_alloc ?_ _) | (with_reducible refine Kd.C_drewN ?_ _) | (with_reducible refine Kd.C_drew ?_)))
    (case side6 => exact HC0_6.out)
    rintro e w34 ⟨v364, v367, v370, rfl, ho0, ho1, ho2, hb⟩
    refine ⟨_, rfl, ?_⟩
    have HO365 := am__ (Kd.S_lower (Kd.S_new' (Kd.S_new' ho0 (Kd.S_lt (by (with_reducible repeat (first | apply Kd.S_alloc | apply Kd.S_drewN | apply Kd.S_drew)); exact HO336.out))) (Kd.S_lt (by (with_reducible repeat (first | apply Kd.S_alloc | apply Kd.S_drewN | apply Kd.S_drew)); exact HO350.out))) (below_size (bel__)))
    replace HO336 := am__ (Kd.S_elder' (by (with_reducible repeat (first | apply Kd.S_alloc | apply Kd.S_drewN | apply Kd.S_drew)); exact HO336.out) (Kd.S_base ho0) hb)
    replace HO350 := am__ (Kd.S_elder' (by (with_reducible repeat (first | apply Kd.S_alloc | apply Kd.S_drewN | apply Kd.S_drew)); exact HO350.out) (Kd.S_base ho0) hb)
    have HO368 := am__ (Kd.R_lower (Kd.R_new' (Kd.R_new' ho1 (Kd.R_lt (rr__ HO339.out))) (Kd.R_lt (rr__ HO353.out))) (below_size (bel__)))
    replace HO339 := am__ (Kd.R_elder' (rr__ HO339.out) (Kd.R_base ho1) hb)
    replace HO353 := am__ (Kd.R_elder' (rr__ HO353.out) (Kd.R_base ho1) hb)
    have HO371 := am__ (Kd.R_lower (Kd.R_new' (Kd.R_new' ho2 (Kd.R_lt (rr__ HO342.out))) (Kd.R_lt (rr__ HO356.out))) (below_size (bel__)))
    replace HO342 := am__ (Kd.R_elder' (rr__ HO342.out) (Kd.R_base ho2) hb)
    replace HO356 := am__ (Kd.R_elder' (rr__ HO356.out) (Kd.R_base ho2) hb)
    replace BK328 := am__ (blb__ BK328.out hb)
    replace BK357 := am__ (blb__ BK357.out hb)
    replace HB := am__ (below_step (bel__) hb)
    (try clear hb)
    (try clear hb2)
    (try clear hk)
    (try clear hi)
    (try clear ho0)
    (try clear ho1)
    (try clear ho2)
    obtain ⟨Ao35, co35, eo35⟩ := Kd.S_slice HO365.out
    (first | subst eo35 | (injection eo35 with f1_ f2_ f3_; have f4_ := f1_.symm; have f5_ := f3_.symm; clear f1_ f2_ f3_; subst f4_; subst f5_))
    obtain ⟨Ao36, co36, eo36⟩ := Kd.R_slice HO368.out
    (first | subst eo36 | (injection eo36 with f1_ f2_ f3_; have f4_ := f1_.symm; have f5_ := f3_.symm; clear f1_ f2_ f3_; subst f4_; subst f5_))
    obtain ⟨Ao37, co37, eo37⟩ := Kd.R_slice HO371.out
    (first | subst eo37 | (injection eo37 with f1_ f2_ f3_; have f4_ := f1_.symm; have f5_ := f3_.symm; clear f1_ f2_ f3_; subst f4_; subst f5_))
    refine hK.out _ _ ⟨bc__ BK357.out 0, bc__ BK357.out 1, bc__ BK357.out 2, bc__ BK357.out 3, bc__ BK357.out 4, bc__ BK357.out 5, bc__ BK357.out 6, bc__ BK328.out 0, bc__ BK328.out 1, bc__ BK328.out 2, bc__ BK328.out 3, bc__ BK328.out 4, bc__ BK328.out 5, bc__ BK328.out 6⟩ (fun hHeld => ?_)
    clear hK K
    refine na__ 24 ?_
    refine one_ (i := 3) (N := some 25) #[true, true, true, true, false] rfl rfl (by kernel_rfl) (by decide) (fun K hK => ?_)
    refine gs__ Try.func14 #[.agg #[.int .i64 t344, .int .i64 t345, .int .i64 t346, .int .i64 t347, .slice Ao29 t348.length co29, .slice Ao30 t351.length co30, .slice Ao31 t354.length co31], .agg #[.int .i64 t359, .int .i64 t360, .int .i64 t361, .int .i64 t362, .slice Ao35 t363.length co35, .slice Ao36 t366.length co36, .slice Ao37 t369.length co37]] ?_
    with_reducible refine (laws_eqState.calls k t344 t345 t346 t347 _ _ t348 _ _ t351 _ _ t354 t359 t360 t361 t362 _ _ t363 _ _ t366 _ _ t369 true _ ?side1 ?side2 ?side3 ?side4 ?side5 ?side6 ?side7 ?side8 ?side9 ?side10 ?side11 ?side12 A13.out).mono ?_
    (case side1 => repeat (first | exact (Kd.S_reads' HO350.out).2.2 | (with_reducible refine Kd.C_alloc ?_ _) | (with_reducible refine Kd.C_drewN ?_ _) | (with_reducible refine Kd.C_drew ?_)))
    (case side2 => exact (Kd.S_reads' HO350.out).2.1)
    (case side3 => repeat (first | exact (Kd.R_reads' HO353.out).2.2 | (with_reducible refine Kd.C_alloc ?_ _) | (with_reducible refine Kd.C_drewN ?_ _) | (with_reducible refine Kd.C_drew ?_)))
    (case side4 => exact (Kd.R_reads' HO353.out).2.1)
    (case side5 => repeat (first | exact (Kd.R_reads' HO356.out).2.2 | (with_reducible refine Kd.C_alloc ?_ _) | (with_reducible refine Kd.C_drewN ?_ _) | (with_reducible refine Kd.C_drew ?_)))
    (case side6 => exact (Kd.R_reads' HO356.out).2.1)
    (case side7 => repeat (first | exact (Kd.S_reads' HO365.out).2.2 | (with_reducible refine Kd.C_alloc ?_ _) | (with_reducible refine Kd.C_drewN ?_ _) | (with_reducible refine Kd.C_drew ?_)))
    (case side8 => exact (Kd.S_reads' HO365.out).2.1)
    (case side9 => repeat (first | exact (Kd.R_reads' HO368.out).2.2 | (with_reducible refine Kd.C_alloc ?_ _) | (with_reducible refine Kd.C_drewN ?_ _) | (with_reducible refine Kd.C_drew ?_)))
    (case side10 => exact (Kd.R_reads' HO368.out).2.1)
    (case side11 => repeat (first | exact (Kd.R_reads' HO371.out).2.2 | (with_reducible refine Kd.C_alloc ?_ _) | (with_reducible refine Kd.C_drewN ?_ _) | (with_reducible refine Kd.C_drew ?_)))
    (case side12 => exact (Kd.R_reads' HO371.out).2.1)
    rintro e w38 ⟨rfl, hb⟩
    refine ⟨_, rfl, ?_⟩
    replace HO336 := am__ (Kd.S_below (by (with_reducible repeat (first | apply Kd.S_alloc | apply Kd.S_drewN | apply Kd.S_drew)); exact HO336.out) hb)
    replace HO339 := am__ (Kd.R_below (rr__ HO339.out) hb)
    replace HO342 := am__ (Kd.R_below (rr__ HO342.out) hb)
    replace HO350 := am__ (Kd.S_below (by (with_reducible repeat (first | apply Kd.S_alloc | apply Kd.S_drewN | apply Kd.S_drew)); exact HO350.out) hb)
    replace HO353 := am__ (Kd.R_below (rr__ HO353.out) hb)
    replace HO356 := am__ (Kd.R_below (rr__ HO356.out) hb)
    replace HO365 := am__ (Kd.S_below (by (with_reducible repeat (first | apply Kd.S_alloc | apply Kd.S_drewN | apply Kd.S_drew)); exact HO365.out) hb)
    replace HO368 := am__ (Kd.R_below (rr__ HO368.out) hb)
    replace HO371 := am__ (Kd.R_below (rr__ HO371.out) hb)
    replace BK328 := am__ (blb__ BK328.out hb)
    replace BK357 := am__ (blb__ BK357.out hb)
    replace HB := am__ (below_step (bel__) hb)
    (try clear hb)
    (try clear hb2)
    (try clear hk)
    (try clear hi)
    refine hK.out _ _ ⟨bc__ BK357.out 0, bc__ BK357.out 1, bc__ BK357.out 2, bc__ BK357.out 3, bc__ BK357.out 4, bc__ BK357.out 5, bc__ BK357.out 6, bc__ BK328.out 0, bc__ BK328.out 1, bc__ BK328.out 2, bc__ BK328.out 3, bc__ BK328.out 4, bc__ BK328.out 5, bc__ BK328.out 6⟩ (fun hHeld => ?_)
    clear hK K
    refine na__ 25 ?_
    refine pure_ (i := 4) (N := some 26) (v := ?_) (a' := ?_) #[true, true, true, true, true] rfl rfl (by kernel_rfl) (fun _ _ _ h => h) (Or.inl ⟨by rfl, ?_⟩) ?_ ?_
    rotate_left
    ·intro w'
     go_simp
     with_reducible rfl
    rotate_left
    ·simp only [Act.put, List.setIfInBounds_toArray, List.set_cons_zero, List.set_cons_succ, i64_w, i32_w]
     rfl
    refine done_ (by kernel_rfl) ?_
    try go_wp2
    go_ret
    exact ⟨by first | rfl | (simp [errW_none, errW_some] <;> rfl) | (simp [*, errW_none, errW_some] <;> rfl), bel__⟩
   ·replace c14 := Bool.eq_false_iff.mpr c14
    subst c14
    have H1 : (none) = some r := by rw [if_neg (show ¬ (false = true) by decide)] at H; exact H
    clear H
    have H := H1
    clear H1
    exact absurd H (by simp)
end Go.Proofs.Ytcijlemojododaa.P

/- The exact law of ValidState comes to true. -/
namespace Go.Proofs.Ytcijlemojododaa.Q
open Go.RowKit Go.Proofs.Ytcijlemojododaa.P Go.Proofs.Ytcijlemojododaa.S Go.Proofs.YtcijlemojododaaW.PrintWords Go.Proofs.YtcijlemojododaaW.PrintLast Go.Proofs.YtcijlemojododaaW.PrintMore
set_option linter.unusedVariables false

theorem validState_pure (w nw g b : Int) (T : List KA) (P : List PA) (L : List LA) (h : stH T P L) : Ev (fun k => laws_FnExactValidState.f k w nw g b T P L) true := by
  refine ep_true ?_
  unfold laws_FnExactValidState.f
  refine EP.bind (szSt_ep w nw g b T P L h 1048576 (by omega) (by omega)) (fun r hr => ?_)
  refine EP.ite (fun _ => EP.ret rfl) (fun c => ?_)
  have hs := hr.2 (by omega)
  refine EP.of ?_ rfl
  refine Ev.bind (toSt_ev w nw g b T P L hs) ?_
  refine Ev.bind (sVS_ev w nw g b (T.map cvK) (P.map cvP) (L.map cvL) (stS_refs hs) (stS_names hs)) ?_
  refine Ev.bind (toSt_ev w nw g b T P L hs) ?_
  refine Ev.bind (iVS_ev w nw g b (T.map cvK) (P.map cvP) (L.map cvL) (stS_refs hs) (stS_names hs)) ?_
  refine Ev.neg (by simp) ?_
  refine Ev.bind (toSt_ev w nw g b T P L hs) ?_
  exact Ev.bind (eqSt_ev w nw g b T P L hs) (Ev.pos rfl (Ev.now _))
theorem validState_all (w nw g b : Int) (T : List KA) (P : List PA) (L : List LA)
    (hz : ∀ n ∈ ([] : List Nat) ++ ([] ++ ([] ++ ([] ++ ((T.length * Try.prog.bytesOf 130 :: T.flatMap fun x : KA => [x.f0.size] ++ ([] ++ ([x.f2.f0.size] ++ (x.f2.f1.length * Try.prog.bytesOf 9 :: x.f2.f1.flatMap fun s : ByteArray => [s.size])))) ++
      ((P.length * Try.prog.bytesOf 132 :: P.flatMap fun x : PA => [x.f0.size] ++ [x.f1.size]) ++ (L.length * Try.prog.bytesOf 134 :: L.flatMap fun x : LA => [] ++ ([x.f1.size] ++ []))))))), n ≤ 140737488351232) :
    Ev (fun k => laws_FnExactValidState.f k w nw g b T P L) true :=
  validState_pure w nw g b T P L (stH_all hz)
end Go.Proofs.Ytcijlemojododaa.Q
