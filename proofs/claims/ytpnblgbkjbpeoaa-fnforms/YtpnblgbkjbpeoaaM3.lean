/- Part 3 of the proof of FnForms: what it leans on. -/
import Derived.Test.YtpnblgbkjbpeoaaM1
import Derived.Test.YtpnblgbkjbpeoaaM2

namespace Go.Proofs.Ytpnblgbkjbpeoaa.P
open Go.RowKit Go.Proofs.YtpnblgbkjbpeoaaW.PrintWords Go.Proofs.YtpnblgbkjbpeoaaW.PrintLast Go.Proofs.YtpnblgbkjbpeoaaW.PrintMore
attribute [local go_sem] max2_int min2_int max_two min_two max_three min_three max_four min_four   -- for this text's walks alone
set_option linter.unusedVariables false
set_option linter.unusedSimpArgs false
/-! ### impl_entryOk: function 75 -/
mutual
def impl_entryOk.j0 : Nat → Int → Bool → Int → ByteArray → ByteArray → Int → ByteArray → List ByteArray → Option (Bool)
 | 0, _, _, _, _, _, _, _, _ => none
 | k + 1, x1, x19, x785000, x785001, x785002, x785003, x785004, x785005 => if x19 = true then (some false) else ((impl_usesSum.f x785000).bind fun t786 => (if t786 = true then (if (x785001.size : Int) = x1 then ((impl_usesSum.f x785000).bind fun t787 => (if t787 = true then (impl_entryOk.j1 k x1 false x785000 x785001 x785002 x785003 x785004 x785005) else (impl_entryOk.j1 k x1 (x785001.toList != ([] : List UInt8)) x785000 x785001 x785002 x785003 x785004 x785005))) else (impl_entryOk.j1 k x1 true x785000 x785001 x785002 x785003 x785004 x785005)) else ((impl_usesSum.f x785000).bind fun t788 => (if t788 = true then (impl_entryOk.j1 k x1 false x785000 x785001 x785002 x785003 x785004 x785005) else (impl_entryOk.j1 k x1 (x785001.toList != ([] : List UInt8)) x785000 x785001 x785002 x785003 x785004 x785005)))))
def impl_entryOk.j1 : Nat → Int → Bool → Int → ByteArray → ByteArray → Int → ByteArray → List ByteArray → Option (Bool)
 | 0, _, _, _, _, _, _, _, _ => none
 | k + 1, x1, x40, x785000, x785001, x785002, x785003, x785004, x785005 => if x40 = true then (some false) else ((impl_usesName.f x785000).bind fun t789 => (if t789 = true then ((impl_nameOk.f k x785002).bind fun t790 => (if t790 = true then ((impl_usesName.f x785000).bind fun t791 => (if t791 = true then (impl_entryOk.j2 k x1 false x785000 x785001 x785002 x785003 x785004 x785005) else (impl_entryOk.j2 k x1 (x785002.toList != ([] : List UInt8)) x785000 x785001 x785002 x785003 x785004 x785005))) else (impl_entryOk.j2 k x1 true x785000 x785001 x785002 x785003 x785004 x785005))) else ((impl_usesName.f x785000).bind fun t792 => (if t792 = true then (impl_entryOk.j2 k x1 false x785000 x785001 x785002 x785003 x785004 x785005) else (impl_entryOk.j2 k x1 (x785002.toList != ([] : List UInt8)) x785000 x785001 x785002 x785003 x785004 x785005)))))
def impl_entryOk.j2 : Nat → Int → Bool → Int → ByteArray → ByteArray → Int → ByteArray → List ByteArray → Option (Bool)
 | 0, _, _, _, _, _, _, _, _ => none
 | k + 1, x1, x60, x785000, x785001, x785002, x785003, x785004, x785005 => if x60 = true then (some false) else (if x785000 = 1 then (impl_entryOk.j3 k x1 0 0 x785000 (x785000 == 1) x785000 x785001 x785002 x785003 x785004 x785005) else (if x785000 = 4 then (impl_entryOk.j3 k x1 0 0 x785000 (x785000 == 4) x785000 x785001 x785002 x785003 x785004 x785005) else (impl_entryOk.j3 k x1 0 0 x785000 (x785000 == 6) x785000 x785001 x785002 x785003 x785004 x785005)))
def impl_entryOk.j4 : Nat → Int → Int → Int → Int → ByteArray → ByteArray → Int → ByteArray → List ByteArray → Option (Bool)
 | 0, _, _, _, _, _, _, _, _, _ => none
 | k + 1, x1, x5, x6, x785000, x785001, x785002, x785003, x785004, x785005 => if x785003 < x5 then (impl_entryOk.j5 k x1 true x785000 x785001 x785002 x785003 x785004 x785005) else (impl_entryOk.j5 k x1 (decide (x785003 > x6)) x785000 x785001 x785002 x785003 x785004 x785005)
def impl_entryOk.j5 : Nat → Int → Bool → Int → ByteArray → ByteArray → Int → ByteArray → List ByteArray → Option (Bool)
 | 0, _, _, _, _, _, _, _, _ => none
 | k + 1, x1, x78, x785000, x785001, x785002, x785003, x785004, x785005 => if x78 = true then (some false) else (if x785000 = 1 then ((impl_thingOk.f k x785004 x785005 x1).bind fun t793 => (some t793)) else (if x785004.toList = ([] : List UInt8) then (some ((x785005.length : Int) == 0)) else (some false)))
def impl_entryOk.j3 : Nat → Int → Int → Int → Int → Bool → Int → ByteArray → ByteArray → Int → ByteArray → List ByteArray → Option (Bool)
 | 0, _, _, _, _, _, _, _, _, _, _, _ => none
 | k + 1, x1, x5, x6, x62, x63, x785000, x785001, x785002, x785003, x785004, x785005 => if x63 = true then (impl_entryOk.j4 k x1 1 100000 x785000 x785001 x785002 x785003 x785004 x785005) else (if x62 = 5 then (impl_entryOk.j4 k x1 1 1000000000 x785000 x785001 x785002 x785003 x785004 x785005) else (impl_entryOk.j4 k x1 x5 x6 x785000 x785001 x785002 x785003 x785004 x785005))
end
def impl_entryOk.f (k : Nat) (a0_0 : Int) (a0_1 : ByteArray) (a0_2 : ByteArray) (a0_3 : Int) (a0_4 : ByteArray) (l0_5 : List ByteArray) (a1 : Int) : Option (Bool) := if a0_0 < 1 then (impl_entryOk.j0 k a1 true a0_0 a0_1 a0_2 a0_3 a0_4 l0_5) else (if a0_0 > 7 then (impl_entryOk.j0 k a1 true a0_0 a0_1 a0_2 a0_3 a0_4 l0_5) else ((impl_widthOk.f a1).bind fun t785 => (impl_entryOk.j0 k a1 (!t785) a0_0 a0_1 a0_2 a0_3 a0_4 l0_5)))
set_option maxHeartbeats 8000000 in
set_option maxRecDepth 100000 in
theorem impl_entryOk.calls (k : Nat) (a0_0 : Int) (a0_1 : ByteArray) (a0_2 : ByteArray) (a0_3 : Int) (a0_4 : ByteArray) (A0_5 : Option Addr) (c0_5 : Nat) (l0_5 : List ByteArray) (a1 : Int) (r : Bool) (w : World) (hr0_5 : Kd.C Kd.string w A0_5 l0_5.length l0_5) (hc0_5 : l0_5.length ≤ c0_5) (h : impl_entryOk.f k a0_0 a0_1 a0_2 a0_3 a0_4 l0_5 a1 = some r) :
  Calls Try.prog 75 #[.agg #[.int .i64 a0_0, .string a0_1, .string a0_2, .int .i64 a0_3, .string a0_4, .slice A0_5 l0_5.length c0_5], .int .i64 a1] w fun e w' => e = .returned (.bool r) ∧ Below w.heap.size w w' := by
 have hu63 := Try.underlying63
 have hu38 := Try.underlying38
 have HR0_5 := Aside0.mk hr0_5
 have HC0_5 := Aside0.mk hc0_5
 clear hr0_5 hc0_5
 have HB := am__ (Below.refl w.heap.size w)
 have H : (if a0_0 < 1 then (impl_entryOk.j0 k a1 true a0_0 a0_1 a0_2 a0_3 a0_4 l0_5) else (if a0_0 > 7 then (impl_entryOk.j0 k a1 true a0_0 a0_1 a0_2 a0_3 a0_4 l0_5) else ((impl_widthOk.f a1).bind fun t785 => (impl_entryOk.j0 k a1 (!t785) a0_0 a0_1 a0_2 a0_3 a0_4 l0_5)))) = some r := h
 clear h
 have HC3 := Aside0.mk H
 clear H
 go_enter Try.func75, Try.ntmps75
 go_upto_region 1 with (first | ((with_reducible refine gate_dst (N := 2) rfl ?_); (try (refine gate_guard (by rfl) ?_; dsimp only)); refine be__ 2 #[.int .i64 a0_0, .string a0_1, .string a0_2, .int .i64 a0_3, .string a0_4, .slice A0_5 l0_5.length c0_5] 63 ?_; intro gb784 hg w4 hbox hb; have BK784 := am__ (hbox); have GW784 := am__ ((bsz__ hg bel__ : w.heap.size ≤ gb784)); have GE784 := am__ ((bsz__ hg bel__ : w.heap.size ≤ gb784)); replace HB := am__ (below_step (bel__) hb); clear hb hbox hg))
 (try simp only [Act.put, List.setIfInBounds_toArray, List.set_cons_zero, List.set_cons_succ])
 go_cut [19] (fun v19 wc => ∃ (kq : Nat) (x19_2 : Bool), v19 = .bool x19_2 ∧ Aside0 (impl_entryOk.j0 kq a1 x19_2 a0_0 a0_1 a0_2 a0_3 a0_4 l0_5 = some r) ∧ Aside0 (kq ≤ k) ∧ Aside0 (wc.heap[gb784]? = some (.cells #[.int .i64 a0_0, .string a0_1, .string a0_2, .int .i64 a0_3, .string a0_4, (.slice A0_5 l0_5.length c0_5)] 63 (0, 0))) ∧ Aside0 (Below w.heap.size w wc))
 case first =>
  have H := HC3.out
  clear HC3
  by_cases c5 : a0_0 < 1
  ·rw [if_pos c5] at H
   have c5b0 : decide (a0_0 < 1) = true := decide_eq_true c5
   clear c5
   (first | rw [c5b0] | (simp only [i64_w, i32_w]; rw [c5b0]) | skip)
   have H' := Aside0.mk H
   clear H
   have hcz6_0 : w4.cell? ⟨gb784, 0, none⟩ = some (.int .i64 a0_0) := (blk_cell BK784.out 0).trans rfl
   have hcz6_1 : w4.cell? ⟨gb784, 1, none⟩ = some (.string a0_1) := (blk_cell BK784.out 1).trans rfl
   have hcz6_2 : w4.cell? ⟨gb784, 2, none⟩ = some (.string a0_2) := (blk_cell BK784.out 2).trans rfl
   have hcz6_3 : w4.cell? ⟨gb784, 3, none⟩ = some (.int .i64 a0_3) := (blk_cell BK784.out 3).trans rfl
   have hcz6_4 : w4.cell? ⟨gb784, 4, none⟩ = some (.string a0_4) := (blk_cell BK784.out 4).trans rfl
   have hcz6_5 : w4.cell? ⟨gb784, 5, none⟩ = some (.slice A0_5 l0_5.length c0_5) := (blk_cell BK784.out 5).trans rfl
   have hfz6_0 := blk_frozen BK784.out 0
   have hfz6_1 := blk_frozen BK784.out 1
   have hfz6_2 := blk_frozen BK784.out 2
   have hfz6_3 := blk_frozen BK784.out 3
   have hfz6_4 := blk_frozen BK784.out 4
   have hfz6_5 := blk_frozen BK784.out 5
   go_wp2
   go_meet
   case rel => exact ⟨_, (true), (rf__), H', ⟨by first | omega | exact Nat.le_refl _⟩, ⟨blk__ BK784.out⟩, ⟨bel__⟩⟩
  ·rw [if_neg c5] at H
   have c5b0 : decide (a0_0 < 1) = false := decide_eq_false c5
   clear c5
   (first | rw [c5b0] | (simp only [i64_w, i32_w]; rw [c5b0]) | skip)
   by_cases c7 : a0_0 > 7
   ·rw [if_pos c7] at H
    have c7b0 : decide (7 < a0_0) = true := decide_eq_true c7
    clear c7
    have H' := Aside0.mk H
    clear H
    have hcz8_0 : w4.cell? ⟨gb784, 0, none⟩ = some (.int .i64 a0_0) := (blk_cell BK784.out 0).trans rfl
    have hcz8_1 : w4.cell? ⟨gb784, 1, none⟩ = some (.string a0_1) := (blk_cell BK784.out 1).trans rfl
    have hcz8_2 : w4.cell? ⟨gb784, 2, none⟩ = some (.string a0_2) := (blk_cell BK784.out 2).trans rfl
    have hcz8_3 : w4.cell? ⟨gb784, 3, none⟩ = some (.int .i64 a0_3) := (blk_cell BK784.out 3).trans rfl
    have hcz8_4 : w4.cell? ⟨gb784, 4, none⟩ = some (.string a0_4) := (blk_cell BK784.out 4).trans rfl
    have hcz8_5 : w4.cell? ⟨gb784, 5, none⟩ = some (.slice A0_5 l0_5.length c0_5) := (blk_cell BK784.out 5).trans rfl
    have hfz8_0 := blk_frozen BK784.out 0
    have hfz8_1 := blk_frozen BK784.out 1
    have hfz8_2 := blk_frozen BK784.out 2
    have hfz8_3 := blk_frozen BK784.out 3
    have hfz8_4 := blk_frozen BK784.out 4
    have hfz8_5 := blk_frozen BK784.out 5
    go_wp2
    go_meet
    case rel => exact ⟨_, (true), (rf__), H', ⟨by first | omega | exact Nat.le_refl _⟩, ⟨blk__ BK784.out⟩, ⟨bel__⟩⟩
   ·rw [if_neg c7] at H
    have c7b0 : decide (7 < a0_0) = false := decide_eq_false c7
    clear c7
    replace H := Option.bind_eq_some_iff.mp H
    obtain ⟨t785, A90, H⟩ := H
    replace H : (impl_entryOk.j0 k a1 (!t785) a0_0 a0_1 a0_2 a0_3 a0_4 l0_5) = some r := H
    have A9 := Aside0.mk A90
    clear A90
    have H' := Aside0.mk H
    clear H
    have hcz10_0 : w4.cell? ⟨gb784, 0, none⟩ = some (.int .i64 a0_0) := (blk_cell BK784.out 0).trans rfl
    have hcz10_1 : w4.cell? ⟨gb784, 1, none⟩ = some (.string a0_1) := (blk_cell BK784.out 1).trans rfl
    have hcz10_2 : w4.cell? ⟨gb784, 2, none⟩ = some (.string a0_2) := (blk_cell BK784.out 2).trans rfl
    have hcz10_3 : w4.cell? ⟨gb784, 3, none⟩ = some (.int .i64 a0_3) := (blk_cell BK784.out 3).trans rfl
    have hcz10_4 : w4.cell? ⟨gb784, 4, none⟩ = some (.string a0_4) := (blk_cell BK784.out 4).trans rfl
    have hcz10_5 : w4.cell? ⟨gb784, 5, none⟩ = some (.slice A0_5 l0_5.length c0_5) := (blk_cell BK784.out 5).trans rfl
    have hfz10_0 := blk_frozen BK784.out 0
    have hfz10_1 := blk_frozen BK784.out 1
    have hfz10_2 := blk_frozen BK784.out 2
    have hfz10_3 := blk_frozen BK784.out 3
    have hfz10_4 := blk_frozen BK784.out 4
    have hfz10_5 := blk_frozen BK784.out 5
    go_wp2_with (first | (go_at_call 57; (with_reducible refine (impl_widthOk.calls a1 t785 _ A9.out).mono ?_); rintro e w' ⟨rfl, ⟨nd, rfl⟩⟩))
    go_meet
    case rel => exact ⟨_, (!t785), (rf__), H', ⟨by first | omega | exact Nat.le_refl _⟩, ⟨blk__ BK784.out⟩, ⟨bel__⟩⟩
 case rest =>
  clear HC3
  try clear p2
  try clear c5
  try clear c5b0
  try clear c7
  try clear c7b0
  try clear hcz10_0 hcz10_1 hcz10_2 hcz10_3 hcz10_4 hcz10_5 hfz10_0 hfz10_1 hfz10_2 hfz10_3 hfz10_4 hfz10_5
  try clear hcz6_0 hcz6_1 hcz6_2 hcz6_3 hcz6_4 hcz6_5 hfz6_0 hfz6_1 hfz6_2 hfz6_3 hfz6_4 hfz6_5
  try clear hcz8_0 hcz8_1 hcz8_2 hcz8_3 hcz8_4 hcz8_5 hfz8_0 hfz8_1 hfz8_2 hfz8_3 hfz8_4 hfz8_5
  obtain ⟨kq, x19_2, rfl, HA, HJ2, BK784, HB⟩ := hcut
  cases kq with
  | zero => exact absurd HA.out (by simp [impl_entryOk.j0])
  | succ kj2 =>
   have H := HA.out
   clear HA
   simp only [impl_entryOk.j0] at H
   by_cases c11 : x19_2 = true
   ·subst c11
    have H1 : (some false) = some r := by rw [if_pos rfl] at H; exact H
    clear H
    have H := H1
    clear H1
    obtain rfl := Option.some.inj H
    go_wp2
    go_ret
    exact ⟨by first | rfl | (simp [errW_none, errW_some] <;> rfl) | (simp [*, errW_none, errW_some] <;> rfl), bel__⟩
   ·replace c11 := Bool.eq_false_iff.mpr c11
    subst c11
    have H1 : ((impl_usesSum.f a0_0).bind fun t786 => (if t786 = true then (if (a0_1.size : Int) = a1 then ((impl_usesSum.f a0_0).bind fun t787 => (if t787 = true then (impl_entryOk.j1 kj2 a1 false a0_0 a0_1 a0_2 a0_3 a0_4 l0_5) else (impl_entryOk.j1 kj2 a1 (a0_1.toList != ([] : List UInt8)) a0_0 a0_1 a0_2 a0_3 a0_4 l0_5))) else (impl_entryOk.j1 kj2 a1 true a0_0 a0_1 a0_2 a0_3 a0_4 l0_5)) else ((impl_usesSum.f a0_0).bind fun t788 => (if t788 = true then (impl_entryOk.j1 kj2 a1 false a0_0 a0_1 a0_2 a0_3 a0_4 l0_5) else (impl_entryOk.j1 kj2 a1 (a0_1.toList != ([] : List UInt8)) a0_0 a0_1 a0_2 a0_3 a0_4 l0_5))))) = some r := by rw [if_neg (show ¬ (false = true) by decide)] at H; exact H
    clear H
    have H := H1
    clear H1
    have HC12 := Aside0.mk H
    clear H
    go_upto_region 3 with (fail)
    go_cut [40] (fun v40 wc => ∃ (kq : Nat) (x40_11 : Bool), v40 = .bool x40_11 ∧ Aside0 (impl_entryOk.j1 kq a1 x40_11 a0_0 a0_1 a0_2 a0_3 a0_4 l0_5 = some r) ∧ Aside0 (kq ≤ kj2) ∧ Aside0 (wc.heap[gb784]? = some (.cells #[.int .i64 a0_0, .string a0_1, .string a0_2, .int .i64 a0_3, .string a0_4, (.slice A0_5 l0_5.length c0_5)] 63 (0, 0))) ∧ Aside0 (Below w.heap.size w wc))
    case first =>
     have H := HC12.out
     clear HC12
     replace H := Option.bind_eq_some_iff.mp H
     obtain ⟨t786, A130, H⟩ := H
     replace H : (if t786 = true then (if (a0_1.size : Int) = a1 then ((impl_usesSum.f a0_0).bind fun t787 => (if t787 = true then (impl_entryOk.j1 kj2 a1 false a0_0 a0_1 a0_2 a0_3 a0_4 l0_5) else (impl_entryOk.j1 kj2 a1 (a0_1.toList != ([] : List UInt8)) a0_0 a0_1 a0_2 a0_3 a0_4 l0_5))) else (impl_entryOk.j1 kj2 a1 true a0_0 a0_1 a0_2 a0_3 a0_4 l0_5)) else ((impl_usesSum.f a0_0).bind fun t788 => (if t788 = true then (impl_entryOk.j1 kj2 a1 false a0_0 a0_1 a0_2 a0_3 a0_4 l0_5) else (impl_entryOk.j1 kj2 a1 (a0_1.toList != ([] : List UInt8)) a0_0 a0_1 a0_2 a0_3 a0_4 l0_5)))) = some r := H
     have A13 := Aside0.mk A130
     clear A130
     by_cases c14 : t786 = true
     ·subst c14
      have H1 : (if (a0_1.size : Int) = a1 then ((impl_usesSum.f a0_0).bind fun t787 => (if t787 = true then (impl_entryOk.j1 kj2 a1 false a0_0 a0_1 a0_2 a0_3 a0_4 l0_5) else (impl_entryOk.j1 kj2 a1 (a0_1.toList != ([] : List UInt8)) a0_0 a0_1 a0_2 a0_3 a0_4 l0_5))) else (impl_entryOk.j1 kj2 a1 true a0_0 a0_1 a0_2 a0_3 a0_4 l0_5)) = some r := by rw [if_pos rfl] at H; exact H
      clear H
      have H := H1
      clear H1
      by_cases c15 : (a0_1.size : Int) = a1
      ·rw [if_pos c15] at H
       have c15b0 : ((a0_1.size : Int) == a1) = true := beq_iff_eq.mpr c15
       have c15b1 : ((a0_1.size : Int) != a1) = false := bne_eq_false_iff_eq.mpr c15
       clear c15
       (first | rw [c15b0] | (simp only [i64_w, i32_w]; rw [c15b0]) | skip)
       replace H := Option.bind_eq_some_iff.mp H
       obtain ⟨t787, A160, H⟩ := H
       replace H : (if t787 = true then (impl_entryOk.j1 kj2 a1 false a0_0 a0_1 a0_2 a0_3 a0_4 l0_5) else (impl_entryOk.j1 kj2 a1 (a0_1.toList != ([] : List UInt8)) a0_0 a0_1 a0_2 a0_3 a0_4 l0_5)) = some r := H
       have A16 := Aside0.mk A160
       clear A160
       by_cases c17 : t787 = true
       ·subst c17
        have H1 : (impl_entryOk.j1 kj2 a1 false a0_0 a0_1 a0_2 a0_3 a0_4 l0_5) = some r := by rw [if_pos rfl] at H; exact H
        clear H
        have H := H1
        clear H1
        have H' := Aside0.mk H
        clear H
        have hcz18_0 : wc.cell? ⟨gb784, 0, none⟩ = some (.int .i64 a0_0) := (blk_cell BK784.out 0).trans rfl
        have hcz18_1 : wc.cell? ⟨gb784, 1, none⟩ = some (.string a0_1) := (blk_cell BK784.out 1).trans rfl
        have hcz18_2 : wc.cell? ⟨gb784, 2, none⟩ = some (.string a0_2) := (blk_cell BK784.out 2).trans rfl
        have hcz18_3 : wc.cell? ⟨gb784, 3, none⟩ = some (.int .i64 a0_3) := (blk_cell BK784.out 3).trans rfl
        have hcz18_4 : wc.cell? ⟨gb784, 4, none⟩ = some (.string a0_4) := (blk_cell BK784.out 4).trans rfl
        have hcz18_5 : wc.cell? ⟨gb784, 5, none⟩ = some (.slice A0_5 l0_5.length c0_5) := (blk_cell BK784.out 5).trans rfl
        have hfz18_0 := blk_frozen BK784.out 0
        have hfz18_1 := blk_frozen BK784.out 1
        have hfz18_2 := blk_frozen BK784.out 2
        have hfz18_3 := blk_frozen BK784.out 3
        have hfz18_4 := blk_frozen BK784.out 4
        have hfz18_5 := blk_frozen BK784.out 5
        go_wp2_with (first | ((with_reducible refine gate_callee (f := 88) rfl ?_); refine gl__ (some 22) Try.func88 #[.int .i64 a0_0] ?_; (with_reducible refine (impl_usesSum.calls a0_0 true _ A13.out).mono ?_); rintro e w' ⟨rfl, ⟨nd, rfl⟩⟩; refine ⟨_, rfl, ?_⟩) | (go_at_call 88; (with_reducible refine (impl_usesSum.calls a0_0 true _ A16.out).mono ?_); rintro e w' ⟨rfl, ⟨nd, rfl⟩⟩))
        go_meet
        case rel => exact ⟨_, (false), (rf__), H', ⟨by have := HJ2.out; first | omega | exact Nat.le_refl _⟩, ⟨blk__ BK784.out⟩, ⟨bel__⟩⟩
       ·replace c17 := Bool.eq_false_iff.mpr c17
        subst c17
        have H1 : (impl_entryOk.j1 kj2 a1 (a0_1.toList != ([] : List UInt8)) a0_0 a0_1 a0_2 a0_3 a0_4 l0_5) = some r := by rw [if_neg (show ¬ (false = true) by decide)] at H; exact H
        clear H
        have H := H1
        clear H1
        have H' := Aside0.mk H
        clear H
        have hcz19_0 : wc.cell? ⟨gb784, 0, none⟩ = some (.int .i64 a0_0) := (blk_cell BK784.out 0).trans rfl
        have hcz19_1 : wc.cell? ⟨gb784, 1, none⟩ = some (.string a0_1) := (blk_cell BK784.out 1).trans rfl
        have hcz19_2 : wc.cell? ⟨gb784, 2, none⟩ = some (.string a0_2) := (blk_cell BK784.out 2).trans rfl
        have hcz19_3 : wc.cell? ⟨gb784, 3, none⟩ = some (.int .i64 a0_3) := (blk_cell BK784.out 3).trans rfl
        have hcz19_4 : wc.cell? ⟨gb784, 4, none⟩ = some (.string a0_4) := (blk_cell BK784.out 4).trans rfl
        have hcz19_5 : wc.cell? ⟨gb784, 5, none⟩ = some (.slice A0_5 l0_5.length c0_5) := (blk_cell BK784.out 5).trans rfl
        have hfz19_0 := blk_frozen BK784.out 0
        have hfz19_1 := blk_frozen BK784.out 1
        have hfz19_2 := blk_frozen BK784.out 2
        have hfz19_3 := blk_frozen BK784.out 3
        have hfz19_4 := blk_frozen BK784.out 4
        have hfz19_5 := blk_frozen BK784.out 5
        go_wp2_with (first | ((with_reducible refine gate_callee (f := 88) rfl ?_); refine gl__ (some 22) Try.func88 #[.int .i64 a0_0] ?_; (with_reducible refine (impl_usesSum.calls a0_0 true _ A13.out).mono ?_); rintro e w' ⟨rfl, ⟨nd, rfl⟩⟩; refine ⟨_, rfl, ?_⟩) | (go_at_call 88; (with_reducible refine (impl_usesSum.calls a0_0 false _ A16.out).mono ?_); rintro e w' ⟨rfl, ⟨nd, rfl⟩⟩))
        go_meet
        case rel => exact ⟨_, ((a0_1.toList != ([] : List UInt8))), (rf__), H', ⟨by have := HJ2.out; first | omega | exact Nat.le_refl _⟩, ⟨blk__ BK784.out⟩, ⟨bel__⟩⟩
      ·rw [if_neg c15] at H
       have c15b0 : ((a0_1.size : Int) == a1) = false := beq_eq_false_iff_ne.mpr c15
       have c15b1 : ((a0_1.size : Int) != a1) = true := bne_iff_ne.mpr c15
       (first | rw [c15b0] | (simp only [i64_w, i32_w]; rw [c15b0]) | skip)
       have H' := Aside0.mk H
       clear H
       have hcz20_0 : wc.cell? ⟨gb784, 0, none⟩ = some (.int .i64 a0_0) := (blk_cell BK784.out 0).trans rfl
       have hcz20_1 : wc.cell? ⟨gb784, 1, none⟩ = some (.string a0_1) := (blk_cell BK784.out 1).trans rfl
       have hcz20_2 : wc.cell? ⟨gb784, 2, none⟩ = some (.string a0_2) := (blk_cell BK784.out 2).trans rfl
       have hcz20_3 : wc.cell? ⟨gb784, 3, none⟩ = some (.int .i64 a0_3) := (blk_cell BK784.out 3).trans rfl
       have hcz20_4 : wc.cell? ⟨gb784, 4, none⟩ = some (.string a0_4) := (blk_cell BK784.out 4).trans rfl
       have hcz20_5 : wc.cell? ⟨gb784, 5, none⟩ = some (.slice A0_5 l0_5.length c0_5) := (blk_cell BK784.out 5).trans rfl
       have hfz20_0 := blk_frozen BK784.out 0
       have hfz20_1 := blk_frozen BK784.out 1
       have hfz20_2 := blk_frozen BK784.out 2
       have hfz20_3 := blk_frozen BK784.out 3
       have hfz20_4 := blk_frozen BK784.out 4
       have hfz20_5 := blk_frozen BK784.out 5
       go_wp2_with (first | ((with_reducible refine gate_callee (f := 88) rfl ?_); refine gl__ (some 22) Try.func88 #[.int .i64 a0_0] ?_; (with_reducible refine (impl_usesSum.calls a0_0 true _ A13.out).mono ?_); rintro e w' ⟨rfl, ⟨nd, rfl⟩⟩; refine ⟨_, rfl, ?_⟩))
       go_meet
       case rel => exact ⟨_, (true), (rf__), H', ⟨by have := HJ2.out; first | omega | exact Nat.le_refl _⟩, ⟨blk__ BK784.out⟩, ⟨bel__⟩⟩
     ·replace c14 := Bool.eq_false_iff.mpr c14
      subst c14
      have H1 : ((impl_usesSum.f a0_0).bind fun t788 => (if t788 = true then (impl_entryOk.j1 kj2 a1 false a0_0 a0_1 a0_2 a0_3 a0_4 l0_5) else (impl_entryOk.j1 kj2 a1 (a0_1.toList != ([] : List UInt8)) a0_0 a0_1 a0_2 a0_3 a0_4 l0_5))) = some r := by rw [if_neg (show ¬ (false = true) by decide)] at H; exact H
      clear H
      have H := H1
      clear H1
      replace H := Option.bind_eq_some_iff.mp H
      obtain ⟨t788, A210, H⟩ := H
      replace H : (if t788 = true then (impl_entryOk.j1 kj2 a1 false a0_0 a0_1 a0_2 a0_3 a0_4 l0_5) else (impl_entryOk.j1 kj2 a1 (a0_1.toList != ([] : List UInt8)) a0_0 a0_1 a0_2 a0_3 a0_4 l0_5)) = some r := H
      have A21 := Aside0.mk A210
      clear A210
      by_cases c22 : t788 = true
      ·subst c22
       have H1 : (impl_entryOk.j1 kj2 a1 false a0_0 a0_1 a0_2 a0_3 a0_4 l0_5) = some r := by rw [if_pos rfl] at H; exact H
       clear H
       have H := H1
       clear H1
       have H' := Aside0.mk H
       clear H
       have hcz23_0 : wc.cell? ⟨gb784, 0, none⟩ = some (.int .i64 a0_0) := (blk_cell BK784.out 0).trans rfl
       have hcz23_1 : wc.cell? ⟨gb784, 1, none⟩ = some (.string a0_1) := (blk_cell BK784.out 1).trans rfl
       have hcz23_2 : wc.cell? ⟨gb784, 2, none⟩ = some (.string a0_2) := (blk_cell BK784.out 2).trans rfl
       have hcz23_3 : wc.cell? ⟨gb784, 3, none⟩ = some (.int .i64 a0_3) := (blk_cell BK784.out 3).trans rfl
       have hcz23_4 : wc.cell? ⟨gb784, 4, none⟩ = some (.string a0_4) := (blk_cell BK784.out 4).trans rfl
       have hcz23_5 : wc.cell? ⟨gb784, 5, none⟩ = some (.slice A0_5 l0_5.length c0_5) := (blk_cell BK784.out 5).trans rfl
       have hfz23_0 := blk_frozen BK784.out 0
       have hfz23_1 := blk_frozen BK784.out 1
       have hfz23_2 := blk_frozen BK784.out 2
       have hfz23_3 := blk_frozen BK784.out 3
       have hfz23_4 := blk_frozen BK784.out 4
       have hfz23_5 := blk_frozen BK784.out 5
       go_wp2_with (first | ((with_reducible refine gate_callee (f := 88) rfl ?_); refine gl__ (some 22) Try.func88 #[.int .i64 a0_0] ?_; (with_reducible refine (impl_usesSum.calls a0_0 false _ A13.out).mono ?_); rintro e w' ⟨rfl, ⟨nd, rfl⟩⟩; refine ⟨_, rfl, ?_⟩) | (go_at_call 88; (with_reducible refine (impl_usesSum.calls a0_0 true _ A21.out).mono ?_); rintro e w' ⟨rfl, ⟨nd, rfl⟩⟩))
       go_meet
       case rel => exact ⟨_, (false), (rf__), H', ⟨by have := HJ2.out; first | omega | exact Nat.le_refl _⟩, ⟨blk__ BK784.out⟩, ⟨bel__⟩⟩
      ·replace c22 := Bool.eq_false_iff.mpr c22
       subst c22
       have H1 : (impl_entryOk.j1 kj2 a1 (a0_1.toList != ([] : List UInt8)) a0_0 a0_1 a0_2 a0_3 a0_4 l0_5) = some r := by rw [if_neg (show ¬ (false = true) by decide)] at H; exact H
       clear H
       have H := H1
       clear H1
       have H' := Aside0.mk H
       clear H
       have hcz24_0 : wc.cell? ⟨gb784, 0, none⟩ = some (.int .i64 a0_0) := (blk_cell BK784.out 0).trans rfl
       have hcz24_1 : wc.cell? ⟨gb784, 1, none⟩ = some (.string a0_1) := (blk_cell BK784.out 1).trans rfl
       have hcz24_2 : wc.cell? ⟨gb784, 2, none⟩ = some (.string a0_2) := (blk_cell BK784.out 2).trans rfl
       have hcz24_3 : wc.cell? ⟨gb784, 3, none⟩ = some (.int .i64 a0_3) := (blk_cell BK784.out 3).trans rfl
       have hcz24_4 : wc.cell? ⟨gb784, 4, none⟩ = some (.string a0_4) := (blk_cell BK784.out 4).trans rfl
       have hcz24_5 : wc.cell? ⟨gb784, 5, none⟩ = some (.slice A0_5 l0_5.length c0_5) := (blk_cell BK784.out 5).trans rfl
       have hfz24_0 := blk_frozen BK784.out 0
       have hfz24_1 := blk_frozen BK784.out 1
       have hfz24_2 := blk_frozen BK784.out 2
       have hfz24_3 := blk_frozen BK784.out 3
       have hfz24_4 := blk_frozen BK784.out 4
       have hfz24_5 := blk_frozen BK784.out 5
       go_wp2_with (first | ((with_reducible refine gate_callee (f := 88) rfl ?_); refine gl__ (some 22) Try.func88 #[.int .i64 a0_0] ?_; (with_reducible refine (impl_usesSum.calls a0_0 false _ A13.out).mono ?_); rintro e w' ⟨rfl, ⟨nd, rfl⟩⟩; refine ⟨_, rfl, ?_⟩) | (go_at_call 88; (with_reducible refine (impl_usesSum.calls a0_0 false _ A21.out).mono ?_); rintro e w' ⟨rfl, ⟨nd, rfl⟩⟩))
       go_meet
       case rel => exact ⟨_, ((a0_1.toList != ([] : List UInt8))), (rf__), H', ⟨by have := HJ2.out; first | omega | exact Nat.le_refl _⟩, ⟨blk__ BK784.out⟩, ⟨bel__⟩⟩
    case rest =>
     clear HC12
     try clear c1
     try clear c2
     try clear p2
     try clear c5
     try clear c5b0
     try clear c7
     try clear c7b0
     try clear c8
     try clear c11
     try clear c14
     try clear c15
     try clear c15b0
     try clear c15b1
     try clear c17
     try clear c22
     try clear hcz10_0 hcz10_1 hcz10_2 hcz10_3 hcz10_4 hcz10_5 hfz10_0 hfz10_1 hfz10_2 hfz10_3 hfz10_4 hfz10_5
     try clear hcz18_0 hcz18_1 hcz18_2 hcz18_3 hcz18_4 hcz18_5 hfz18_0 hfz18_1 hfz18_2 hfz18_3 hfz18_4 hfz18_5
     try clear hcz19_0 hcz19_1 hcz19_2 hcz19_3 hcz19_4 hcz19_5 hfz19_0 hfz19_1 hfz19_2 hfz19_3 hfz19_4 hfz19_5
     try clear hcz20_0 hcz20_1 hcz20_2 hcz20_3 hcz20_4 hcz20_5 hfz20_0 hfz20_1 hfz20_2 hfz20_3 hfz20_4 hfz20_5
     try clear hcz23_0 hcz23_1 hcz23_2 hcz23_3 hcz23_4 hcz23_5 hfz23_0 hfz23_1 hfz23_2 hfz23_3 hfz23_4 hfz23_5
     try clear hcz24_0 hcz24_1 hcz24_2 hcz24_3 hcz24_4 hcz24_5 hfz24_0 hfz24_1 hfz24_2 hfz24_3 hfz24_4 hfz24_5
     try clear hcz6_0 hcz6_1 hcz6_2 hcz6_3 hcz6_4 hcz6_5 hfz6_0 hfz6_1 hfz6_2 hfz6_3 hfz6_4 hfz6_5
     try clear hcz8_0 hcz8_1 hcz8_2 hcz8_3 hcz8_4 hcz8_5 hfz8_0 hfz8_1 hfz8_2 hfz8_3 hfz8_4 hfz8_5
     try clear p2
     obtain ⟨kq, x40_11, rfl, HA, HJ11, BK784, HB⟩ := hcut
     cases kq with
     | zero => exact absurd HA.out (by simp [impl_entryOk.j1])
     | succ kj11 =>
      have H := HA.out
      clear HA
      simp only [impl_entryOk.j1] at H
      by_cases c25 : x40_11 = true
      ·subst c25
       have H1 : (some false) = some r := by rw [if_pos rfl] at H; exact H
       clear H
       have H := H1
       clear H1
       obtain rfl := Option.some.inj H
       go_wp2
       go_ret
       exact ⟨by first | rfl | (simp [errW_none, errW_some] <;> rfl) | (simp [*, errW_none, errW_some] <;> rfl), bel__⟩
      ·replace c25 := Bool.eq_false_iff.mpr c25
       subst c25
       have H1 : ((impl_usesName.f a0_0).bind fun t789 => (if t789 = true then ((impl_nameOk.f kj11 a0_2).bind fun t790 => (if t790 = true then ((impl_usesName.f a0_0).bind fun t791 => (if t791 = true then (impl_entryOk.j2 kj11 a1 false a0_0 a0_1 a0_2 a0_3 a0_4 l0_5) else (impl_entryOk.j2 kj11 a1 (a0_2.toList != ([] : List UInt8)) a0_0 a0_1 a0_2 a0_3 a0_4 l0_5))) else (impl_entryOk.j2 kj11 a1 true a0_0 a0_1 a0_2 a0_3 a0_4 l0_5))) else ((impl_usesName.f a0_0).bind fun t792 => (if t792 = true then (impl_entryOk.j2 kj11 a1 false a0_0 a0_1 a0_2 a0_3 a0_4 l0_5) else (impl_entryOk.j2 kj11 a1 (a0_2.toList != ([] : List UInt8)) a0_0 a0_1 a0_2 a0_3 a0_4 l0_5))))) = some r := by rw [if_neg (show ¬ (false = true) by decide)] at H; exact H
       clear H
       have H := H1
       clear H1
       have HC26 := Aside0.mk H
       clear H
       go_upto_region 5 with (fail)
       go_cut [60] (fun v60 wc => ∃ (kq : Nat) (x60_25 : Bool), v60 = .bool x60_25 ∧ Aside0 (impl_entryOk.j2 kq a1 x60_25 a0_0 a0_1 a0_2 a0_3 a0_4 l0_5 = some r) ∧ Aside0 (kq ≤ kj11) ∧ Aside0 (wc.heap[gb784]? = some (.cells #[.int .i64 a0_0, .string a0_1, .string a0_2, .int .i64 a0_3, .string a0_4, (.slice A0_5 l0_5.length c0_5)] 63 (0, 0))) ∧ Aside0 (Below w.heap.size w wc))
       case first =>
        have H := HC26.out
        clear HC26
        replace H := Option.bind_eq_some_iff.mp H
        obtain ⟨t789, A270, H⟩ := H
        replace H : (if t789 = true then ((impl_nameOk.f kj11 a0_2).bind fun t790 => (if t790 = true then ((impl_usesName.f a0_0).bind fun t791 => (if t791 = true then (impl_entryOk.j2 kj11 a1 false a0_0 a0_1 a0_2 a0_3 a0_4 l0_5) else (impl_entryOk.j2 kj11 a1 (a0_2.toList != ([] : List UInt8)) a0_0 a0_1 a0_2 a0_3 a0_4 l0_5))) else (impl_entryOk.j2 kj11 a1 true a0_0 a0_1 a0_2 a0_3 a0_4 l0_5))) else ((impl_usesName.f a0_0).bind fun t792 => (if t792 = true then (impl_entryOk.j2 kj11 a1 false a0_0 a0_1 a0_2 a0_3 a0_4 l0_5) else (impl_entryOk.j2 kj11 a1 (a0_2.toList != ([] : List UInt8)) a0_0 a0_1 a0_2 a0_3 a0_4 l0_5)))) = some r := H
        have A27 := Aside0.mk A270
        clear A270
        by_cases c28 : t789 = true
        ·subst c28
         have H1 : ((impl_nameOk.f kj11 a0_2).bind fun t790 => (if t790 = true then ((impl_usesName.f a0_0).bind fun t791 => (if t791 = true then (impl_entryOk.j2 kj11 a1 false a0_0 a0_1 a0_2 a0_3 a0_4 l0_5) else (impl_entryOk.j2 kj11 a1 (a0_2.toList != ([] : List UInt8)) a0_0 a0_1 a0_2 a0_3 a0_4 l0_5))) else (impl_entryOk.j2 kj11 a1 true a0_0 a0_1 a0_2 a0_3 a0_4 l0_5))) = some r := by rw [if_pos rfl] at H; exact H
         clear H
         have H := H1
         clear H1
         replace H := Option.bind_eq_some_iff.mp H
         obtain ⟨t790, A290, H⟩ := H
         replace H : (if t790 = true then ((impl_usesName.f a0_0).bind fun t791 => (if t791 = true then (impl_entryOk.j2 kj11 a1 false a0_0 a0_1 a0_2 a0_3 a0_4 l0_5) else (impl_entryOk.j2 kj11 a1 (a0_2.toList != ([] : List UInt8)) a0_0 a0_1 a0_2 a0_3 a0_4 l0_5))) else (impl_entryOk.j2 kj11 a1 true a0_0 a0_1 a0_2 a0_3 a0_4 l0_5)) = some r := H
         have A29 := Aside0.mk A290
         clear A290
         by_cases c30 : t790 = true
         ·subst c30
          have H1 : ((impl_usesName.f a0_0).bind fun t791 => (if t791 = true then (impl_entryOk.j2 kj11 a1 false a0_0 a0_1 a0_2 a0_3 a0_4 l0_5) else (impl_entryOk.j2 kj11 a1 (a0_2.toList != ([] : List UInt8)) a0_0 a0_1 a0_2 a0_3 a0_4 l0_5))) = some r := by rw [if_pos rfl] at H; exact H
          clear H
          have H := H1
          clear H1
          replace H := Option.bind_eq_some_iff.mp H
          obtain ⟨t791, A310, H⟩ := H
          replace H : (if t791 = true then (impl_entryOk.j2 kj11 a1 false a0_0 a0_1 a0_2 a0_3 a0_4 l0_5) else (impl_entryOk.j2 kj11 a1 (a0_2.toList != ([] : List UInt8)) a0_0 a0_1 a0_2 a0_3 a0_4 l0_5)) = some r := H
          have A31 := Aside0.mk A310
          clear A310
          by_cases c32 : t791 = true
          ·subst c32
           have H1 : (impl_entryOk.j2 kj11 a1 false a0_0 a0_1 a0_2 a0_3 a0_4 l0_5) = some r := by rw [if_pos rfl] at H; exact H
           clear H
           have H := H1
           clear H1
           have H' := Aside0.mk H
           clear H
           have hcz33_0 : wc.cell? ⟨gb784, 0, none⟩ = some (.int .i64 a0_0) := (blk_cell BK784.out 0).trans rfl
           have hcz33_1 : wc.cell? ⟨gb784, 1, none⟩ = some (.string a0_1) := (blk_cell BK784.out 1).trans rfl
           have hcz33_2 : wc.cell? ⟨gb784, 2, none⟩ = some (.string a0_2) := (blk_cell BK784.out 2).trans rfl
           have hcz33_3 : wc.cell? ⟨gb784, 3, none⟩ = some (.int .i64 a0_3) := (blk_cell BK784.out 3).trans rfl
           have hcz33_4 : wc.cell? ⟨gb784, 4, none⟩ = some (.string a0_4) := (blk_cell BK784.out 4).trans rfl
           have hcz33_5 : wc.cell? ⟨gb784, 5, none⟩ = some (.slice A0_5 l0_5.length c0_5) := (blk_cell BK784.out 5).trans rfl
           have hfz33_0 := blk_frozen BK784.out 0
           have hfz33_1 := blk_frozen BK784.out 1
           have hfz33_2 := blk_frozen BK784.out 2
           have hfz33_3 := blk_frozen BK784.out 3
           have hfz33_4 := blk_frozen BK784.out 4
           have hfz33_5 := blk_frozen BK784.out 5
           go_wp2_with (first | ((with_reducible refine gate_callee (f := 89) rfl ?_); refine gl__ (some 43) Try.func89 #[.int .i64 a0_0] ?_; (with_reducible refine (impl_usesName.calls a0_0 true _ A27.out).mono ?_); rintro e w' ⟨rfl, ⟨nd, rfl⟩⟩; refine ⟨_, rfl, ?_⟩) | (go_at_call 90; (with_reducible refine (impl_nameOk.calls kj11 a0_2 true _ A29.out).mono ?_); rintro e w' ⟨rfl, ⟨nd, rfl⟩⟩) | (go_at_call 89; (with_reducible refine (impl_usesName.calls a0_0 true _ A31.out).mono ?_); rintro e w' ⟨rfl, ⟨nd, rfl⟩⟩))
           go_meet
           case rel => exact ⟨_, (false), (rf__), H', ⟨by have := HJ2.out; have := HJ11.out; first | omega | exact Nat.le_refl _⟩, ⟨blk__ BK784.out⟩, ⟨bel__⟩⟩
          ·replace c32 := Bool.eq_false_iff.mpr c32
           subst c32
           have H1 : (impl_entryOk.j2 kj11 a1 (a0_2.toList != ([] : List UInt8)) a0_0 a0_1 a0_2 a0_3 a0_4 l0_5) = some r := by rw [if_neg (show ¬ (false = true) by decide)] at H; exact H
           clear H
           have H := H1
           clear H1
           have H' := Aside0.mk H
           clear H
           have hcz34_0 : wc.cell? ⟨gb784, 0, none⟩ = some (.int .i64 a0_0) := (blk_cell BK784.out 0).trans rfl
           have hcz34_1 : wc.cell? ⟨gb784, 1, none⟩ = some (.string a0_1) := (blk_cell BK784.out 1).trans rfl
           have hcz34_2 : wc.cell? ⟨gb784, 2, none⟩ = some (.string a0_2) := (blk_cell BK784.out 2).trans rfl
           have hcz34_3 : wc.cell? ⟨gb784, 3, none⟩ = some (.int .i64 a0_3) := (blk_cell BK784.out 3).trans rfl
           have hcz34_4 : wc.cell? ⟨gb784, 4, none⟩ = some (.string a0_4) := (blk_cell BK784.out 4).trans rfl
           have hcz34_5 : wc.cell? ⟨gb784, 5, none⟩ = some (.slice A0_5 l0_5.length c0_5) := (blk_cell BK784.out 5).trans rfl
           have hfz34_0 := blk_frozen BK784.out 0
           have hfz34_1 := blk_frozen BK784.out 1
           have hfz34_2 := blk_frozen BK784.out 2
           have hfz34_3 := blk_frozen BK784.out 3
           have hfz34_4 := blk_frozen BK784.out 4
           have hfz34_5 := blk_frozen BK784.out 5
           go_wp2_with (first | ((with_reducible refine gate_callee (f := 89) rfl ?_); refine gl__ (some 43) Try.func89 #[.int .i64 a0_0] ?_; (with_reducible refine (impl_usesName.calls a0_0 true _ A27.out).mono ?_); rintro e w' ⟨rfl, ⟨nd, rfl⟩⟩; refine ⟨_, rfl, ?_⟩) | (go_at_call 90; (with_reducible refine (impl_nameOk.calls kj11 a0_2 true _ A29.out).mono ?_); rintro e w' ⟨rfl, ⟨nd, rfl⟩⟩) | (go_at_call 89; (with_reducible refine (impl_usesName.calls a0_0 false _ A31.out).mono ?_); rintro e w' ⟨rfl, ⟨nd, rfl⟩⟩))
           go_meet
           case rel => exact ⟨_, ((a0_2.toList != ([] : List UInt8))), (rf__), H', ⟨by have := HJ2.out; have := HJ11.out; first | omega | exact Nat.le_refl _⟩, ⟨blk__ BK784.out⟩, ⟨bel__⟩⟩
         ·replace c30 := Bool.eq_false_iff.mpr c30
          subst c30
          have H1 : (impl_entryOk.j2 kj11 a1 true a0_0 a0_1 a0_2 a0_3 a0_4 l0_5) = some r := by rw [if_neg (show ¬ (false = true) by decide)] at H; exact H
          clear H
          have H := H1
          clear H1
          have H' := Aside0.mk H
          clear H
          have hcz35_0 : wc.cell? ⟨gb784, 0, none⟩ = some (.int .i64 a0_0) := (blk_cell BK784.out 0).trans rfl
          have hcz35_1 : wc.cell? ⟨gb784, 1, none⟩ = some (.string a0_1) := (blk_cell BK784.out 1).trans rfl
          have hcz35_2 : wc.cell? ⟨gb784, 2, none⟩ = some (.string a0_2) := (blk_cell BK784.out 2).trans rfl
          have hcz35_3 : wc.cell? ⟨gb784, 3, none⟩ = some (.int .i64 a0_3) := (blk_cell BK784.out 3).trans rfl
          have hcz35_4 : wc.cell? ⟨gb784, 4, none⟩ = some (.string a0_4) := (blk_cell BK784.out 4).trans rfl
          have hcz35_5 : wc.cell? ⟨gb784, 5, none⟩ = some (.slice A0_5 l0_5.length c0_5) := (blk_cell BK784.out 5).trans rfl
          have hfz35_0 := blk_frozen BK784.out 0
          have hfz35_1 := blk_frozen BK784.out 1
          have hfz35_2 := blk_frozen BK784.out 2
          have hfz35_3 := blk_frozen BK784.out 3
          have hfz35_4 := blk_frozen BK784.out 4
          have hfz35_5 := blk_frozen BK784.out 5
          go_wp2_with (first | ((with_reducible refine gate_callee (f := 89) rfl ?_); refine gl__ (some 43) Try.func89 #[.int .i64 a0_0] ?_; (with_reducible refine (impl_usesName.calls a0_0 true _ A27.out).mono ?_); rintro e w' ⟨rfl, ⟨nd, rfl⟩⟩; refine ⟨_, rfl, ?_⟩) | (go_at_call 90; (with_reducible refine (impl_nameOk.calls kj11 a0_2 false _ A29.out).mono ?_); rintro e w' ⟨rfl, ⟨nd, rfl⟩⟩))
          go_meet
          case rel => exact ⟨_, (true), (rf__), H', ⟨by have := HJ2.out; have := HJ11.out; first | omega | exact Nat.le_refl _⟩, ⟨blk__ BK784.out⟩, ⟨bel__⟩⟩
        ·replace c28 := Bool.eq_false_iff.mpr c28
         subst c28
         have H1 : ((impl_usesName.f a0_0).bind fun t792 => (if t792 = true then (impl_entryOk.j2 kj11 a1 false a0_0 a0_1 a0_2 a0_3 a0_4 l0_5) else (impl_entryOk.j2 kj11 a1 (a0_2.toList != ([] : List UInt8)) a0_0 a0_1 a0_2 a0_3 a0_4 l0_5))) = some r := by rw [if_neg (show ¬ (false = true) by decide)] at H; exact H
         clear H
         have H := H1
         clear H1
         replace H := Option.bind_eq_some_iff.mp H
         obtain ⟨t792, A360, H⟩ := H
         replace H : (if t792 = true then (impl_entryOk.j2 kj11 a1 false a0_0 a0_1 a0_2 a0_3 a0_4 l0_5) else (impl_entryOk.j2 kj11 a1 (a0_2.toList != ([] : List UInt8)) a0_0 a0_1 a0_2 a0_3 a0_4 l0_5)) = some r := H
         have A36 := Aside0.mk A360
         clear A360
         by_cases c37 : t792 = true
         ·subst c37
          have H1 : (impl_entryOk.j2 kj11 a1 false a0_0 a0_1 a0_2 a0_3 a0_4 l0_5) = some r := by rw [if_pos rfl] at H; exact H
          clear H
          have H := H1
          clear H1
          have H' := Aside0.mk H
          clear H
          have hcz38_0 : wc.cell? ⟨gb784, 0, none⟩ = some (.int .i64 a0_0) := (blk_cell BK784.out 0).trans rfl
          have hcz38_1 : wc.cell? ⟨gb784, 1, none⟩ = some (.string a0_1) := (blk_cell BK784.out 1).trans rfl
          have hcz38_2 : wc.cell? ⟨gb784, 2, none⟩ = some (.string a0_2) := (blk_cell BK784.out 2).trans rfl
          have hcz38_3 : wc.cell? ⟨gb784, 3, none⟩ = some (.int .i64 a0_3) := (blk_cell BK784.out 3).trans rfl
          have hcz38_4 : wc.cell? ⟨gb784, 4, none⟩ = some (.string a0_4) := (blk_cell BK784.out 4).trans rfl
          have hcz38_5 : wc.cell? ⟨gb784, 5, none⟩ = some (.slice A0_5 l0_5.length c0_5) := (blk_cell BK784.out 5).trans rfl
          have hfz38_0 := blk_frozen BK784.out 0
          have hfz38_1 := blk_frozen BK784.out 1
          have hfz38_2 := blk_frozen BK784.out 2
          have hfz38_3 := blk_frozen BK784.out 3
          have hfz38_4 := blk_frozen BK784.out 4
          have hfz38_5 := blk_frozen BK784.out 5
          go_wp2_with (first | ((with_reducible refine gate_callee (f := 89) rfl ?_); refine gl__ (some 43) Try.func89 #[.int .i64 a0_0] ?_; (with_reducible refine (impl_usesName.calls a0_0 false _ A27.out).mono ?_); rintro e w' ⟨rfl, ⟨nd, rfl⟩⟩; refine ⟨_, rfl, ?_⟩) | (go_at_call 89; (with_reducible refine (impl_usesName.calls a0_0 true _ A36.out).mono ?_); rintro e w' ⟨rfl, ⟨nd, rfl⟩⟩))
          go_meet
          case rel => exact ⟨_, (false), (rf__), H', ⟨by have := HJ2.out; have := HJ11.out; first | omega | exact Nat.le_refl _⟩, ⟨blk__ BK784.out⟩, ⟨bel__⟩⟩
         ·replace c37 := Bool.eq_false_iff.mpr c37
          subst c37
          have H1 : (impl_entryOk.j2 kj11 a1 (a0_2.toList != ([] : List UInt8)) a0_0 a0_1 a0_2 a0_3 a0_4 l0_5) = some r := by rw [if_neg (show ¬ (false = true) by decide)] at H; exact H
          clear H
          have H := H1
          clear H1
          have H' := Aside0.mk H
          clear H
          have hcz39_0 : wc.cell? ⟨gb784, 0, none⟩ = some (.int .i64 a0_0) := (blk_cell BK784.out 0).trans rfl
          have hcz39_1 : wc.cell? ⟨gb784, 1, none⟩ = some (.string a0_1) := (blk_cell BK784.out 1).trans rfl
          have hcz39_2 : wc.cell? ⟨gb784, 2, none⟩ = some (.string a0_2) := (blk_cell BK784.out 2).trans rfl
          have hcz39_3 : wc.cell? ⟨gb784, 3, none⟩ = some (.int .i64 a0_3) := (blk_cell BK784.out 3).trans rfl
          have hcz39_4 : wc.cell? ⟨gb784, 4, none⟩ = some (.string a0_4) := (blk_cell BK784.out 4).trans rfl
          have hcz39_5 : wc.cell? ⟨gb784, 5, none⟩ = some (.slice A0_5 l0_5.length c0_5) := (blk_cell BK784.out 5).trans rfl
          have hfz39_0 := blk_frozen BK784.out 0
          have hfz39_1 := blk_frozen BK784.out 1
          have hfz39_2 := blk_frozen BK784.out 2
          have hfz39_3 := blk_frozen BK784.out 3
          have hfz39_4 := blk_frozen BK784.out 4
          have hfz39_5 := blk_frozen BK784.out 5
          go_wp2_with (first | ((with_reducible refine gate_callee (f := 89) rfl ?_); refine gl__ (some 43) Try.func89 #[.int .i64 a0_0] ?_; (with_reducible refine (impl_usesName.calls a0_0 false _ A27.out).mono ?_); rintro e w' ⟨rfl, ⟨nd, rfl⟩⟩; refine ⟨_, rfl, ?_⟩) | (go_at_call 89; (with_reducible refine (impl_usesName.calls a0_0 false _ A36.out).mono ?_); rintro e w' ⟨rfl, ⟨nd, rfl⟩⟩))
          go_meet
          case rel => exact ⟨_, ((a0_2.toList != ([] : List UInt8))), (rf__), H', ⟨by have := HJ2.out; have := HJ11.out; first | omega | exact Nat.le_refl _⟩, ⟨blk__ BK784.out⟩, ⟨bel__⟩⟩
       case rest =>
        clear HC26
        try clear c1
        try clear c2
        try clear p2
        try clear c3
        try clear c5
        try clear c5b0
        try clear c7
        try clear c7b0
        try clear c8
        try clear c11
        try clear c14
        try clear c15
        try clear c15b0
        try clear c15b1
        try clear c17
        try clear c22
        try clear c25
        try clear c28
        try clear c30
        try clear c32
        try clear c37
        try clear hcz10_0 hcz10_1 hcz10_2 hcz10_3 hcz10_4 hcz10_5 hfz10_0 hfz10_1 hfz10_2 hfz10_3 hfz10_4 hfz10_5
        try clear hcz18_0 hcz18_1 hcz18_2 hcz18_3 hcz18_4 hcz18_5 hfz18_0 hfz18_1 hfz18_2 hfz18_3 hfz18_4 hfz18_5
        try clear hcz19_0 hcz19_1 hcz19_2 hcz19_3 hcz19_4 hcz19_5 hfz19_0 hfz19_1 hfz19_2 hfz19_3 hfz19_4 hfz19_5
        try clear hcz20_0 hcz20_1 hcz20_2 hcz20_3 hcz20_4 hcz20_5 hfz20_0 hfz20_1 hfz20_2 hfz20_3 hfz20_4 hfz20_5
        try clear hcz23_0 hcz23_1 hcz23_2 hcz23_3 hcz23_4 hcz23_5 hfz23_0 hfz23_1 hfz23_2 hfz23_3 hfz23_4 hfz23_5
        try clear hcz24_0 hcz24_1 hcz24_2 hcz24_3 hcz24_4 hcz24_5 hfz24_0 hfz24_1 hfz24_2 hfz24_3 hfz24_4 hfz24_5
        try clear hcz33_0 hcz33_1 hcz33_2 hcz33_3 hcz33_4 hcz33_5 hfz33_0 hfz33_1 hfz33_2 hfz33_3 hfz33_4 hfz33_5
        try clear hcz34_0 hcz34_1 hcz34_2 hcz34_3 hcz34_4 hcz34_5 hfz34_0 hfz34_1 hfz34_2 hfz34_3 hfz34_4 hfz34_5
        try clear hcz35_0 hcz35_1 hcz35_2 hcz35_3 hcz35_4 hcz35_5 hfz35_0 hfz35_1 hfz35_2 hfz35_3 hfz35_4 hfz35_5
        try clear hcz38_0 hcz38_1 hcz38_2 hcz38_3 hcz38_4 hcz38_5 hfz38_0 hfz38_1 hfz38_2 hfz38_3 hfz38_4 hfz38_5
        try clear hcz39_0 hcz39_1 hcz39_2 hcz39_3 hcz39_4 hcz39_5 hfz39_0 hfz39_1 hfz39_2 hfz39_3 hfz39_4 hfz39_5
        try clear hcz6_0 hcz6_1 hcz6_2 hcz6_3 hcz6_4 hcz6_5 hfz6_0 hfz6_1 hfz6_2 hfz6_3 hfz6_4 hfz6_5
        try clear hcz8_0 hcz8_1 hcz8_2 hcz8_3 hcz8_4 hcz8_5 hfz8_0 hfz8_1 hfz8_2 hfz8_3 hfz8_4 hfz8_5
        try clear p2
        obtain ⟨kq, x60_25, rfl, HA, HJ25, BK784, HB⟩ := hcut
        cases kq with
        | zero => exact absurd HA.out (by simp [impl_entryOk.j2])
        | succ kj25 =>
         have H := HA.out
         clear HA
         simp only [impl_entryOk.j2] at H
         by_cases c40 : x60_25 = true
         ·subst c40
          have H1 : (some false) = some r := by rw [if_pos rfl] at H; exact H
          clear H
          have H := H1
          clear H1
          obtain rfl := Option.some.inj H
          go_wp2
          go_ret
          exact ⟨by first | rfl | (simp [errW_none, errW_some] <;> rfl) | (simp [*, errW_none, errW_some] <;> rfl), bel__⟩
         ·replace c40 := Bool.eq_false_iff.mpr c40
          subst c40
          have H1 : (if a0_0 = 1 then (impl_entryOk.j3 kj25 a1 0 0 a0_0 (a0_0 == 1) a0_0 a0_1 a0_2 a0_3 a0_4 l0_5) else (if a0_0 = 4 then (impl_entryOk.j3 kj25 a1 0 0 a0_0 (a0_0 == 4) a0_0 a0_1 a0_2 a0_3 a0_4 l0_5) else (impl_entryOk.j3 kj25 a1 0 0 a0_0 (a0_0 == 6) a0_0 a0_1 a0_2 a0_3 a0_4 l0_5))) = some r := by rw [if_neg (show ¬ (false = true) by decide)] at H; exact H
          clear H
          have H := H1
          clear H1
          have HC41 := Aside0.mk H
          clear H
          have hcz42_0 : wc.cell? ⟨gb784, 0, none⟩ = some (.int .i64 a0_0) := (blk_cell BK784.out 0).trans rfl
          have hcz42_1 : wc.cell? ⟨gb784, 1, none⟩ = some (.string a0_1) := (blk_cell BK784.out 1).trans rfl
          have hcz42_2 : wc.cell? ⟨gb784, 2, none⟩ = some (.string a0_2) := (blk_cell BK784.out 2).trans rfl
          have hcz42_3 : wc.cell? ⟨gb784, 3, none⟩ = some (.int .i64 a0_3) := (blk_cell BK784.out 3).trans rfl
          have hcz42_4 : wc.cell? ⟨gb784, 4, none⟩ = some (.string a0_4) := (blk_cell BK784.out 4).trans rfl
          have hcz42_5 : wc.cell? ⟨gb784, 5, none⟩ = some (.slice A0_5 l0_5.length c0_5) := (blk_cell BK784.out 5).trans rfl
          have hfz42_0 := blk_frozen BK784.out 0
          have hfz42_1 := blk_frozen BK784.out 1
          have hfz42_2 := blk_frozen BK784.out 2
          have hfz42_3 := blk_frozen BK784.out 3
          have hfz42_4 := blk_frozen BK784.out 4
          have hfz42_5 := blk_frozen BK784.out 5
          go_upto_block 0 with (fail)
          go_cut [5, 6] (fun v5 v6 wc => ∃ (kq : Nat) (x5_40 : Int) (x6_40 : Int), v5 = .int .i64 x5_40 ∧ v6 = .int .i64 x6_40 ∧ Aside0 (impl_entryOk.j4 kq a1 x5_40 x6_40 a0_0 a0_1 a0_2 a0_3 a0_4 l0_5 = some r) ∧ Aside0 (kq ≤ kj25) ∧ Aside0 (wc.heap[gb784]? = some (.cells #[.int .i64 a0_0, .string a0_1, .string a0_2, .int .i64 a0_3, .string a0_4, (.slice A0_5 l0_5.length c0_5)] 63 (0, 0))) ∧ Aside0 (Below w.heap.size w wc))
          case first =>
           have H := HC41.out
           clear HC41
           have HC43 := Aside0.mk H
           clear H
           go_upto_if 63 with (fail)
           go_cut [63] (fun v63 wc => ∃ (kq : Nat) (x63_42 : Bool), v63 = .bool x63_42 ∧ Aside0 (impl_entryOk.j3 kq a1 0 0 a0_0 x63_42 a0_0 a0_1 a0_2 a0_3 a0_4 l0_5 = some r) ∧ Aside0 (kq ≤ kj25) ∧ Aside0 (wc.heap[gb784]? = some (.cells #[.int .i64 a0_0, .string a0_1, .string a0_2, .int .i64 a0_3, .string a0_4, (.slice A0_5 l0_5.length c0_5)] 63 (0, 0))) ∧ Aside0 (Below w.heap.size w wc))
           case first =>
            have H := HC43.out
            clear HC43
            by_cases c44 : a0_0 = 1
            ·rw [if_pos c44] at H
             have c44b0 : (a0_0 == 1) = true := beq_iff_eq.mpr c44
             have c44b1 : (a0_0 != 1) = false := bne_eq_false_iff_eq.mpr c44
             clear c44
             (first | rw [c44b0] | (simp only [i64_w, i32_w]; rw [c44b0]) | skip)
             have H' := Aside0.mk H
             clear H
             go_wp2
             go_meet
             case rel => exact ⟨_, ((a0_0 == 1)), (rf__), H', ⟨by have := HJ2.out; have := HJ11.out; have := HJ25.out; first | omega | exact Nat.le_refl _⟩, ⟨blk__ BK784.out⟩, ⟨bel__⟩⟩
            ·rw [if_neg c44] at H
             have c44b0 : (a0_0 == 1) = false := beq_eq_false_iff_ne.mpr c44
             have c44b1 : (a0_0 != 1) = true := bne_iff_ne.mpr c44
             (first | rw [c44b0] | (simp only [i64_w, i32_w]; rw [c44b0]) | skip)
             by_cases c45 : a0_0 = 4
             ·rw [if_pos c45] at H
              have c45b0 : (a0_0 == 4) = true := beq_iff_eq.mpr c45
              have c45b1 : (a0_0 != 4) = false := bne_eq_false_iff_eq.mpr c45
              clear c45
              have H' := Aside0.mk H
              clear H
              go_wp2
              go_meet
              case rel => exact ⟨_, ((a0_0 == 4)), (rf__), H', ⟨by have := HJ2.out; have := HJ11.out; have := HJ25.out; first | omega | exact Nat.le_refl _⟩, ⟨blk__ BK784.out⟩, ⟨bel__⟩⟩
             ·rw [if_neg c45] at H
              have c45b0 : (a0_0 == 4) = false := beq_eq_false_iff_ne.mpr c45
              have c45b1 : (a0_0 != 4) = true := bne_iff_ne.mpr c45
              have H' := Aside0.mk H
              clear H
              go_wp2
              go_meet
              case rel => exact ⟨_, ((a0_0 == 6)), (rf__), H', ⟨by have := HJ2.out; have := HJ11.out; have := HJ25.out; first | omega | exact Nat.le_refl _⟩, ⟨blk__ BK784.out⟩, ⟨bel__⟩⟩
           case rest =>
            clear HC43
            try clear c1
            try clear c2
            try clear p2
            try clear c3
            try clear c4
            try clear c5
            try clear c5b0
            try clear c7
            try clear c7b0
            try clear c8
            try clear c11
            try clear c14
            try clear c15
            try clear c15b0
            try clear c15b1
            try clear c17
            try clear c22
            try clear c25
            try clear c28
            try clear c30
            try clear c32
            try clear c37
            try clear c40
            try clear c44
            try clear c44b0
            try clear c44b1
            try clear c45
            try clear c45b0
            try clear c45b1
            try clear hcz10_0 hcz10_1 hcz10_2 hcz10_3 hcz10_4 hcz10_5 hfz10_0 hfz10_1 hfz10_2 hfz10_3 hfz10_4 hfz10_5
            try clear hcz18_0 hcz18_1 hcz18_2 hcz18_3 hcz18_4 hcz18_5 hfz18_0 hfz18_1 hfz18_2 hfz18_3 hfz18_4 hfz18_5
            try clear hcz19_0 hcz19_1 hcz19_2 hcz19_3 hcz19_4 hcz19_5 hfz19_0 hfz19_1 hfz19_2 hfz19_3 hfz19_4 hfz19_5
            try clear hcz20_0 hcz20_1 hcz20_2 hcz20_3 hcz20_4 hcz20_5 hfz20_0 hfz20_1 hfz20_2 hfz20_3 hfz20_4 hfz20_5
            try clear hcz23_0 hcz23_1 hcz23_2 hcz23_3 hcz23_4 hcz23_5 hfz23_0 hfz23_1 hfz23_2 hfz23_3 hfz23_4 hfz23_5
            try clear hcz24_0 hcz24_1 hcz24_2 hcz24_3 hcz24_4 hcz24_5 hfz24_0 hfz24_1 hfz24_2 hfz24_3 hfz24_4 hfz24_5
            try clear hcz33_0 hcz33_1 hcz33_2 hcz33_3 hcz33_4 hcz33_5 hfz33_0 hfz33_1 hfz33_2 hfz33_3 hfz33_4 hfz33_5
            try clear hcz34_0 hcz34_1 hcz34_2 hcz34_3 hcz34_4 hcz34_5 hfz34_0 hfz34_1 hfz34_2 hfz34_3 hfz34_4 hfz34_5
            try clear hcz35_0 hcz35_1 hcz35_2 hcz35_3 hcz35_4 hcz35_5 hfz35_0 hfz35_1 hfz35_2 hfz35_3 hfz35_4 hfz35_5
            try clear hcz38_0 hcz38_1 hcz38_2 hcz38_3 hcz38_4 hcz38_5 hfz38_0 hfz38_1 hfz38_2 hfz38_3 hfz38_4 hfz38_5
            try clear hcz39_0 hcz39_1 hcz39_2 hcz39_3 hcz39_4 hcz39_5 hfz39_0 hfz39_1 hfz39_2 hfz39_3 hfz39_4 hfz39_5
            try clear hcz42_0 hcz42_1 hcz42_2 hcz42_3 hcz42_4 hcz42_5 hfz42_0 hfz42_1 hfz42_2 hfz42_3 hfz42_4 hfz42_5
            try clear hcz6_0 hcz6_1 hcz6_2 hcz6_3 hcz6_4 hcz6_5 hfz6_0 hfz6_1 hfz6_2 hfz6_3 hfz6_4 hfz6_5
            try clear hcz8_0 hcz8_1 hcz8_2 hcz8_3 hcz8_4 hcz8_5 hfz8_0 hfz8_1 hfz8_2 hfz8_3 hfz8_4 hfz8_5
            try clear p2
            obtain ⟨kq, x63_42, rfl, HA, HJ42, BK784, HB⟩ := hcut
            cases kq with
            | zero => exact absurd HA.out (by simp [impl_entryOk.j3])
            | succ kj42 =>
             have H := HA.out
             clear HA
             simp only [impl_entryOk.j3] at H
             by_cases c46 : x63_42 = true
             ·subst c46
              have H1 : (impl_entryOk.j4 kj42 a1 1 100000 a0_0 a0_1 a0_2 a0_3 a0_4 l0_5) = some r := by rw [if_pos rfl] at H; exact H
              clear H
              have H := H1
              clear H1
              have H' := Aside0.mk H
              clear H
              go_wp2
              go_meet
              case rel => exact ⟨_, (1), (100000), (rf__), (rf__), H', ⟨by have := HJ2.out; have := HJ11.out; have := HJ25.out; have := HJ42.out; first | omega | exact Nat.le_refl _⟩, ⟨blk__ BK784.out⟩, ⟨bel__⟩⟩
             ·replace c46 := Bool.eq_false_iff.mpr c46
              subst c46
              have H1 : (if a0_0 = 5 then (impl_entryOk.j4 kj42 a1 1 1000000000 a0_0 a0_1 a0_2 a0_3 a0_4 l0_5) else (impl_entryOk.j4 kj42 a1 0 0 a0_0 a0_1 a0_2 a0_3 a0_4 l0_5)) = some r := by rw [if_neg (show ¬ (false = true) by decide)] at H; exact H
              clear H
              have H := H1
              clear H1
              by_cases c47 : a0_0 = 5
              ·rw [if_pos c47] at H
               have c47b0 : (a0_0 == 5) = true := beq_iff_eq.mpr c47
               have c47b1 : (a0_0 != 5) = false := bne_eq_false_iff_eq.mpr c47
               clear c47
               have H' := Aside0.mk H
               clear H
               go_wp2
               go_meet
               case rel => exact ⟨_, (1), (1000000000), (rf__), (rf__), H', ⟨by have := HJ2.out; have := HJ11.out; have := HJ25.out; have := HJ42.out; first | omega | exact Nat.le_refl _⟩, ⟨blk__ BK784.out⟩, ⟨bel__⟩⟩
              ·rw [if_neg c47] at H
               have c47b0 : (a0_0 == 5) = false := beq_eq_false_iff_ne.mpr c47
               have c47b1 : (a0_0 != 5) = true := bne_iff_ne.mpr c47
               have H' := Aside0.mk H
               clear H
               go_wp2
               go_meet
               case rel => exact ⟨_, (0), (0), (rf__), (rf__), H', ⟨by have := HJ2.out; have := HJ11.out; have := HJ25.out; have := HJ42.out; first | omega | exact Nat.le_refl _⟩, ⟨blk__ BK784.out⟩, ⟨bel__⟩⟩
          case rest =>
           clear HC41
           try clear c1
           try clear c2
           try clear p2
           try clear c3
           try clear c4
           try clear c5
           try clear c5b0
           try clear c7
           try clear c7b0
           try clear c8
           try clear c11
           try clear c14
           try clear c15
           try clear c15b0
           try clear c15b1
           try clear c17
           try clear c22
           try clear c25
           try clear c28
           try clear c30
           try clear c32
           try clear c37
           try clear c40
           try clear c44
           try clear c44b0
           try clear c44b1
           try clear c45
           try clear c45b0
           try clear c45b1
           try clear c46
           try clear c47
           try clear c47b0
           try clear c47b1
           try clear hcz10_0 hcz10_1 hcz10_2 hcz10_3 hcz10_4 hcz10_5 hfz10_0 hfz10_1 hfz10_2 hfz10_3 hfz10_4 hfz10_5
           try clear hcz18_0 hcz18_1 hcz18_2 hcz18_3 hcz18_4 hcz18_5 hfz18_0 hfz18_1 hfz18_2 hfz18_3 hfz18_4 hfz18_5
           try clear hcz19_0 hcz19_1 hcz19_2 hcz19_3 hcz19_4 hcz19_5 hfz19_0 hfz19_1 hfz19_2 hfz19_3 hfz19_4 hfz19_5
           try clear hcz20_0 hcz20_1 hcz20_2 hcz20_3 hcz20_4 hcz20_5 hfz20_0 hfz20_1 hfz20_2 hfz20_3 hfz20_4 hfz20_5
           try clear hcz23_0 hcz23_1 hcz23_2 hcz23_3 hcz23_4 hcz23_5 hfz23_0 hfz23_1 hfz23_2 hfz23_3 hfz23_4 hfz23_5
           try clear hcz24_0 hcz24_1 hcz24_2 hcz24_3 hcz24_4 hcz24_5 hfz24_0 hfz24_1 hfz24_2 hfz24_3 hfz24_4 hfz24_5
           try clear hcz33_0 hcz33_1 hcz33_2 hcz33_3 hcz33_4 hcz33_5 hfz33_0 hfz33_1 hfz33_2 hfz33_3 hfz33_4 hfz33_5
           try clear hcz34_0 hcz34_1 hcz34_2 hcz34_3 hcz34_4 hcz34_5 hfz34_0 hfz34_1 hfz34_2 hfz34_3 hfz34_4 hfz34_5
           try clear hcz35_0 hcz35_1 hcz35_2 hcz35_3 hcz35_4 hcz35_5 hfz35_0 hfz35_1 hfz35_2 hfz35_3 hfz35_4 hfz35_5
           try clear hcz38_0 hcz38_1 hcz38_2 hcz38_3 hcz38_4 hcz38_5 hfz38_0 hfz38_1 hfz38_2 hfz38_3 hfz38_4 hfz38_5
           try clear hcz39_0 hcz39_1 hcz39_2 hcz39_3 hcz39_4 hcz39_5 hfz39_0 hfz39_1 hfz39_2 hfz39_3 hfz39_4 hfz39_5
           try clear hcz42_0 hcz42_1 hcz42_2 hcz42_3 hcz42_4 hcz42_5 hfz42_0 hfz42_1 hfz42_2 hfz42_3 hfz42_4 hfz42_5
           try clear hcz6_0 hcz6_1 hcz6_2 hcz6_3 hcz6_4 hcz6_5 hfz6_0 hfz6_1 hfz6_2 hfz6_3 hfz6_4 hfz6_5
           try clear hcz8_0 hcz8_1 hcz8_2 hcz8_3 hcz8_4 hcz8_5 hfz8_0 hfz8_1 hfz8_2 hfz8_3 hfz8_4 hfz8_5
           try clear p2
           obtain ⟨kq, x5_40, x6_40, rfl, rfl, HA, HJ40, BK784, HB⟩ := hcut
           cases kq with
           | zero => exact absurd HA.out (by simp [impl_entryOk.j4])
           | succ kj40 =>
            have H := HA.out
            clear HA
            simp only [impl_entryOk.j4] at H
            have HC48 := Aside0.mk H
            clear H
            go_upto_region 15 with (fail)
            go_cut [78] (fun v78 wc => ∃ (kq : Nat) (x78_47 : Bool), v78 = .bool x78_47 ∧ Aside0 (impl_entryOk.j5 kq a1 x78_47 a0_0 a0_1 a0_2 a0_3 a0_4 l0_5 = some r) ∧ Aside0 (kq ≤ kj40) ∧ Aside0 (wc.heap[gb784]? = some (.cells #[.int .i64 a0_0, .string a0_1, .string a0_2, .int .i64 a0_3, .string a0_4, (.slice A0_5 l0_5.length c0_5)] 63 (0, 0))) ∧ Aside0 (Below w.heap.size w wc))
            case first =>
             have H := HC48.out
             clear HC48
             by_cases c49 : a0_3 < x5_40
             ·rw [if_pos c49] at H
              have c49b0 : decide (a0_3 < x5_40) = true := decide_eq_true c49
              clear c49
              (first | rw [c49b0] | (simp only [i64_w, i32_w]; rw [c49b0]) | skip)
              have H' := Aside0.mk H
              clear H
              have hcz50_0 : wc.cell? ⟨gb784, 0, none⟩ = some (.int .i64 a0_0) := (blk_cell BK784.out 0).trans rfl
              have hcz50_1 : wc.cell? ⟨gb784, 1, none⟩ = some (.string a0_1) := (blk_cell BK784.out 1).trans rfl
              have hcz50_2 : wc.cell? ⟨gb784, 2, none⟩ = some (.string a0_2) := (blk_cell BK784.out 2).trans rfl
              have hcz50_3 : wc.cell? ⟨gb784, 3, none⟩ = some (.int .i64 a0_3) := (blk_cell BK784.out 3).trans rfl
              have hcz50_4 : wc.cell? ⟨gb784, 4, none⟩ = some (.string a0_4) := (blk_cell BK784.out 4).trans rfl
              have hcz50_5 : wc.cell? ⟨gb784, 5, none⟩ = some (.slice A0_5 l0_5.length c0_5) := (blk_cell BK784.out 5).trans rfl
              have hfz50_0 := blk_frozen BK784.out 0
              have hfz50_1 := blk_frozen BK784.out 1
              have hfz50_2 := blk_frozen BK784.out 2
              have hfz50_3 := blk_frozen BK784.out 3
              have hfz50_4 := blk_frozen BK784.out 4
              have hfz50_5 := blk_frozen BK784.out 5
              go_wp2
              go_meet
              case rel => exact ⟨_, (true), (rf__), H', ⟨by have := HJ2.out; have := HJ11.out; have := HJ25.out; have := HJ40.out; first | omega | exact Nat.le_refl _⟩, ⟨blk__ BK784.out⟩, ⟨bel__⟩⟩
             ·rw [if_neg c49] at H
              have c49b0 : decide (a0_3 < x5_40) = false := decide_eq_false c49
              clear c49
              (first | rw [c49b0] | (simp only [i64_w, i32_w]; rw [c49b0]) | skip)
              have H' := Aside0.mk H
              clear H
              have hcz51_0 : wc.cell? ⟨gb784, 0, none⟩ = some (.int .i64 a0_0) := (blk_cell BK784.out 0).trans rfl
              have hcz51_1 : wc.cell? ⟨gb784, 1, none⟩ = some (.string a0_1) := (blk_cell BK784.out 1).trans rfl
              have hcz51_2 : wc.cell? ⟨gb784, 2, none⟩ = some (.string a0_2) := (blk_cell BK784.out 2).trans rfl
              have hcz51_3 : wc.cell? ⟨gb784, 3, none⟩ = some (.int .i64 a0_3) := (blk_cell BK784.out 3).trans rfl
              have hcz51_4 : wc.cell? ⟨gb784, 4, none⟩ = some (.string a0_4) := (blk_cell BK784.out 4).trans rfl
              have hcz51_5 : wc.cell? ⟨gb784, 5, none⟩ = some (.slice A0_5 l0_5.length c0_5) := (blk_cell BK784.out 5).trans rfl
              have hfz51_0 := blk_frozen BK784.out 0
              have hfz51_1 := blk_frozen BK784.out 1
              have hfz51_2 := blk_frozen BK784.out 2
              have hfz51_3 := blk_frozen BK784.out 3
              have hfz51_4 := blk_frozen BK784.out 4
              have hfz51_5 := blk_frozen BK784.out 5
              go_wp2
              go_meet
              case rel => exact ⟨_, (decide (a0_3 > x6_40)), (rf__), H', ⟨by have := HJ2.out; have := HJ11.out; have := HJ25.out; have := HJ40.out; first | omega | exact Nat.le_refl _⟩, ⟨blk__ BK784.out⟩, ⟨bel__⟩⟩
            case rest =>
             clear HC48
             try clear c1
             try clear c2
             try clear p2
             try clear c3
             try clear c4
             try clear c5
             try clear c5b0
             try clear c7
             try clear c7b0
             try clear c8
             try clear c11
             try clear c14
             try clear c15
             try clear c15b0
             try clear c15b1
             try clear c17
             try clear c22
             try clear c25
             try clear c28
             try clear c30
             try clear c32
             try clear c37
             try clear c40
             try clear c44
             try clear c44b0
             try clear c44b1
             try clear c45
             try clear c45b0
             try clear c45b1
             try clear c46
             try clear c47
             try clear c47b0
             try clear c47b1
             try clear c49
             try clear c49b0
             try clear hcz10_0 hcz10_1 hcz10_2 hcz10_3 hcz10_4 hcz10_5 hfz10_0 hfz10_1 hfz10_2 hfz10_3 hfz10_4 hfz10_5
             try clear hcz18_0 hcz18_1 hcz18_2 hcz18_3 hcz18_4 hcz18_5 hfz18_0 hfz18_1 hfz18_2 hfz18_3 hfz18_4 hfz18_5
             try clear hcz19_0 hcz19_1 hcz19_2 hcz19_3 hcz19_4 hcz19_5 hfz19_0 hfz19_1 hfz19_2 hfz19_3 hfz19_4 hfz19_5
             try clear hcz20_0 hcz20_1 hcz20_2 hcz20_3 hcz20_4 hcz20_5 hfz20_0 hfz20_1 hfz20_2 hfz20_3 hfz20_4 hfz20_5
             try clear hcz23_0 hcz23_1 hcz23_2 hcz23_3 hcz23_4 hcz23_5 hfz23_0 hfz23_1 hfz23_2 hfz23_3 hfz23_4 hfz23_5
             try clear hcz24_0 hcz24_1 hcz24_2 hcz24_3 hcz24_4 hcz24_5 hfz24_0 hfz24_1 hfz24_2 hfz24_3 hfz24_4 hfz24_5
             try clear hcz33_0 hcz33_1 hcz33_2 hcz33_3 hcz33_4 hcz33_5 hfz33_0 hfz33_1 hfz33_2 hfz33_3 hfz33_4 hfz33_5
             try clear hcz34_0 hcz34_1 hcz34_2 hcz34_3 hcz34_4 hcz34_5 hfz34_0 hfz34_1 hfz34_2 hfz34_3 hfz34_4 hfz34_5
             try clear hcz35_0 hcz35_1 hcz35_2 hcz35_3 hcz35_4 hcz35_5 hfz35_0 hfz35_1 hfz35_2 hfz35_3 hfz35_4 hfz35_5
             try clear hcz38_0 hcz38_1 hcz38_2 hcz38_3 hcz38_4 hcz38_5 hfz38_0 hfz38_1 hfz38_2 hfz38_3 hfz38_4 hfz38_5
             try clear hcz39_0 hcz39_1 hcz39_2 hcz39_3 hcz39_4 hcz39_5 hfz39_0 hfz39_1 hfz39_2 hfz39_3 hfz39_4 hfz39_5
             try clear hcz42_0 hcz42_1 hcz42_2 hcz42_3 hcz42_4 hcz42_5 hfz42_0 hfz42_1 hfz42_2 hfz42_3 hfz42_4 hfz42_5
             try clear hcz50_0 hcz50_1 hcz50_2 hcz50_3 hcz50_4 hcz50_5 hfz50_0 hfz50_1 hfz50_2 hfz50_3 hfz50_4 hfz50_5
             try clear hcz51_0 hcz51_1 hcz51_2 hcz51_3 hcz51_4 hcz51_5 hfz51_0 hfz51_1 hfz51_2 hfz51_3 hfz51_4 hfz51_5
             try clear hcz6_0 hcz6_1 hcz6_2 hcz6_3 hcz6_4 hcz6_5 hfz6_0 hfz6_1 hfz6_2 hfz6_3 hfz6_4 hfz6_5
             try clear hcz8_0 hcz8_1 hcz8_2 hcz8_3 hcz8_4 hcz8_5 hfz8_0 hfz8_1 hfz8_2 hfz8_3 hfz8_4 hfz8_5
             try clear p2
             obtain ⟨kq, x78_47, rfl, HA, HJ47, BK784, HB⟩ := hcut
             cases kq with
             | zero => exact absurd HA.out (by simp [impl_entryOk.j5])
             | succ kj47 =>
              have H := HA.out
              clear HA
              simp only [impl_entryOk.j5] at H
              by_cases c52 : x78_47 = true
              ·subst c52
               have H1 : (some false) = some r := by rw [if_pos rfl] at H; exact H
               clear H
               have H := H1
               clear H1
               obtain rfl := Option.some.inj H
               go_wp2
               go_ret
               exact ⟨by first | rfl | (simp [errW_none, errW_some] <;> rfl) | (simp [*, errW_none, errW_some] <;> rfl), bel__⟩
              ·replace c52 := Bool.eq_false_iff.mpr c52
               subst c52
               have H1 : (if a0_0 = 1 then ((impl_thingOk.f kj47 a0_4 l0_5 a1).bind fun t793 => (some t793)) else (if a0_4.toList = ([] : List UInt8) then (some ((l0_5.length : Int) == 0)) else (some false))) = some r := by rw [if_neg (show ¬ (false = true) by decide)] at H; exact H
               clear H
               have H := H1
               clear H1
               by_cases c53 : a0_0 = 1
               ·rw [if_pos c53] at H
                have c53b0 : (a0_0 == 1) = true := beq_iff_eq.mpr c53
                have c53b1 : (a0_0 != 1) = false := bne_eq_false_iff_eq.mpr c53
                clear c53
                replace H := Option.bind_eq_some_iff.mp H
                obtain ⟨t793, A540, H⟩ := H
                replace H : (some t793) = some r := H
                have A54 := Aside0.mk A540
                clear A540
                obtain rfl := Option.some.inj H
                have hcz55_0 : wc.cell? ⟨gb784, 0, none⟩ = some (.int .i64 a0_0) := (blk_cell BK784.out 0).trans rfl
                have hcz55_1 : wc.cell? ⟨gb784, 1, none⟩ = some (.string a0_1) := (blk_cell BK784.out 1).trans rfl
                have hcz55_2 : wc.cell? ⟨gb784, 2, none⟩ = some (.string a0_2) := (blk_cell BK784.out 2).trans rfl
                have hcz55_3 : wc.cell? ⟨gb784, 3, none⟩ = some (.int .i64 a0_3) := (blk_cell BK784.out 3).trans rfl
                have hcz55_4 : wc.cell? ⟨gb784, 4, none⟩ = some (.string a0_4) := (blk_cell BK784.out 4).trans rfl
                have hcz55_5 : wc.cell? ⟨gb784, 5, none⟩ = some (.slice A0_5 l0_5.length c0_5) := (blk_cell BK784.out 5).trans rfl
                have hfz55_0 := blk_frozen BK784.out 0
                have hfz55_1 := blk_frozen BK784.out 1
                have hfz55_2 := blk_frozen BK784.out 2
                have hfz55_3 := blk_frozen BK784.out 3
                have hfz55_4 := blk_frozen BK784.out 4
                have hfz55_5 := blk_frozen BK784.out 5
                go_wp2_with (first | ((with_reducible refine gate_callee (f := 63) rfl ?_); refine gl__ (some 85) Try.func63 #[.agg #[.string a0_4, .slice A0_5 l0_5.length c0_5], .int .i64 a1] ?_; (with_reducible refine (impl_thingOk.calls kj47 a0_4 _ _ l0_5 a1 t793 _ ?side1 HC0_5.out A54.out).mono ?_); (case side1 => repeat (first | exact (Kd.C_below HR0_5.out HB.out) | (with_reducible refine Kd.C_alloc ?_ _) | (with_reducible refine Kd.C_drewN ?_ _) | (with_reducible refine Kd.C_drew ?_))); rintro e w56 ⟨rfl, hb⟩; refine ⟨_, rfl, ?_⟩; replace BK784 := am__ (blb__ BK784.out hb); replace HB := am__ (below_step (bel__) hb); clear hb))
                go_ret
                exact ⟨by first | rfl | (simp [errW_none, errW_some] <;> rfl) | (simp [*, errW_none, errW_some] <;> rfl), bel__⟩
               ·rw [if_neg c53] at H
                have c53b0 : (a0_0 == 1) = false := beq_eq_false_iff_ne.mpr c53
                have c53b1 : (a0_0 != 1) = true := bne_iff_ne.mpr c53
                by_cases c57 : a0_4.toList = ([] : List UInt8)
                ·rw [if_pos c57] at H
                 have c57b0 : (a0_4.toList == ([] : List UInt8)) = true := beq_iff_eq.mpr c57
                 have c57b1 : (a0_4.toList != ([] : List UInt8)) = false := bne_eq_false_iff_eq.mpr c57
                 clear c57
                 obtain rfl := Option.some.inj H
                 have hcz58_0 : wc.cell? ⟨gb784, 0, none⟩ = some (.int .i64 a0_0) := (blk_cell BK784.out 0).trans rfl
                 have hcz58_1 : wc.cell? ⟨gb784, 1, none⟩ = some (.string a0_1) := (blk_cell BK784.out 1).trans rfl
                 have hcz58_2 : wc.cell? ⟨gb784, 2, none⟩ = some (.string a0_2) := (blk_cell BK784.out 2).trans rfl
                 have hcz58_3 : wc.cell? ⟨gb784, 3, none⟩ = some (.int .i64 a0_3) := (blk_cell BK784.out 3).trans rfl
                 have hcz58_4 : wc.cell? ⟨gb784, 4, none⟩ = some (.string a0_4) := (blk_cell BK784.out 4).trans rfl
                 have hcz58_5 : wc.cell? ⟨gb784, 5, none⟩ = some (.slice A0_5 l0_5.length c0_5) := (blk_cell BK784.out 5).trans rfl
                 have hfz58_0 := blk_frozen BK784.out 0
                 have hfz58_1 := blk_frozen BK784.out 1
                 have hfz58_2 := blk_frozen BK784.out 2
                 have hfz58_3 := blk_frozen BK784.out 3
                 have hfz58_4 := blk_frozen BK784.out 4
                 have hfz58_5 := blk_frozen BK784.out 5
                 go_wp2
                 go_ret
                 exact ⟨by first | rfl | (simp [errW_none, errW_some] <;> rfl) | (simp [*, errW_none, errW_some] <;> rfl), bel__⟩
                ·rw [if_neg c57] at H
                 have c57b0 : (a0_4.toList == ([] : List UInt8)) = false := beq_eq_false_iff_ne.mpr c57
                 have c57b1 : (a0_4.toList != ([] : List UInt8)) = true := bne_iff_ne.mpr c57
                 obtain rfl := Option.some.inj H
                 have hcz59_0 : wc.cell? ⟨gb784, 0, none⟩ = some (.int .i64 a0_0) := (blk_cell BK784.out 0).trans rfl
                 have hcz59_1 : wc.cell? ⟨gb784, 1, none⟩ = some (.string a0_1) := (blk_cell BK784.out 1).trans rfl
                 have hcz59_2 : wc.cell? ⟨gb784, 2, none⟩ = some (.string a0_2) := (blk_cell BK784.out 2).trans rfl
                 have hcz59_3 : wc.cell? ⟨gb784, 3, none⟩ = some (.int .i64 a0_3) := (blk_cell BK784.out 3).trans rfl
                 have hcz59_4 : wc.cell? ⟨gb784, 4, none⟩ = some (.string a0_4) := (blk_cell BK784.out 4).trans rfl
                 have hcz59_5 : wc.cell? ⟨gb784, 5, none⟩ = some (.slice A0_5 l0_5.length c0_5) := (blk_cell BK784.out 5).trans rfl
                 have hfz59_0 := blk_frozen BK784.out 0
                 have hfz59_1 := blk_frozen BK784.out 1
                 have hfz59_2 := blk_frozen BK784.out 2
                 have hfz59_3 := blk_frozen BK784.out 3
                 have hfz59_4 := blk_frozen BK784.out 4
                 have hfz59_5 := blk_frozen BK784.out 5
                 go_wp2
                 go_ret
                 exact ⟨by first | rfl | (simp [errW_none, errW_some] <;> rfl) | (simp [*, errW_none, errW_some] <;> rfl), bel__⟩
end Go.Proofs.Ytpnblgbkjbpeoaa.P

namespace Go.Proofs.Ytpnblgbkjbpeoaa.P
open Go.RowKit Go.Proofs.YtpnblgbkjbpeoaaW.PrintWords Go.Proofs.YtpnblgbkjbpeoaaW.PrintLast Go.Proofs.YtpnblgbkjbpeoaaW.PrintMore
attribute [local go_sem] max2_int min2_int max_two min_two max_three min_three max_four min_four   -- for this text's walks alone
set_option linter.unusedVariables false
set_option linter.unusedSimpArgs false
/-! ### binary_bigEndian_AppendUint32: function 76 -/
def binary_bigEndian_AppendUint32.f  (l1 : List Int) (a2 : Int) : Option (List Int) := (some (([(a2 / 16777216) % 256, (a2 / 65536) % 256, (a2 / 256) % 256, (a2) % 256] : List Int) : List Int)).bind fun y795 => (if l1.length + y795.length < 140737488355328 then (some (l1 ++ y795)) else (none))
set_option maxHeartbeats 8000000 in
set_option maxRecDepth 100000 in
theorem binary_bigEndian_AppendUint32.calls  (P1_ : Nat → Prop) (u9000_ : Value) (l1 : List Int) (a2 : Int) (r : List Int) (w0 w : World) (hB : Below w0.heap.size w0 w) (ho1 : Kd.R (Kd.int .u8) 5 w w0.heap.size P1_ u9000_ l1) (h : binary_bigEndian_AppendUint32.f l1 a2 = some r) :
  Calls Try.prog 76 #[.agg #[], u9000_, .int .u32 a2] w fun e w' => ∃ v0_ : Value, e = .returned (v0_) ∧ Kd.R (Kd.int .u8) 5 w' w0.heap.size (fun k_ => (P1_ k_ ∨ w.heap.size ≤ k_)) v0_ r ∧ Below w0.heap.size w0 w' ∧ Kept w w' (fun k_ => P1_ k_) := by
 have hu92 := Try.underlying92
 have HO1 := am__ (show Kd.R (Kd.int .u8) 5 w w0.heap.size (fun k_ => (P1_ k_ ∨ w.heap.size ≤ k_)) u9000_ l1 from Kd.R_mono ho1 (fun k_ hk => (.inl hk)))
 have HK := am__ (Kept.refl w (fun k_ => P1_ k_))
 have HW0 := Aside0.mk hB.size
 have HB := Aside0.mk hB
 clear hB
 have H : ((some (([(a2 / 16777216) % 256, (a2 / 65536) % 256, (a2 / 256) % 256, (a2) % 256] : List Int) : List Int)).bind fun y795 => (if l1.length + y795.length < 140737488355328 then (some (l1 ++ y795)) else (none))) = some r := h
 clear h
 obtain ⟨y795, hy795⟩ : ∃ y_ : List Int, y_ = (([(a2 / 16777216) % 256, (a2 / 65536) % 256, (a2 / 256) % 256, (a2) % 256] : List Int)) := ⟨_, rfl⟩
 replace H : (if l1.length + y795.length < 140737488355328 then (some (l1 ++ y795)) else (none)) = some r := by first | (rw [hy795]; with_reducible exact H) | (have H2_ := (Option.bind_some _ _).symm.trans H; rw [hy795]; with_reducible exact H2_) | (have H2_ := (Option.bind_some _ _).symm.trans H; with_reducible exact H2_) | with_reducible exact H | (rw [hy795]; exact H) | exact H
 have Ny795 := Aside0.mk hy795
 clear hy795
 by_cases c4 : l1.length + y795.length < 140737488355328
 ·rw [if_pos c4] at H
  have LMc4 := Aside0.mk c4
  clear c4
  obtain ⟨y798, hy798⟩ : ∃ y_ : List Int, y_ = (l1 ++ y795) := ⟨_, rfl⟩
  replace H : (some y798) = some r := by first | (rw [hy798]; with_reducible exact H) | (have H2_ := (Option.bind_some _ _).symm.trans H; rw [hy798]; with_reducible exact H2_) | (have H2_ := (Option.bind_some _ _).symm.trans H; with_reducible exact H2_) | with_reducible exact H | (rw [hy798]; exact H) | exact H
  have Ny798 := Aside0.mk hy798
  clear hy798
  obtain rfl := Option.some.inj H
  go_enter Try.func76, Try.ntmps76
  go_wp2_with (first | ((with_reducible refine gate_dst (N := 3) rfl ?_); refine be__ 3 #[] 92 ?_; intro gb794 hg w5 hbox hb; replace HO1 := am__ (Kd.R_below (rr__ HO1.out) hb); have BK794 := am__ (hbox); have GW794 := am__ ((by rw [hg]; exact (by first | exact HK.out.1 | exact (show Kept w _ (fun k_ => P1_ k_) from by repeat (first | (with_reducible first | exact HK.out | apply Kept.alloc | apply Kept.drewN | apply Kept.drew) | exact HK.out)).1) : w.heap.size ≤ gb794)); replace HK := am__ (Kept.below (S := (fun k_ => P1_ k_)) (by repeat (first | (with_reducible first | exact HK.out | apply Kept.alloc | apply Kept.drewN | apply Kept.drew) | exact HK.out)) hb); have GE794 := am__ ((bsz__ hg bel__ : w0.heap.size ≤ gb794)); replace HB := am__ (below_step (bel__) hb); clear hb hbox hg) | ((with_reducible refine gate_dst (N := 19) rfl ?_); refine Kd.R_lit (Kd.int .u8) _ 5 ?hg (N := 19) ?hd (xs := ([(a2 / 16777216) % 256, (a2 / 65536) % 256, (a2 / 256) % 256, (a2) % 256] : List Int)) (inner := [.int .u8 ((a2 / 16777216) % 256), .int .u8 ((a2 / 65536) % 256), .int .u8 ((a2 / 256) % 256), .int .u8 ((a2) % 256)]) (ok := fun _ => True) (okp := fun _ => True) ?hr ?hp (fun _ hk => hk) trivial (Below.refl _ _) (Nat.le_refl _) (by simp) ?_; (case hd => rfl); (case hg => rfl); (case hr => first | (go_simp; done) | (go_simp; rfl)); (case hp => exact (Reps.one (show Kd.M (Kd.int .u8) _ _ _ ((a2 / 16777216) % 256) [.int .u8 ((a2 / 16777216) % 256)] from rfl) (Reps.one (show Kd.M (Kd.int .u8) _ _ _ ((a2 / 65536) % 256) [.int .u8 ((a2 / 65536) % 256)] from rfl) (Reps.one (show Kd.M (Kd.int .u8) _ _ _ ((a2 / 256) % 256) [.int .u8 ((a2 / 256) % 256)] from rfl) (Reps.one (show Kd.M (Kd.int .u8) _ _ _ ((a2) % 256) [.int .u8 ((a2) % 256)] from rfl) (Reps.none _ _)))))); intro v796 w6 ho7 hb hg_ hnew_; clear hg_ hnew_; (first | rw [← Ny795.out] at ho7 | (simp only [Int.reduceToNat] at ho7; rw [← Ny795.out] at ho7)); have HO797 := am__ (Kd.R_lower (Kd.R_new' (Kd.R_newM (M := fun k_ => (P1_ k_ ∨ w.heap.size ≤ k_)) ho7 (by first | exact HK.out.1 | exact (show Kept w _ (fun k_ => P1_ k_) from by repeat (first | (with_reducible first | exact HK.out | apply Kept.alloc | apply Kept.drewN | apply Kept.drew | refine Kept.setCell ?_ (.inr GW794.out) _) | exact HK.out)).1) (fun k_ h_ => .inr h_)) (Kd.R_lt (rr__ HO1.out))) (below_size (bel__))); replace HO1 := am__ (Kd.R_elder' (rr__ HO1.out) (Kd.R_base ho7) hb); replace BK794 := am__ (blb__ BK794.out hb); replace HK := am__ (Kept.below (S := (fun k_ => P1_ k_)) (by repeat (first | (with_reducible first | exact HK.out | apply Kept.alloc | apply Kept.drewN | apply Kept.drew | refine Kept.setCell ?_ (.inr GW794.out) _) | exact HK.out)) hb); replace HB := am__ (below_step (bel__) hb); clear hb ho7; obtain ⟨Ao9, co9, eo9⟩ := Kd.R_slice HO797.out; subst eo9) | ((with_reducible refine gate_builtin (b := .append) (xs := #[.tmp 7, .tmp 19]) rfl ?_); at_builtin; refine Kd.R_append_rows (Kd.int .u8) (w0 := w0) w0.heap.size rfl (.tmp 7) (.tmp 19) 52 5 (.int .u8 0) 1 rfl Try.underlying52 info5 rfl (by decide) (by omega) u9000_ l1 y795 _ _ _ (fun k_ => (P1_ k_ ∨ w.heap.size ≤ k_) ∧ some k_ ≠ (ob__ Ao9 y795.length co9)) (fun _ => False) rfl rfl ?aO ?aR (fun _ _ h => h) (fun _ h => h.elim) ?aF ?aB ?aS ?aL ?_; (case aR => repeat (first | exact (Kd.R_reads' HO797.out).2.2 | (with_reducible refine Kd.C_alloc ?_ _) | (with_reducible refine Kd.C_drewN ?_ _) | (with_reducible refine Kd.C_drew ?_))); (case aB => exact (bel__)); (case aF => exact (fun k_ hk => ⟨(.inr (Nat.le_trans (by first | exact HK.out.1 | exact (show Kept w _ (fun k_ => P1_ k_) from by repeat (first | (with_reducible first | exact HK.out | apply Kept.alloc | apply Kept.drewN | apply Kept.drew | refine Kept.setCell ?_ (.inr GW794.out) _) | exact HK.out)).1) hk)), Kd.fresh' (Kd.R_lt (rr__ HO797.out)) k_ hk⟩)); (case aO => exact (rr__ HO1.out)); (case aS => exact (below_size (bel__))); (case aL => have := LMc4.out; omega); intro v799 w8 ho hb hg hat; rw [← Ny798.out] at ho; have n0_ := am__ (bgr__ BK794.out hg (Kd.R_ne HO1.out BK794.out (by decide))); have n1_ := am__ (Kd.R_after (ok := (fun k_ => (P1_ k_ ∨ w.heap.size ≤ k_))) (by refine rps__ ?_; exact Kd.R_mono HO797.out (fun _ hk => ⟨hk.1.1, hk.2⟩)) hg hat); have n2_ := am__ (hb); have n3_ := am__ (Kept.of_grown (S := (fun k_ => P1_ k_)) hg (by repeat (first | (with_reducible first | exact HK.out | apply Kept.alloc | apply Kept.drewN | apply Kept.drew | refine Kept.setCell ?_ (.inr GW794.out) _) | exact HK.out)) (fun k_ e_ => (HO1.out.1 k_ e_).1)); have n4_ := am__ (ho); clear BK794; clear HO797; clear HB; clear HK; clear HO1; have BK794 := n0_; have HO797 := n1_; have HB := n2_; have HK := n3_; have HO800 := n4_; clear n0_ n1_ n2_ n3_ n4_; clear ho hb hg hat))
  go_ret
  exact ⟨_, by first | rfl | (simp [errW_none, errW_some] <;> rfl) | (simp [*, errW_none, errW_some] <;> rfl), by refine rps__ ?_; exact Kd.R_mono HO800.out (fun _ hk => hk.1), bel__, by repeat (first | (with_reducible first | exact HK.out | apply Kept.alloc | apply Kept.drewN | apply Kept.drew | refine Kept.setCell ?_ (.inr GW794.out) _) | exact HK.out)⟩
 ·rw [if_neg c4] at H
  exact absurd H (by simp)
end Go.Proofs.Ytpnblgbkjbpeoaa.P

namespace Go.Proofs.Ytpnblgbkjbpeoaa.P
open Go.RowKit Go.Proofs.YtpnblgbkjbpeoaaW.PrintWords Go.Proofs.YtpnblgbkjbpeoaaW.PrintLast Go.Proofs.YtpnblgbkjbpeoaaW.PrintMore
attribute [local go_sem] max2_int min2_int max_two min_two max_three min_three max_four min_four   -- for this text's walks alone
set_option linter.unusedVariables false
set_option linter.unusedSimpArgs false
/-! ### impl_FormEntry: function 45 -/
def impl_FormEntry.f (k : Nat) (a0_0 : Int) (a0_1 : ByteArray) (a0_2 : ByteArray) (a0_3 : Int) (a0_4 : ByteArray) (l0_5 : List ByteArray) (a1 : Int) : Option (ByteArray) := (impl_entryOk.f k a0_0 a0_1 a0_2 a0_3 a0_4 l0_5 a1).bind fun t802 => (if t802 = true then ((binary_bigEndian_AppendUint32.f (([(a0_0) % 256] : List Int)) ((a0_3) % 4294967296)).bind fun t806 => (if t806.length < 140737488355328 then ((some (t806 ++ [((a0_2.size : Int)) % 256] : List Int)).bind fun y809 => (if (strOfNums y809).size + a0_2.size ≤ 9223372036854775807 then (if ((strOfNums y809) ++ a0_2).size + a0_1.size ≤ 9223372036854775807 then (if a0_0 = 1 then ((impl_form.f k a0_4 l0_5).bind fun t812 => (if (((strOfNums y809) ++ a0_2) ++ a0_1).size + t812.size ≤ 9223372036854775807 then (some ((((strOfNums y809) ++ a0_2) ++ a0_1) ++ t812)) else (none))) else (some (((strOfNums y809) ++ a0_2) ++ a0_1))) else (none)) else (none))) else (none))) else (some (⟨#[]⟩ : ByteArray)))
set_option maxHeartbeats 8000000 in
set_option maxRecDepth 100000 in
theorem impl_FormEntry.calls (k : Nat) (a0_0 : Int) (a0_1 : ByteArray) (a0_2 : ByteArray) (a0_3 : Int) (a0_4 : ByteArray) (A0_5 : Option Addr) (c0_5 : Nat) (l0_5 : List ByteArray) (a1 : Int) (r : ByteArray) (w : World) (hr0_5 : Kd.C Kd.string w A0_5 l0_5.length l0_5) (hc0_5 : l0_5.length ≤ c0_5) (h : impl_FormEntry.f k a0_0 a0_1 a0_2 a0_3 a0_4 l0_5 a1 = some r) :
  Calls Try.prog 45 #[.agg #[.int .i64 a0_0, .string a0_1, .string a0_2, .int .i64 a0_3, .string a0_4, .slice A0_5 l0_5.length c0_5], .int .i64 a1] w fun e w' => e = .returned (.string r) ∧ Below w.heap.size w w' := by
 have hu63 := Try.underlying63
 have hu92 := Try.underlying92
 have hu38 := Try.underlying38
 have HR0_5 := Aside0.mk hr0_5
 have HC0_5 := Aside0.mk hc0_5
 clear hr0_5 hc0_5
 have HB := am__ (Below.refl w.heap.size w)
 have H : ((impl_entryOk.f k a0_0 a0_1 a0_2 a0_3 a0_4 l0_5 a1).bind fun t802 => (if t802 = true then ((binary_bigEndian_AppendUint32.f (([(a0_0) % 256] : List Int)) ((a0_3) % 4294967296)).bind fun t806 => (if t806.length < 140737488355328 then ((some (t806 ++ [((a0_2.size : Int)) % 256] : List Int)).bind fun y809 => (if (strOfNums y809).size + a0_2.size ≤ 9223372036854775807 then (if ((strOfNums y809) ++ a0_2).size + a0_1.size ≤ 9223372036854775807 then (if a0_0 = 1 then ((impl_form.f k a0_4 l0_5).bind fun t812 => (if (((strOfNums y809) ++ a0_2) ++ a0_1).size + t812.size ≤ 9223372036854775807 then (some ((((strOfNums y809) ++ a0_2) ++ a0_1) ++ t812)) else (none))) else (some (((strOfNums y809) ++ a0_2) ++ a0_1))) else (none)) else (none))) else (none))) else (some (⟨#[]⟩ : ByteArray)))) = some r := h
 clear h
 replace H := Option.bind_eq_some_iff.mp H
 obtain ⟨t802, A30, H⟩ := H
 replace H : (if t802 = true then ((binary_bigEndian_AppendUint32.f (([(a0_0) % 256] : List Int)) ((a0_3) % 4294967296)).bind fun t806 => (if t806.length < 140737488355328 then ((some (t806 ++ [((a0_2.size : Int)) % 256] : List Int)).bind fun y809 => (if (strOfNums y809).size + a0_2.size ≤ 9223372036854775807 then (if ((strOfNums y809) ++ a0_2).size + a0_1.size ≤ 9223372036854775807 then (if a0_0 = 1 then ((impl_form.f k a0_4 l0_5).bind fun t812 => (if (((strOfNums y809) ++ a0_2) ++ a0_1).size + t812.size ≤ 9223372036854775807 then (some ((((strOfNums y809) ++ a0_2) ++ a0_1) ++ t812)) else (none))) else (some (((strOfNums y809) ++ a0_2) ++ a0_1))) else (none)) else (none))) else (none))) else (some (⟨#[]⟩ : ByteArray))) = some r := H
 have A3 := Aside0.mk A30
 clear A30
 by_cases c4 : t802 = true
 ·subst c4
  have H1 : ((binary_bigEndian_AppendUint32.f (([(a0_0) % 256] : List Int)) ((a0_3) % 4294967296)).bind fun t806 => (if t806.length < 140737488355328 then ((some (t806 ++ [((a0_2.size : Int)) % 256] : List Int)).bind fun y809 => (if (strOfNums y809).size + a0_2.size ≤ 9223372036854775807 then (if ((strOfNums y809) ++ a0_2).size + a0_1.size ≤ 9223372036854775807 then (if a0_0 = 1 then ((impl_form.f k a0_4 l0_5).bind fun t812 => (if (((strOfNums y809) ++ a0_2) ++ a0_1).size + t812.size ≤ 9223372036854775807 then (some ((((strOfNums y809) ++ a0_2) ++ a0_1) ++ t812)) else (none))) else (some (((strOfNums y809) ++ a0_2) ++ a0_1))) else (none)) else (none))) else (none))) = some r := by rw [if_pos rfl] at H; exact H
  clear H
  have H := H1
  clear H1
  obtain ⟨y803, hy803⟩ : ∃ y_ : List Int, y_ = (([(a0_0) % 256] : List Int)) := ⟨_, rfl⟩
  replace H : ((binary_bigEndian_AppendUint32.f y803 ((a0_3) % 4294967296)).bind fun t806 => (if t806.length < 140737488355328 then ((some (t806 ++ [((a0_2.size : Int)) % 256] : List Int)).bind fun y809 => (if (strOfNums y809).size + a0_2.size ≤ 9223372036854775807 then (if ((strOfNums y809) ++ a0_2).size + a0_1.size ≤ 9223372036854775807 then (if a0_0 = 1 then ((impl_form.f k a0_4 l0_5).bind fun t812 => (if (((strOfNums y809) ++ a0_2) ++ a0_1).size + t812.size ≤ 9223372036854775807 then (some ((((strOfNums y809) ++ a0_2) ++ a0_1) ++ t812)) else (none))) else (some (((strOfNums y809) ++ a0_2) ++ a0_1))) else (none)) else (none))) else (none))) = some r := by first | (rw [hy803]; with_reducible exact H) | (have H2_ := (Option.bind_some _ _).symm.trans H; rw [hy803]; with_reducible exact H2_) | (have H2_ := (Option.bind_some _ _).symm.trans H; with_reducible exact H2_) | with_reducible exact H | (rw [hy803]; exact H) | exact H
  have Ny803 := Aside0.mk hy803
  clear hy803
  replace H := Option.bind_eq_some_iff.mp H
  obtain ⟨t806, A50, H⟩ := H
  replace H : (if t806.length < 140737488355328 then ((some (t806 ++ [((a0_2.size : Int)) % 256] : List Int)).bind fun y809 => (if (strOfNums y809).size + a0_2.size ≤ 9223372036854775807 then (if ((strOfNums y809) ++ a0_2).size + a0_1.size ≤ 9223372036854775807 then (if a0_0 = 1 then ((impl_form.f k a0_4 l0_5).bind fun t812 => (if (((strOfNums y809) ++ a0_2) ++ a0_1).size + t812.size ≤ 9223372036854775807 then (some ((((strOfNums y809) ++ a0_2) ++ a0_1) ++ t812)) else (none))) else (some (((strOfNums y809) ++ a0_2) ++ a0_1))) else (none)) else (none))) else (none)) = some r := H
  have A5 := Aside0.mk A50
  clear A50
  by_cases c6 : t806.length < 140737488355328
  ·rw [if_pos c6] at H
   have LMc6 := Aside0.mk c6
   clear c6
   obtain ⟨y809, hy809⟩ : ∃ y_ : List Int, y_ = (t806 ++ [((a0_2.size : Int)) % 256]) := ⟨_, rfl⟩
   replace H : (if (strOfNums y809).size + a0_2.size ≤ 9223372036854775807 then (if ((strOfNums y809) ++ a0_2).size + a0_1.size ≤ 9223372036854775807 then (if a0_0 = 1 then ((impl_form.f k a0_4 l0_5).bind fun t812 => (if (((strOfNums y809) ++ a0_2) ++ a0_1).size + t812.size ≤ 9223372036854775807 then (some ((((strOfNums y809) ++ a0_2) ++ a0_1) ++ t812)) else (none))) else (some (((strOfNums y809) ++ a0_2) ++ a0_1))) else (none)) else (none)) = some r := by first | (rw [hy809]; with_reducible exact H) | (have H2_ := (Option.bind_some _ _).symm.trans H; rw [hy809]; with_reducible exact H2_) | (have H2_ := (Option.bind_some _ _).symm.trans H; with_reducible exact H2_) | with_reducible exact H | (rw [hy809]; exact H) | exact H
   have Ny809 := Aside0.mk hy809
   clear hy809
   by_cases c7 : (strOfNums y809).size + a0_2.size ≤ 9223372036854775807
   ·rw [if_pos c7] at H
    have c7b0 := eq_true c7
    have c7b1 : decide ((strOfNums y809).size + a0_2.size ≤ 9223372036854775807) = true := decide_eq_true c7
    try have c7b2 : (9223372036854775807 < (strOfNums y809).size + a0_2.size) = False := eq_false (Nat.not_lt.2 c7)
    by_cases c8 : ((strOfNums y809) ++ a0_2).size + a0_1.size ≤ 9223372036854775807
    ·rw [if_pos c8] at H
     have c8b0 := eq_true c8
     have c8b1 : decide (((strOfNums y809) ++ a0_2).size + a0_1.size ≤ 9223372036854775807) = true := decide_eq_true c8
     try have c8b2 : (9223372036854775807 < ((strOfNums y809) ++ a0_2).size + a0_1.size) = False := eq_false (Nat.not_lt.2 c8)
     try (have c8b3 := c8b2; simp only [ByteArray.size_append] at c8b3)
     by_cases c9 : a0_0 = 1
     ·rw [if_pos c9] at H
      have c9b0 : (a0_0 == 1) = true := beq_iff_eq.mpr c9
      have c9b1 : (a0_0 != 1) = false := bne_eq_false_iff_eq.mpr c9
      clear c9
      replace H := Option.bind_eq_some_iff.mp H
      obtain ⟨t812, A100, H⟩ := H
      replace H : (if (((strOfNums y809) ++ a0_2) ++ a0_1).size + t812.size ≤ 9223372036854775807 then (some ((((strOfNums y809) ++ a0_2) ++ a0_1) ++ t812)) else (none)) = some r := H
      have A10 := Aside0.mk A100
      clear A100
      by_cases c11 : (((strOfNums y809) ++ a0_2) ++ a0_1).size + t812.size ≤ 9223372036854775807
      ·rw [if_pos c11] at H
       have c11b0 := eq_true c11
       have c11b1 : decide ((((strOfNums y809) ++ a0_2) ++ a0_1).size + t812.size ≤ 9223372036854775807) = true := decide_eq_true c11
       try have c11b2 : (9223372036854775807 < (((strOfNums y809) ++ a0_2) ++ a0_1).size + t812.size) = False := eq_false (Nat.not_lt.2 c11)
       try (have c11b3 := c11b2; simp only [ByteArray.size_append] at c11b3)
       obtain rfl := Option.some.inj H
       go_enter Try.func45, Try.ntmps45
       go_wp2_with (first | ((with_reducible refine gate_dst (N := 2) rfl ?_); refine be__ 2 #[.int .i64 a0_0, .string a0_1, .string a0_2, .int .i64 a0_3, .string a0_4, .slice A0_5 l0_5.length c0_5] 63 ?_; intro gb801 hg w12 hbox hb; have BK801 := am__ (hbox); have GW801 := am__ ((bsz__ hg bel__ : w.heap.size ≤ gb801)); have GE801 := am__ ((bsz__ hg bel__ : w.heap.size ≤ gb801)); replace HB := am__ (below_step (bel__) hb); clear hb hbox hg; obtain ⟨hcz13_0, hcz13_1, hcz13_2, hcz13_3, hcz13_4, hcz13_5, hfz13_0, hfz13_1, hfz13_2, hfz13_3, hfz13_4, hfz13_5⟩ := bk6__ BK801.out) | ((with_reducible refine gate_callee (f := 75) rfl ?_); refine gl__ (some 9) Try.func75 #[.agg #[.int .i64 a0_0, .string a0_1, .string a0_2, .int .i64 a0_3, .string a0_4, .slice A0_5 l0_5.length c0_5], .int .i64 a1] ?_; (with_reducible refine (impl_entryOk.calls k a0_0 a0_1 a0_2 a0_3 a0_4 _ _ l0_5 a1 true _ ?side1 HC0_5.out A3.out).mono ?_); (case side1 => repeat (first | exact (Kd.C_below HR0_5.out HB.out) | (with_reducible refine Kd.C_alloc ?_ _) | (with_reducible refine Kd.C_drewN ?_ _) | (with_reducible refine Kd.C_drew ?_))); rintro e w14 ⟨rfl, hb⟩; refine ⟨_, rfl, ?_⟩; replace BK801 := am__ (blb__ BK801.out hb); replace HB := am__ (below_step (bel__) hb); clear hb; obtain ⟨hcz15_0, hcz15_1, hcz15_2, hcz15_3, hcz15_4, hcz15_5, hfz15_0, hfz15_1, hfz15_2, hfz15_3, hfz15_4, hfz15_5⟩ := bk6__ BK801.out) | ((with_reducible refine gate_dst (N := 15) rfl ?_); refine Kd.R_lit (Kd.int .u8) _ 5 ?hg (N := 15) ?hd (xs := ([(a0_0) % 256] : List Int)) (inner := [.int .u8 ((a0_0) % 256)]) (ok := fun _ => True) (okp := fun _ => True) ?hr ?hp (fun _ hk => hk) trivial (Below.refl _ _) (Nat.le_refl _) (by simp) ?_; (case hd => rfl); (case hg => rfl); (case hr => first | (go_simp; done) | (go_simp; rfl)); (case hp => exact (Reps.one (show Kd.M (Kd.int .u8) _ _ _ ((a0_0) % 256) [.int .u8 ((a0_0) % 256)] from rfl) (Reps.none _ _))); intro v804 w16 ho17 hb hg_ hnew_; clear hg_ hnew_; (first | rw [← Ny803.out] at ho17 | (simp only [Int.reduceToNat] at ho17; rw [← Ny803.out] at ho17)); have HO805 := am__ (Kd.R_lower ho17 (below_size (bel__))); replace BK801 := am__ (blb__ BK801.out hb); replace HB := am__ (below_step (bel__) hb); clear hb ho17; obtain ⟨hcz18_0, hcz18_1, hcz18_2, hcz18_3, hcz18_4, hcz18_5, hfz18_0, hfz18_1, hfz18_2, hfz18_3, hfz18_4, hfz18_5⟩ := bk6__ BK801.out; obtain ⟨Ao19, co19, eo19⟩ := Kd.R_slice HO805.out; subst eo19) | ((with_reducible refine gate_callee (f := 76) rfl ?_); refine gl__ (some 19) Try.func76 #[.agg #[], .slice Ao19 y803.length co19, .int .u32 ((a0_3) % 4294967296)] ?_; (with_reducible refine (binary_bigEndian_AppendUint32.calls  (fun k_ => some k_ = (ob__ Ao19 y803.length co19)) (.slice Ao19 y803.length co19) y803 ((a0_3) % 4294967296) t806 w _ bel__ ?side2 A5.out).mono ?_); (case side2 => exact Kd.R_tight rfl HO805.out); rintro e w20 ⟨v807, rfl, ho0, hb, hkp⟩; refine ⟨_, rfl, ?_⟩; have n0_ := am__ (blk_kept (blk__ BK801.out) hkp (fun hs_ => (fun e_ => (Kd.R_ne HO805.out BK801.out (by decide)) e_) hs_)); have n1_ := am__ (Kd.R_mono (ok' := fun k_ => True) ho0 (fun k_ hk_ => trivial)); have n2_ := am__ (hb); clear BK801; clear HB; clear HO805; have BK801 := n0_; have HO808 := n1_; have HB := n2_; clear n0_ n1_ n2_; (try clear hb); (try clear hkp); (try clear ho0); obtain ⟨hcz21_0, hcz21_1, hcz21_2, hcz21_3, hcz21_4, hcz21_5, hfz21_0, hfz21_1, hfz21_2, hfz21_3, hfz21_4, hfz21_5⟩ := bk6__ BK801.out) | ((with_reducible refine gate_builtin (b := .append) (xs := #[.tmp 20, .tmp 25]) rfl ?_); at_builtin; refine Kd.R_append (Kd.int .u8) (w0 := w) w.heap.size rfl (.tmp 20) (.tmp 25) 52 5 (.int .u8 0) 1 rfl Try.underlying52 info5 rfl (by decide) (by omega) v807 t806 (((a0_2.size : Int)) % 256) [.int .u8 (((a0_2.size : Int)) % 256)] (fun _ => True) (fun _ => False) rfl rfl ?aP (fun _ hk => hk.elim) ?aF ?aO ?aB ?aS ?aL ?_; (case aP => exact rfl); (case aB => exact (bel__)); (case aF => exact (fun _ _ => trivial)); (case aO => exact (rr__ HO808.out)); (case aS => exact (below_size (bel__))); (case aL => have := LMc6.out; omega); intro v810 w22 ho hb hg hat; rw [← Ny809.out] at ho; have n0_ := am__ (bgr__ BK801.out hg (Kd.R_ne HO808.out BK801.out (by decide))); have n1_ := am__ (hb); have n2_ := am__ (ho); clear BK801; clear HB; clear HO808; have BK801 := n0_; have HB := n1_; have HO811 := n2_; clear n0_ n1_ n2_; clear ho hb hg hat; have hcv23 := own_string (P := Try.prog) Try.underlying52 Try.underlying5 Try.underlying9 (Kd.own_of_R HO811.out); obtain ⟨hcz24_0, hcz24_1, hcz24_2, hcz24_3, hcz24_4, hcz24_5, hfz24_0, hfz24_1, hfz24_2, hfz24_3, hfz24_4, hfz24_5⟩ := bk6__ BK801.out) | ((with_reducible refine gate_callee (f := 64) rfl ?_); refine gl__ (some 41) Try.func64 #[.agg #[.string a0_4, .slice A0_5 l0_5.length c0_5]] ?_; (with_reducible refine (impl_form.calls k a0_4 _ _ l0_5 t812 _ ?side1 HC0_5.out A10.out).mono ?_); (case side1 => repeat (first | exact (Kd.C_below HR0_5.out HB.out) | (with_reducible refine Kd.C_alloc ?_ _) | (with_reducible refine Kd.C_drewN ?_ _) | (with_reducible refine Kd.C_drew ?_))); rintro e w25 ⟨rfl, hb⟩; refine ⟨_, rfl, ?_⟩; replace HO811 := am__ (Kd.R_below (rr__ HO811.out) hb); replace BK801 := am__ (blb__ BK801.out hb); replace HB := am__ (below_step (bel__) hb); clear hb))
       go_ret
       exact ⟨by first | rfl | (simp [errW_none, errW_some] <;> rfl) | (simp [*, errW_none, errW_some] <;> rfl), bel__⟩
      ·rw [if_neg c11] at H
       exact absurd H (by simp)
     ·rw [if_neg c9] at H
      have c9b0 : (a0_0 == 1) = false := beq_eq_false_iff_ne.mpr c9
      have c9b1 : (a0_0 != 1) = true := bne_iff_ne.mpr c9
      obtain rfl := Option.some.inj H
      go_enter Try.func45, Try.ntmps45
      go_wp2_with (first | ((with_reducible refine gate_dst (N := 2) rfl ?_); refine be__ 2 #[.int .i64 a0_0, .string a0_1, .string a0_2, .int .i64 a0_3, .string a0_4, .slice A0_5 l0_5.length c0_5] 63 ?_; intro gb801 hg w26 hbox hb; have BK801 := am__ (hbox); have GW801 := am__ ((bsz__ hg bel__ : w.heap.size ≤ gb801)); have GE801 := am__ ((bsz__ hg bel__ : w.heap.size ≤ gb801)); replace HB := am__ (below_step (bel__) hb); clear hb hbox hg; obtain ⟨hcz27_0, hcz27_1, hcz27_2, hcz27_3, hcz27_4, hcz27_5, hfz27_0, hfz27_1, hfz27_2, hfz27_3, hfz27_4, hfz27_5⟩ := bk6__ BK801.out) | ((with_reducible refine gate_callee (f := 75) rfl ?_); refine gl__ (some 9) Try.func75 #[.agg #[.int .i64 a0_0, .string a0_1, .string a0_2, .int .i64 a0_3, .string a0_4, .slice A0_5 l0_5.length c0_5], .int .i64 a1] ?_; (with_reducible refine (impl_entryOk.calls k a0_0 a0_1 a0_2 a0_3 a0_4 _ _ l0_5 a1 true _ ?side1 HC0_5.out A3.out).mono ?_); (case side1 => repeat (first | exact (Kd.C_below HR0_5.out HB.out) | (with_reducible refine Kd.C_alloc ?_ _) | (with_reducible refine Kd.C_drewN ?_ _) | (with_reducible refine Kd.C_drew ?_))); rintro e w28 ⟨rfl, hb⟩; refine ⟨_, rfl, ?_⟩; replace BK801 := am__ (blb__ BK801.out hb); replace HB := am__ (below_step (bel__) hb); clear hb; obtain ⟨hcz29_0, hcz29_1, hcz29_2, hcz29_3, hcz29_4, hcz29_5, hfz29_0, hfz29_1, hfz29_2, hfz29_3, hfz29_4, hfz29_5⟩ := bk6__ BK801.out) | ((with_reducible refine gate_dst (N := 15) rfl ?_); refine Kd.R_lit (Kd.int .u8) _ 5 ?hg (N := 15) ?hd (xs := ([(a0_0) % 256] : List Int)) (inner := [.int .u8 ((a0_0) % 256)]) (ok := fun _ => True) (okp := fun _ => True) ?hr ?hp (fun _ hk => hk) trivial (Below.refl _ _) (Nat.le_refl _) (by simp) ?_; (case hd => rfl); (case hg => rfl); (case hr => first | (go_simp; done) | (go_simp; rfl)); (case hp => exact (Reps.one (show Kd.M (Kd.int .u8) _ _ _ ((a0_0) % 256) [.int .u8 ((a0_0) % 256)] from rfl) (Reps.none _ _))); intro v804 w30 ho31 hb hg_ hnew_; clear hg_ hnew_; (first | rw [← Ny803.out] at ho31 | (simp only [Int.reduceToNat] at ho31; rw [← Ny803.out] at ho31)); have HO805 := am__ (Kd.R_lower ho31 (below_size (bel__))); replace BK801 := am__ (blb__ BK801.out hb); replace HB := am__ (below_step (bel__) hb); clear hb ho31; obtain ⟨hcz32_0, hcz32_1, hcz32_2, hcz32_3, hcz32_4, hcz32_5, hfz32_0, hfz32_1, hfz32_2, hfz32_3, hfz32_4, hfz32_5⟩ := bk6__ BK801.out; obtain ⟨Ao33, co33, eo33⟩ := Kd.R_slice HO805.out; subst eo33) | ((with_reducible refine gate_callee (f := 76) rfl ?_); refine gl__ (some 19) Try.func76 #[.agg #[], .slice Ao33 y803.length co33, .int .u32 ((a0_3) % 4294967296)] ?_; (with_reducible refine (binary_bigEndian_AppendUint32.calls  (fun k_ => some k_ = (ob__ Ao33 y803.length co33)) (.slice Ao33 y803.length co33) y803 ((a0_3) % 4294967296) t806 w _ bel__ ?side2 A5.out).mono ?_); (case side2 => exact Kd.R_tight rfl HO805.out); rintro e w34 ⟨v807, rfl, ho0, hb, hkp⟩; refine ⟨_, rfl, ?_⟩; have n0_ := am__ (blk_kept (blk__ BK801.out) hkp (fun hs_ => (fun e_ => (Kd.R_ne HO805.out BK801.out (by decide)) e_) hs_)); have n1_ := am__ (Kd.R_mono (ok' := fun k_ => True) ho0 (fun k_ hk_ => trivial)); have n2_ := am__ (hb); clear BK801; clear HB; clear HO805; have BK801 := n0_; have HO808 := n1_; have HB := n2_; clear n0_ n1_ n2_; (try clear hb); (try clear hkp); (try clear ho0); obtain ⟨hcz35_0, hcz35_1, hcz35_2, hcz35_3, hcz35_4, hcz35_5, hfz35_0, hfz35_1, hfz35_2, hfz35_3, hfz35_4, hfz35_5⟩ := bk6__ BK801.out) | ((with_reducible refine gate_builtin (b := .append) (xs := #[.tmp 20, .tmp 25]) rfl ?_); at_builtin; refine Kd.R_append (Kd.int .u8) (w0 := w) w.heap.size rfl (.tmp 20) (.tmp 25) 52 5 (.int .u8 0) 1 rfl Try.underlying52 info5 rfl (by decide) (by omega) v807 t806 (((a0_2.size : Int)) % 256) [.int .u8 (((a0_2.size : Int)) % 256)] (fun _ => True) (fun _ => False) rfl rfl ?aP (fun _ hk => hk.elim) ?aF ?aO ?aB ?aS ?aL ?_; (case aP => exact rfl); (case aB => exact (bel__)); (case aF => exact (fun _ _ => trivial)); (case aO => exact (rr__ HO808.out)); (case aS => exact (below_size (bel__))); (case aL => have := LMc6.out; omega); intro v810 w36 ho hb hg hat; rw [← Ny809.out] at ho; have n0_ := am__ (bgr__ BK801.out hg (Kd.R_ne HO808.out BK801.out (by decide))); have n1_ := am__ (hb); have n2_ := am__ (ho); clear BK801; clear HB; clear HO808; have BK801 := n0_; have HB := n1_; have HO811 := n2_; clear n0_ n1_ n2_; clear ho hb hg hat; have hcv37 := own_string (P := Try.prog) Try.underlying52 Try.underlying5 Try.underlying9 (Kd.own_of_R HO811.out); obtain ⟨hcz38_0, hcz38_1, hcz38_2, hcz38_3, hcz38_4, hcz38_5, hfz38_0, hfz38_1, hfz38_2, hfz38_3, hfz38_4, hfz38_5⟩ := bk6__ BK801.out))
      go_ret
      exact ⟨by first | rfl | (simp [errW_none, errW_some] <;> rfl) | (simp [*, errW_none, errW_some] <;> rfl), bel__⟩
    ·rw [if_neg c8] at H
     exact absurd H (by simp)
   ·rw [if_neg c7] at H
    exact absurd H (by simp)
  ·rw [if_neg c6] at H
   exact absurd H (by simp)
 ·replace c4 := Bool.eq_false_iff.mpr c4
  subst c4
  have H1 : (some (⟨#[]⟩ : ByteArray)) = some r := by rw [if_neg (show ¬ (false = true) by decide)] at H; exact H
  clear H
  have H := H1
  clear H1
  obtain rfl := Option.some.inj H
  go_enter Try.func45, Try.ntmps45
  go_wp2_with (first | ((with_reducible refine gate_dst (N := 2) rfl ?_); refine be__ 2 #[.int .i64 a0_0, .string a0_1, .string a0_2, .int .i64 a0_3, .string a0_4, .slice A0_5 l0_5.length c0_5] 63 ?_; intro gb801 hg w39 hbox hb; have BK801 := am__ (hbox); have GW801 := am__ ((bsz__ hg bel__ : w.heap.size ≤ gb801)); have GE801 := am__ ((bsz__ hg bel__ : w.heap.size ≤ gb801)); replace HB := am__ (below_step (bel__) hb); clear hb hbox hg; obtain ⟨hcz40_0, hcz40_1, hcz40_2, hcz40_3, hcz40_4, hcz40_5, hfz40_0, hfz40_1, hfz40_2, hfz40_3, hfz40_4, hfz40_5⟩ := bk6__ BK801.out) | ((with_reducible refine gate_callee (f := 75) rfl ?_); refine gl__ (some 9) Try.func75 #[.agg #[.int .i64 a0_0, .string a0_1, .string a0_2, .int .i64 a0_3, .string a0_4, .slice A0_5 l0_5.length c0_5], .int .i64 a1] ?_; (with_reducible refine (impl_entryOk.calls k a0_0 a0_1 a0_2 a0_3 a0_4 _ _ l0_5 a1 false _ ?side1 HC0_5.out A3.out).mono ?_); (case side1 => repeat (first | exact (Kd.C_below HR0_5.out HB.out) | (with_reducible refine Kd.C_alloc ?_ _) | (with_reducible refine Kd.C_drewN ?_ _) | (with_reducible refine Kd.C_drew ?_))); rintro e w41 ⟨rfl, hb⟩; refine ⟨_, rfl, ?_⟩; replace BK801 := am__ (blb__ BK801.out hb); replace HB := am__ (below_step (bel__) hb); clear hb))
  go_ret
  exact ⟨by first | rfl | (simp [errW_none, errW_some] <;> rfl) | (simp [*, errW_none, errW_some] <;> rfl), bel__⟩
end Go.Proofs.Ytpnblgbkjbpeoaa.P

namespace Go.Proofs.Ytpnblgbkjbpeoaa.P
open Go.RowKit Go.Proofs.YtpnblgbkjbpeoaaW.PrintWords Go.Proofs.YtpnblgbkjbpeoaaW.PrintLast Go.Proofs.YtpnblgbkjbpeoaaW.PrintMore
attribute [local go_sem] max2_int min2_int max_two min_two max_three min_three max_four min_four   -- for this text's walks alone
set_option linter.unusedVariables false
set_option linter.unusedSimpArgs false
/-! ### spec_ReadThing: function 27 -/
mutual
def spec_ReadThing.j0 : Nat → ByteArray → Int → Bool → Option (ByteArray × List ByteArray × Bool)
 | 0, _, _, _ => none
 | k + 1, x0, x1, x27 => if x27 = true then (some ((⟨#[]⟩ : ByteArray), ([] : List ByteArray), false)) else (if 0 < (x0.size : Int) then (if 0 ≤ (wrap64 (1 + (wrap64 ((wrap64 (bt x0 0)) * x1)))) then (if (wrap64 (1 + (wrap64 ((wrap64 (bt x0 0)) * x1)))) ≤ (x0.size : Int) then (spec_ReadThing.l0 k x0 x1 (wrap64 (bt x0 0)) 0 (x0.extract ((wrap64 (1 + (wrap64 ((wrap64 (bt x0 0)) * x1)))) : Int).toNat x0.size) ([] : List ByteArray)) else (none)) else (none)) else (none))
def spec_ReadThing.l0 : Nat → ByteArray → Int → Int → Int → ByteArray → List ByteArray → Option (ByteArray × List ByteArray × Bool)
 | 0, _, _, _, _, _, _ => none
 | k + 1, x0, x1, x6, x8, x237000, x237001 => if x8 < x6 then (if 0 ≤ (wrap64 (1 + (wrap64 (x8 * x1)))) then (if (wrap64 (1 + (wrap64 (x8 * x1)))) ≤ (wrap64 ((wrap64 (1 + (wrap64 (x8 * x1)))) + x1)) then (if (wrap64 ((wrap64 (1 + (wrap64 (x8 * x1)))) + x1)) ≤ (x0.size : Int) then (if x237001.length < 8796093022208 then (spec_ReadThing.l0 k x0 x1 x6 (wrap64 (x8 + 1)) x237000 (x237001 ++ [x0.extract ((wrap64 (1 + (wrap64 (x8 * x1)))) : Int).toNat ((wrap64 ((wrap64 (1 + (wrap64 (x8 * x1)))) + x1)) : Int).toNat])) else (none)) else (none)) else (none)) else (none)) else ((spec_l1ThingOk.f k x237000 x237001 x1).bind fun t240 => (if t240 = true then (some (x237000, x237001, true)) else (some ((⟨#[]⟩ : ByteArray), ([] : List ByteArray), false))))
end
def spec_ReadThing.f (k : Nat) (a0 : ByteArray) (a1 : Int) : Option (ByteArray × List ByteArray × Bool) := (spec_l1Width.f a1).bind fun t235 => (if t235 = true then (if (a0.size : Int) = 0 then (spec_ReadThing.j0 k a0 a1 true) else (if 0 < (a0.size : Int) then (spec_ReadThing.j0 k a0 a1 (decide ((a0.size : Int) < (wrap64 (1 + (wrap64 ((wrap64 (bt a0 0)) * a1))))))) else (none))) else (spec_ReadThing.j0 k a0 a1 true))
def spec_ReadThing.T8 : Bool × List (List Nat × List Nat) := (true, [([], []), ([0], [0]), ([], []), ([], []), ([], []), ([3, 4], [3, 4]), ([5], [5]), ([], []), ([], []), ([7, 8], [7, 8]), ([9], [9]), ([], []), ([10, 11], [10, 11]), ([2, 6, 12], [2, 6, 12]), ([13], [13]), ([1, 14], [1, 14]), ([0, 1, 2, 3, 4, 5, 6, 7, 8, 9, 10, 11, 12, 13, 14, 15], []), ([16, 15, 15, 0, 1, 2, 3, 4, 5, 6, 7, 8, 9, 10, 11, 12, 13, 14, 15], [15, 16])])
def spec_ReadThing.B8 : List Nat := [0, 1, 0, 0, 0, 24, 56, 0, 0, 384, 896, 0, 3968, 8188, 16380, 32767, 65535, 131071]
theorem spec_ReadThing.tab8 : rtab .any (opsOf Try.f27 8) = spec_ReadThing.T8 := by kernel_rfl
theorem spec_ReadThing.bits8 : waitsOk spec_ReadThing.T8.2 spec_ReadThing.B8 = true := by kernel_rfl
set_option maxHeartbeats 8000000 in
set_option maxRecDepth 100000 in
theorem spec_ReadThing.calls (k : Nat) (a0 : ByteArray) (a1 : Int) (r1 : ByteArray) (r2 : List ByteArray) (r3 : Bool) (w : World) (h : spec_ReadThing.f k a0 a1 = some (r1, r2, r3)) :
  Calls Try.prog 27 #[.string a0, .int .i64 a1] w fun e w' => ∃ v1_ : Value, e = .returned (.tuple #[.agg #[.string r1, v1_], .bool r3]) ∧ Kd.R Kd.string 9 w' w.heap.size (fun _ => True) v1_ r2 ∧ Below w.heap.size w w' := by
 have hu38 := Try.underlying38
 have HB := am__ (Below.refl w.heap.size w)
 have H : ((spec_l1Width.f a1).bind fun t235 => (if t235 = true then (if (a0.size : Int) = 0 then (spec_ReadThing.j0 k a0 a1 true) else (if 0 < (a0.size : Int) then (spec_ReadThing.j0 k a0 a1 (decide ((a0.size : Int) < (wrap64 (1 + (wrap64 ((wrap64 (bt a0 0)) * a1))))))) else (none))) else (spec_ReadThing.j0 k a0 a1 true))) = some (r1, r2, r3) := h
 clear h
 have HC3 := Aside0.mk H
 clear H
 go_enter Try.func27, Try.ntmps27
 go_upto_region 1 with (first | ((with_reducible refine gate_dst (N := 4) rfl ?_); (try (refine gate_guard (by rfl) ?_; dsimp only)); refine be__ 4 #[.string (⟨#[]⟩ : ByteArray), .slice none 0 0] 38 ?_; intro gb234 hg w4 hbox hb; have BK234 := am__ (hbox); have GW234 := am__ ((bsz__ hg bel__ : w.heap.size ≤ gb234)); have GE234 := am__ ((bsz__ hg bel__ : w.heap.size ≤ gb234)); replace HB := am__ (below_step (bel__) hb); clear hb hbox hg))
 (try simp only [Act.put, List.setIfInBounds_toArray, List.set_cons_zero, List.set_cons_succ])
 go_cut [27] (fun v27 wc => ∃ (kq : Nat) (x27_2 : Bool), v27 = .bool x27_2 ∧ Aside0 (spec_ReadThing.j0 kq a0 a1 x27_2 = some (r1, r2, r3)) ∧ Aside0 (kq ≤ k) ∧ Aside0 (wc.heap[gb234]? = some (.cells #[.string (⟨#[]⟩ : ByteArray), (.slice none 0 0)] 38 (0, 0))) ∧ Aside0 (Below w.heap.size w wc))
 case first =>
  have H := HC3.out
  clear HC3
  replace H := Option.bind_eq_some_iff.mp H
  obtain ⟨t235, A50, H⟩ := H
  replace H : (if t235 = true then (if (a0.size : Int) = 0 then (spec_ReadThing.j0 k a0 a1 true) else (if 0 < (a0.size : Int) then (spec_ReadThing.j0 k a0 a1 (decide ((a0.size : Int) < (wrap64 (1 + (wrap64 ((wrap64 (bt a0 0)) * a1))))))) else (none))) else (spec_ReadThing.j0 k a0 a1 true)) = some (r1, r2, r3) := H
  have A5 := Aside0.mk A50
  clear A50
  by_cases c6 : t235 = true
  ·subst c6
   have H1 : (if (a0.size : Int) = 0 then (spec_ReadThing.j0 k a0 a1 true) else (if 0 < (a0.size : Int) then (spec_ReadThing.j0 k a0 a1 (decide ((a0.size : Int) < (wrap64 (1 + (wrap64 ((wrap64 (bt a0 0)) * a1))))))) else (none))) = some (r1, r2, r3) := by rw [if_pos rfl] at H; exact H
   clear H
   have H := H1
   clear H1
   by_cases c7 : (a0.size : Int) = 0
   ·rw [if_pos c7] at H
    have c7b0 : ((a0.size : Int) == 0) = true := beq_iff_eq.mpr c7
    have c7b1 : ((a0.size : Int) != 0) = false := bne_eq_false_iff_eq.mpr c7
    clear c7
    (first | rw [c7b0] | (simp only [i64_w, i32_w]; rw [c7b0]) | skip)
    have H' := Aside0.mk H
    clear H
    go_wp2_with (first | ((with_reducible refine gate_callee (f := 56) rfl ?_); refine gl__ (some 10) Try.func56 #[.int .i64 a1] ?_; (with_reducible refine (spec_l1Width.calls a1 true _ A5.out).mono ?_); rintro e w' ⟨rfl, ⟨nd, rfl⟩⟩; refine ⟨_, rfl, ?_⟩))
    go_meet
    case rel => exact ⟨_, (true), (rf__), H', ⟨by first | omega | exact Nat.le_refl _⟩, ⟨blk__ BK234.out⟩, ⟨bel__⟩⟩
   ·rw [if_neg c7] at H
    have c7b0 : ((a0.size : Int) == 0) = false := beq_eq_false_iff_ne.mpr c7
    have c7b1 : ((a0.size : Int) != 0) = true := bne_iff_ne.mpr c7
    (first | rw [c7b0] | (simp only [i64_w, i32_w]; rw [c7b0]) | skip)
    by_cases c8 : 0 < (a0.size : Int)
    ·rw [if_pos c8] at H
     have c8b0 : decide (0 < (a0.size : Int)) = true := decide_eq_true c8
     have c8b1 : decide (0 < a0.size) = true := decide_eq_true (by omega)
     clear c8
     have H' := Aside0.mk H
     clear H
     go_wp2_with (first | ((with_reducible refine gate_callee (f := 56) rfl ?_); refine gl__ (some 10) Try.func56 #[.int .i64 a1] ?_; (with_reducible refine (spec_l1Width.calls a1 true _ A5.out).mono ?_); rintro e w' ⟨rfl, ⟨nd, rfl⟩⟩; refine ⟨_, rfl, ?_⟩; have p9 : 0 ≤ (0 : Int) := (by omega); have q9 : 0 < a0.size := (by have : (0 : Int) < (a0.size : Int) := of_decide_eq_true (by first | (with_reducible assumption) | assumption); omega); have hx9 : ∀ h : 0 < a0.size, ((a0[0]'h).toNat : Int) = bt a0 0 := bt_at a0 0; clear p9; have qi9 : (0 < (a0.size : Int)) = True := eq_true (of_decide_eq_true (by first | (with_reducible assumption) | assumption)); replace q9 := eq_true q9))
     go_meet
     case rel => exact ⟨_, (decide ((a0.size : Int) < (wrap64 (1 + (wrap64 ((wrap64 (bt a0 0)) * a1)))))), (rf__), H', ⟨by first | omega | exact Nat.le_refl _⟩, ⟨blk__ BK234.out⟩, ⟨bel__⟩⟩
    ·rw [if_neg c8] at H
     exact absurd H (by simp)
  ·replace c6 := Bool.eq_false_iff.mpr c6
   subst c6
   have H1 : (spec_ReadThing.j0 k a0 a1 true) = some (r1, r2, r3) := by rw [if_neg (show ¬ (false = true) by decide)] at H; exact H
   clear H
   have H := H1
   clear H1
   have H' := Aside0.mk H
   clear H
   go_wp2_with (first | ((with_reducible refine gate_callee (f := 56) rfl ?_); refine gl__ (some 10) Try.func56 #[.int .i64 a1] ?_; (with_reducible refine (spec_l1Width.calls a1 false _ A5.out).mono ?_); rintro e w' ⟨rfl, ⟨nd, rfl⟩⟩; refine ⟨_, rfl, ?_⟩))
   go_meet
   case rel => exact ⟨_, (true), (rf__), H', ⟨by first | omega | exact Nat.le_refl _⟩, ⟨blk__ BK234.out⟩, ⟨bel__⟩⟩
 case rest =>
  clear HC3
  try clear c2
  try clear p2
  try clear c5
  try clear c6
  try clear p6
  try clear c7
  try clear c7b0
  try clear c7b1
  try clear c8
  try clear c8b0
  try clear c8b1
  try clear p9
  try clear q9
  try clear hx9
  try clear qi9
  try clear p9
  try clear q9
  obtain ⟨kq, x27_2, rfl, HA, HJ2, BK234, HB⟩ := hcut
  cases kq with
  | zero => exact absurd HA.out (by simp [spec_ReadThing.j0])
  | succ kj2 =>
   have H := HA.out
   clear HA
   simp only [spec_ReadThing.j0] at H
   by_cases c10 : x27_2 = true
   ·subst c10
    have H1 : (some ((⟨#[]⟩ : ByteArray), ([] : List ByteArray), false)) = some (r1, r2, r3) := by rw [if_pos rfl] at H; exact H
    clear H
    have H := H1
    clear H1
    simp only [Option.some.injEq, Prod.mk.injEq] at H
    obtain ⟨rfl, rfl, rfl⟩ := H
    have hcz11_0 : wc.cell? ⟨gb234, 0, none⟩ = some (.string (⟨#[]⟩ : ByteArray)) := (blk_cell BK234.out 0).trans rfl
    have hcz11_1 : wc.cell? ⟨gb234, 1, none⟩ = some (.slice none 0 0) := (blk_cell BK234.out 1).trans rfl
    have hfz11_0 := blk_frozen BK234.out 0
    have hfz11_1 := blk_frozen BK234.out 1
    go_wp2
    refine bodyPost_ret (results_ct rfl _ _ gb234 38 #[.string (⟨#[]⟩ : ByteArray), .slice none 0 0] (0, 0) _ rfl (bpu__ BK234.out) Try.underlying38 rfl (by kernel_rfl)) rfl ?_
    exact ⟨_, by first | rfl | (simp [errW_none, errW_some] <;> rfl) | (simp [*, errW_none, errW_some] <;> rfl), by first | exact Kd.R_nil _ _ _ _ _ | exact Kd.N_nil _ _ _ _ _ | exact Kd.V_nil _ _ _ _ _ | exact Kd.Q_nil _ _ _ _ _ | exact Kd.S_nil _ _ _ _ _, bel__⟩
   ·replace c10 := Bool.eq_false_iff.mpr c10
    subst c10
    have H1 : (if 0 < (a0.size : Int) then (if 0 ≤ (wrap64 (1 + (wrap64 ((wrap64 (bt a0 0)) * a1)))) then (if (wrap64 (1 + (wrap64 ((wrap64 (bt a0 0)) * a1)))) ≤ (a0.size : Int) then (spec_ReadThing.l0 kj2 a0 a1 (wrap64 (bt a0 0)) 0 (a0.extract ((wrap64 (1 + (wrap64 ((wrap64 (bt a0 0)) * a1)))) : Int).toNat a0.size) ([] : List ByteArray)) else (none)) else (none)) else (none)) = some (r1, r2, r3) := by rw [if_neg (show ¬ (false = true) by decide)] at H; exact H
    clear H
    have H := H1
    clear H1
    by_cases c12 : 0 < (a0.size : Int)
    ·rw [if_pos c12] at H
     have c12b0 : decide (0 < (a0.size : Int)) = true := decide_eq_true c12
     have c12b1 : decide (0 < a0.size) = true := decide_eq_true (by omega)
     clear c12
     obtain ⟨ji14, hji14⟩ : ∃ j_ : Int, (wrap64 (1 + (wrap64 ((wrap64 (bt a0 0)) * a1)))) = j_ := ⟨_, rfl⟩
     replace H : (if 0 ≤ (ji14) then (if (ji14) ≤ (a0.size : Int) then (spec_ReadThing.l0 kj2 a0 a1 (wrap64 (bt a0 0)) 0 (a0.extract ((ji14) : Int).toNat a0.size) ([] : List ByteArray)) else (none)) else (none)) = some (r1, r2, r3) := by first | (rw [hji14] at H; exact H) | (simp only [hji14] at H ⊢; exact H)
     have hji14w : (IntKind.i64.wrap (1 + (wrap64 ((wrap64 (bt a0 0)) * a1)))) = ji14 := (i64_w _).trans hji14
     by_cases c15 : 0 ≤ (ji14)
     ·rw [if_pos c15] at H
      have c15b0 := eq_true c15
      have c15b1 : decide (0 ≤ (ji14)) = true := decide_eq_true c15
      clear c15
      by_cases c16 : (ji14) ≤ (a0.size : Int)
      ·rw [if_pos c16] at H
       have c16b0 := eq_true c16
       have c16b1 : decide ((ji14) ≤ (a0.size : Int)) = true := decide_eq_true c16
       clear c16
       have H' := Aside0.mk H
       clear H
       have p13 : 0 ≤ (0 : Int) := (by omega)
       have q13 : 0 < a0.size := (by have : (0 : Int) < (a0.size : Int) := of_decide_eq_true (by first | (with_reducible assumption) | assumption); omega)
       have hx13 : ∀ h : 0 < a0.size, ((a0[0]'h).toNat : Int) = bt a0 0 := bt_at a0 0
       clear p13
       have qi13 : (0 < (a0.size : Int)) = True := eq_true (of_decide_eq_true (by first | (with_reducible assumption) | assumption))
       replace q13 := eq_true q13
       go_wp2_with (first | ((with_reducible refine gate_dst (N := 7) rfl ?_); (try (refine gate_guard (by rfl) ?_; dsimp only)); refine be__ 7 #[.string (⟨#[]⟩ : ByteArray), .slice none 0 0] 38 ?_; intro gb236 hg w17 hbox hb; have BK236 := am__ (hbox); have GW236 := am__ ((bsz__ hg bel__ : w.heap.size ≤ gb236)); have GE236 := am__ ((bsz__ hg bel__ : w.heap.size ≤ gb236)); replace HB := am__ (below_step (bel__) hb); have NB234_236 := am__ ((nlt__ hg (blk_lt (g := gb234) (o := .cells #[.string (⟨#[]⟩ : ByteArray), .slice none 0 0] 38 (0, 0)) (blk__ BK234.out)) : gb234 ≠ gb236)); have NB236_234 := am__ ((ngt__ hg (blk_lt (g := gb234) (o := .cells #[.string (⟨#[]⟩ : ByteArray), .slice none 0 0] 38 (0, 0)) (blk__ BK234.out)) : gb236 ≠ gb234)); replace BK234 := am__ (blb__ BK234.out hb); clear hb hbox hg; have hnb18 := NB236_234.out; have hnc18 := NB234_236.out; obtain ⟨hcz19_0, hcz19_1, hfz19_0, hfz19_1⟩ := bk2__ BK236.out))
       go_loopg [8] kj2 (fun kq v8 w' => ∃ (x8_2 : Int) (x237001_2 : List ByteArray) (u237001 : Value), v8 = .int .i64 x8_2 ∧ Aside0 (spec_ReadThing.l0 kq a0 a1 (wrap64 (bt a0 0)) x8_2 (a0.extract ((ji14) : Int).toNat a0.size) x237001_2 = some (r1, r2, r3)) ∧ Aside0 (kq ≤ kj2) ∧ Aside0 (Kd.R Kd.string 9 w' w.heap.size (fun _ => True) u237001 x237001_2) ∧ Aside0 (w'.heap[gb234]? = some (.cells #[.string (⟨#[]⟩ : ByteArray), (.slice none 0 0)] 38 (0, 0))) ∧ Aside0 (w'.heap[gb236]? = some (.cells #[.string (a0.extract ((ji14) : Int).toNat a0.size), u237001] 38 (0, 0))) ∧ Aside0 (Below w.heap.size w w'))
       case atStart => exact ⟨(0), (([] : List ByteArray)), (.slice none 0 0), (rf__), H', ⟨Nat.le_refl _⟩, ⟨by first | exact Kd.R_nil _ _ _ _ _ | exact Kd.N_nil _ _ _ _ _ | exact Kd.V_nil _ _ _ _ _ | exact Kd.Q_nil _ _ _ _ _ | exact Kd.S_nil _ _ _ _ _⟩, ⟨blf2__ BK234.out⟩, ⟨bpu__ BK236.out⟩, ⟨bel__⟩⟩
       case round =>
        clear H'
        try clear c1
        try clear p1
        try clear q1
        try clear hx1
        try clear qi1
        try clear c2
        try clear p2
        try clear c5
        try clear c6
        try clear p6
        try clear c7
        try clear c7b0
        try clear c7b1
        try clear c8
        try clear c8b0
        try clear c8b1
        try clear p9
        try clear q9
        try clear hx9
        try clear qi9
        try clear c10
        try clear c12
        try clear c12b0
        try clear c12b1
        try clear p13
        try clear q13
        try clear hx13
        try clear qi13
        try clear c15
        try clear c15b0
        try clear c15b1
        try clear c16
        try clear c16b0
        try clear c16b1
        try clear c18
        try clear hcz11_0 hcz11_1 hfz11_0 hfz11_1
        try clear hcz19_0 hcz19_1 hfz19_0 hfz19_1
        try clear p13
        try clear p2
        try clear p6
        try clear p9
        try clear q13
        try clear q9
        obtain ⟨x8_2, x237001_2, u237001, rfl, HA, HK2, HO_237001, BK234, BK236, HB⟩ := hrel
        cases gk with
        | zero => exact absurd HA.out (by simp [spec_ReadThing.l0])
        | succ k2 =>
         have H := HA.out
         clear HA
         simp only [spec_ReadThing.l0] at H
         by_cases c20 : x8_2 < (wrap64 (bt a0 0))
         ·rw [if_pos c20] at H
          have c20b0 : decide (x8_2 < (wrap64 (bt a0 0))) = true := decide_eq_true c20
          clear c20
          obtain ⟨ji21, hji21⟩ : ∃ j_ : Int, (wrap64 (1 + (wrap64 (x8_2 * a1)))) = j_ := ⟨_, rfl⟩
          replace H : (if 0 ≤ (ji21) then (if (ji21) ≤ (wrap64 ((ji21) + a1)) then (if (wrap64 ((ji21) + a1)) ≤ (a0.size : Int) then (if x237001_2.length < 8796093022208 then (spec_ReadThing.l0 k2 a0 a1 (wrap64 (bt a0 0)) (wrap64 (x8_2 + 1)) (a0.extract ((ji14) : Int).toNat a0.size) (x237001_2 ++ [a0.extract ((ji21) : Int).toNat ((wrap64 ((ji21) + a1)) : Int).toNat])) else (none)) else (none)) else (none)) else (none)) = some (r1, r2, r3) := by first | (rw [hji21] at H; exact H) | (simp only [hji21] at H ⊢; exact H)
          have hji21w : (IntKind.i64.wrap (1 + (wrap64 (x8_2 * a1)))) = ji21 := (i64_w _).trans hji21
          by_cases c22 : 0 ≤ (ji21)
          ·rw [if_pos c22] at H
           have c22b0 := eq_true c22
           have c22b1 : decide (0 ≤ (ji21)) = true := decide_eq_true c22
           clear c22
           by_cases c23 : (ji21) ≤ (wrap64 ((ji21) + a1))
           ·rw [if_pos c23] at H
            have c23b0 := eq_true c23
            have c23b1 : decide ((ji21) ≤ (wrap64 ((ji21) + a1))) = true := decide_eq_true c23
            by_cases c24 : (wrap64 ((ji21) + a1)) ≤ (a0.size : Int)
            ·rw [if_pos c24] at H
             have c24b0 := eq_true c24
             have c24b1 : decide ((wrap64 ((ji21) + a1)) ≤ (a0.size : Int)) = true := decide_eq_true c24
             by_cases c25 : x237001_2.length < 8796093022208
             ·rw [if_pos c25] at H
              have LMc25 := Aside0.mk c25
              clear c25
              obtain ⟨y237, hy237⟩ : ∃ y_ : List ByteArray, y_ = (x237001_2 ++ [a0.extract ((ji21) : Int).toNat ((wrap64 ((ji21) + a1)) : Int).toNat]) := ⟨_, rfl⟩
              replace H : (spec_ReadThing.l0 k2 a0 a1 (wrap64 (bt a0 0)) (wrap64 (x8_2 + 1)) (a0.extract ((ji14) : Int).toNat a0.size) y237) = some (r1, r2, r3) := by first | (rw [hy237]; with_reducible exact H) | (have H2_ := (Option.bind_some _ _).symm.trans H; rw [hy237]; with_reducible exact H2_) | (have H2_ := (Option.bind_some _ _).symm.trans H; with_reducible exact H2_) | with_reducible exact H | (rw [hy237]; exact H) | exact H
              have Ny237 := Aside0.mk hy237
              clear hy237
              have H' := Aside0.mk H
              clear H
              try go_wp2
              have n0_ := am__ (Kd.R_drew HO_237001.out)
              have n1_ := am__ (blk_drew BK234.out)
              have n2_ := am__ (blk_drew BK236.out)
              have n3_ := am__ (below_drew1 HB.out)
              clear HO_237001
              clear BK234
              clear BK236
              clear HB
              have HO_237001 := n0_
              have BK234 := n1_
              have BK236 := n2_
              have HB := n3_
              clear n0_ n1_ n2_ n3_
              refine start_ (n := 18) (S := fun w' => w'.cell? ⟨gb236, 0, none⟩ = some (.string (a0.extract ((ji14) : Int).toNat a0.size)) ∧ w'.cell? ⟨gb236, 1, none⟩ = some (u237001)) (ds := [17]) #[false, false, false, false, false, false, false, false, false, false, false, false, false, false, false, false, false, false] (by kernel_rfl) rfl rfl ⟨(blk_cell BK236.out 0).trans rfl, (blk_cell BK236.out 1).trans rfl⟩ (fun hHeld => ?_); refine with_tabW spec_ReadThing.tab8 spec_ReadThing.bits8 (fun HT_ HW_ => ?_)
              generalize wr.drew = w26 at HO_237001 BK234 BK236 HB hHeld ⊢
              refine pu__ (i := 0) (N := some 44) #[true, false, false, false, false, false, false, false, false, false, false, false, false, false, false, false, false, false] HT_.out ?_
              refine pu__ (i := 2) (N := some 46) #[true, false, true, false, false, false, false, false, false, false, false, false, false, false, false, false, false, false] HT_.out ?_
              refine pu__ (i := 3) (N := some 47) #[true, false, true, true, false, false, false, false, false, false, false, false, false, false, false, false, false, false] HT_.out ?_
              refine pu__ (i := 4) (N := some 48) #[true, false, true, true, true, false, false, false, false, false, false, false, false, false, false, false, false, false] HT_.out ?_
              refine pu__ (i := 5) (N := some 49) #[true, false, true, true, true, true, false, false, false, false, false, false, false, false, false, false, false, false] HT_.out ?_
              refine pu__ (i := 6) (N := some 50) #[true, false, true, true, true, true, true, false, false, false, false, false, false, false, false, false, false, false] HT_.out ?_
              refine pu__ (i := 7) (N := some 51) #[true, false, true, true, true, true, true, true, false, false, false, false, false, false, false, false, false, false] HT_.out ?_
              refine pu__ (i := 8) (N := some 52) #[true, false, true, true, true, true, true, true, true, false, false, false, false, false, false, false, false, false] HT_.out ?_
              refine pu__ (i := 9) (N := some 53) #[true, false, true, true, true, true, true, true, true, true, false, false, false, false, false, false, false, false] HT_.out ?_
              refine pu__ (i := 10) (N := some 54) #[true, false, true, true, true, true, true, true, true, true, true, false, false, false, false, false, false, false] HT_.out ?_
              refine pu__ (i := 11) (N := some 55) #[true, false, true, true, true, true, true, true, true, true, true, true, false, false, false, false, false, false] HT_.out ?_
              refine pu__ (i := 12) (N := some 56) #[true, false, true, true, true, true, true, true, true, true, true, true, true, false, false, false, false, false] HT_.out ?_
              refine pu__ (i := 13) (N := some 57) #[true, false, true, true, true, true, true, true, true, true, true, true, true, true, false, false, false, false] HT_.out ?_
              refine take_ (i := 1) (N := some 45) (v := ?_) (a' := ?_) #[true, true, true, true, true, true, true, true, true, true, true, true, true, true, false, false, false, false] rfl rfl (take_ofW HT_.out HW_.out (by kernel_rfl)) (fun _ _ _ h => h) (Or.inl ⟨by rfl, ?_⟩) hHeld ?_ ?_
              rotate_left
              ·rintro w' ⟨s0, s1⟩
               go_simp
               with_reducible rfl
              rotate_left
              ·simp only [Act.put, List.setIfInBounds_toArray, List.set_cons_zero, List.set_cons_succ, i64_w, i32_w]
               rfl
              refine one_ (i := 14) (N := some 58) #[true, true, true, true, true, true, true, true, true, true, true, true, true, true, true, false, false, false] rfl rfl (one_of HT_.out (by kernel_rfl)) (by decide) (fun K hK => ?_)
              refine value_ (w1 := ?_) (v := ?_) (by rfl) rfl ?_ ?_
              rotate_left 2
              ·go_simp
               constructor
               ·rfl
               ·rfl
              refine hK.out _ _ ⟨(blk_cell (blk_alloc BK236.out _) 0).trans rfl, (blk_cell (blk_alloc BK236.out _) 1).trans rfl⟩ (fun hHeld => ?_)
              clear hK K
              refine na__ 58 ?_
              refine one_ (i := 15) (N := some 59) #[true, true, true, true, true, true, true, true, true, true, true, true, true, true, true, true, false, false] rfl rfl (one_of HT_.out (by kernel_rfl)) (by decide) (fun K hK => ?_)
              refine Kd.R_append_step Kd.string (w0 := w) w.heap.size (by rfl) (.tmp 45) (.tmp 58) 25 9 (.string ⟨#[]⟩) 16 rfl Try.underlying25 info9 rfl (by decide) (by omega) u237001 x237001_2 (a0.extract ((ji21) : Int).toNat ((wrap64 ((ji21) + a1)) : Int).toNat) [.string (a0.extract ((ji21) : Int).toNat ((wrap64 ((ji21) + a1)) : Int).toNat)] (fun _ => True) (fun _ => False) rfl rfl ?aP (fun _ hk => hk.elim) ?aF ?aO ?aB ?aS ?aL ?_
              (case aP => exact rfl)
              (case aB => exact (bel__))
              (case aF => exact (fun _ _ => trivial))
              (case aO => exact (rr__ HO_237001.out))
              (case aS => exact (below_size (bel__)))
              (case aL => have := LMc25.out; omega)
              intro v238 w27 ho hb hg hat
              rw [← Ny237.out] at ho
              have n0_ := am__ (bgr__ BK234.out hg (Kd.R_ne HO_237001.out BK234.out (by decide)))
              have n1_ := am__ (bgr__ BK236.out hg (Kd.R_ne HO_237001.out BK236.out (by decide)))
              have n2_ := am__ (hb)
              have n3_ := am__ (ho)
              clear BK234
              clear BK236
              clear HB
              clear HO_237001
              have BK234 := n0_
              have BK236 := n1_
              have HB := n2_
              have HO239 := n3_
              clear n0_ n1_ n2_ n3_
              clear ho hb hg hat
              obtain ⟨Ao28, co28, eo28⟩ := Kd.R_slice HO239.out
              (first | subst eo28 | (injection eo28 with f1_ f2_ f3_; have f4_ := f1_.symm; have f5_ := f3_.symm; clear f1_ f2_ f3_; subst f4_; subst f5_))
              refine hK.out _ _ ⟨(blk_cell BK236.out 0).trans rfl, (blk_cell BK236.out 1).trans rfl⟩ (fun hHeld => ?_)
              clear hK K
              refine na__ 59 ?_
              refine pu__ (i := 16) (N := some 60) #[true, true, true, true, true, true, true, true, true, true, true, true, true, true, true, true, true, false] HT_.out ?_
              refine last_ (i := 17) (N := none) #[true, true, true, true, true, true, true, true, true, true, true, true, true, true, true, true, true, true] rfl rfl (one_of HT_.out (by kernel_rfl)) (by decide) (fun K hK => ?_)
              have hs29 : w27.cell? ⟨gb236, 1, none⟩ = some (u237001) := (blk_cell BK236.out 1).trans rfl
              have hfs29 := blk_frozen BK236.out 1
              have hns29_0 := NB234_236.out
              have hms29_0 := NB236_234.out
              refine skip_ (w1 := ?_) (by rfl) rfl ?_ ?_
              rotate_left
              ·go_simp
               rfl
              refine hK.out _ _ ?_
              clear hK K
              refine done_ (done_of HT_.out (by kernel_rfl)) ?_
              try go_wp2
              go_roundg k2
              case measure => have := HJ2.out; have := HK2.out; omega
              case rel => exact ⟨(wrap64 (x8_2 + 1)), (y237), (.slice Ao28 y237.length co28), (rf__), H', ⟨by have := HJ2.out; have := HK2.out; omega⟩, ⟨by refine rps__ ?_; exact Kd.R_mono (Kd.R_far (p := ⟨gb236, 1, none⟩) (Kd.R_types HO239.out BK236.out (by decide)) h2__ (.slice Ao28 y237.length co28)) (fun _ hk => trivial)⟩, ⟨blf1__ BK234.out⟩, ⟨bpu__ BK236.out⟩, ⟨bel__⟩⟩
             ·rw [if_neg c25] at H
              exact absurd H (by simp)
            ·rw [if_neg c24] at H
             exact absurd H (by simp)
           ·rw [if_neg c23] at H
            exact absurd H (by simp)
          ·rw [if_neg c22] at H
           exact absurd H (by simp)
         ·rw [if_neg c20] at H
          have c20b0 : decide (x8_2 < (wrap64 (bt a0 0))) = false := decide_eq_false c20
          clear c20
          replace H := Option.bind_eq_some_iff.mp H
          obtain ⟨t240, A300, H⟩ := H
          replace H : (if t240 = true then (some ((a0.extract ((ji14) : Int).toNat a0.size), x237001_2, true)) else (some ((⟨#[]⟩ : ByteArray), ([] : List ByteArray), false))) = some (r1, r2, r3) := H
          have A30 := Aside0.mk A300
          clear A300
          by_cases c31 : t240 = true
          ·subst c31
           have H1 : (some ((a0.extract ((ji14) : Int).toNat a0.size), x237001_2, true)) = some (r1, r2, r3) := by rw [if_pos rfl] at H; exact H
           clear H
           have H := H1
           clear H1
           simp only [Option.some.injEq, Prod.mk.injEq] at H
           obtain ⟨rfl, rfl, rfl⟩ := H
           have hnb32 := NB236_234.out
           have hnc32 := NB234_236.out
           have hcz33_0 : wr.cell? ⟨gb236, 0, none⟩ = some (.string (a0.extract ((ji14) : Int).toNat a0.size)) := (blk_cell BK236.out 0).trans rfl
           have hcz33_1 : wr.cell? ⟨gb236, 1, none⟩ = some (u237001) := (blk_cell BK236.out 1).trans rfl
           have hfz33_0 := blk_frozen BK236.out 0
           have hfz33_1 := blk_frozen BK236.out 1
           obtain ⟨Ao34, co34, eo34⟩ := Kd.R_slice HO_237001.out
           subst eo34
           go_wp2_with (first | ((with_reducible refine gate_callee (f := 62) rfl ?_); refine goesL_ (some 63) rfl rfl Try.func62 (by kernel_rfl) rfl #[.agg #[.string (a0.extract ((ji14) : Int).toNat a0.size), .slice Ao34 x237001_2.length co34], .int .i64 a1] rfl (by (try simp only [List.map_toArray, List.map_cons, List.map_nil]); first | done | (simp only [hji14]; rfl) | rfl | (simp only [List.length_drop, List.length_take]; rfl)) ?_; (with_reducible refine (spec_l1ThingOk.calls k2 (a0.extract ((ji14) : Int).toNat a0.size) _ _ x237001_2 a1 true _ ?side1 ?side2 A30.out).mono ?_); (case side1 => repeat (first | exact (Kd.R_reads' HO_237001.out).2.2 | (with_reducible refine Kd.C_alloc ?_ _) | (with_reducible refine Kd.C_drewN ?_ _) | (with_reducible refine Kd.C_drew ?_))); (case side2 => exact (Kd.R_reads' HO_237001.out).2.1); rintro e w35 ⟨rfl, hb⟩; refine ⟨_, rfl, ?_⟩; replace HO_237001 := am__ (Kd.R_below (rr__ HO_237001.out) hb); replace BK234 := am__ (blb__ BK234.out hb); replace BK236 := am__ (blb__ BK236.out hb); replace HB := am__ (below_step (bel__) hb); clear hb; obtain ⟨hcz36_0, hcz36_1, hfz36_0, hfz36_1⟩ := bk2__ BK236.out; obtain ⟨hcz37_0, hcz37_1, hfz37_0, hfz37_1⟩ := bk2__ BK234.out))
           refine bodyPost_ret (results_ct rfl _ _ gb234 38 #[.string (a0.extract ((ji14) : Int).toNat a0.size), .slice Ao34 x237001_2.length co34] (0, 0) _ rfl (bpu__ BK234.out) Try.underlying38 rfl (by kernel_rfl)) rfl ?_
           exact ⟨_, by first | rfl | (simp [errW_none, errW_some] <;> rfl) | (simp only [← hji14]; first | rfl | (simp [errW_none, errW_some] <;> rfl)) | (simp [*, errW_none, errW_some] <;> rfl), by refine rps__ ?_; exact Kd.R_mono (Kd.R_far (p := ⟨gb234, 1, none⟩) (Kd.R_far (p := ⟨gb234, 0, none⟩) (Kd.R_types HO_237001.out BK234.out (by decide)) h2__ (.string (a0.extract ((ji14) : Int).toNat a0.size))) h2__ (.slice Ao34 x237001_2.length co34)) (fun _ hk => trivial), bel__⟩
          ·replace c31 := Bool.eq_false_iff.mpr c31
           subst c31
           have H1 : (some ((⟨#[]⟩ : ByteArray), ([] : List ByteArray), false)) = some (r1, r2, r3) := by rw [if_neg (show ¬ (false = true) by decide)] at H; exact H
           clear H
           have H := H1
           clear H1
           simp only [Option.some.injEq, Prod.mk.injEq] at H
           obtain ⟨rfl, rfl, rfl⟩ := H
           have hnb38 := NB236_234.out
           have hnc38 := NB234_236.out
           have hcz39_0 : wr.cell? ⟨gb236, 0, none⟩ = some (.string (a0.extract ((ji14) : Int).toNat a0.size)) := (blk_cell BK236.out 0).trans rfl
           have hcz39_1 : wr.cell? ⟨gb236, 1, none⟩ = some (u237001) := (blk_cell BK236.out 1).trans rfl
           have hfz39_0 := blk_frozen BK236.out 0
           have hfz39_1 := blk_frozen BK236.out 1
           obtain ⟨Ao40, co40, eo40⟩ := Kd.R_slice HO_237001.out
           subst eo40
           go_wp2_with (first | ((with_reducible refine gate_callee (f := 62) rfl ?_); refine goesL_ (some 63) rfl rfl Try.func62 (by kernel_rfl) rfl #[.agg #[.string (a0.extract ((ji14) : Int).toNat a0.size), .slice Ao40 x237001_2.length co40], .int .i64 a1] rfl (by (try simp only [List.map_toArray, List.map_cons, List.map_nil]); first | done | (simp only [hji14]; rfl) | rfl | (simp only [List.length_drop, List.length_take]; rfl)) ?_; (with_reducible refine (spec_l1ThingOk.calls k2 (a0.extract ((ji14) : Int).toNat a0.size) _ _ x237001_2 a1 false _ ?side1 ?side2 A30.out).mono ?_); (case side1 => repeat (first | exact (Kd.R_reads' HO_237001.out).2.2 | (with_reducible refine Kd.C_alloc ?_ _) | (with_reducible refine Kd.C_drewN ?_ _) | (with_reducible refine Kd.C_drew ?_))); (case side2 => exact (Kd.R_reads' HO_237001.out).2.1); rintro e w41 ⟨rfl, hb⟩; refine ⟨_, rfl, ?_⟩; replace HO_237001 := am__ (Kd.R_below (rr__ HO_237001.out) hb); replace BK234 := am__ (blb__ BK234.out hb); replace BK236 := am__ (blb__ BK236.out hb); replace HB := am__ (below_step (bel__) hb); clear hb; obtain ⟨hcz42_0, hcz42_1, hfz42_0, hfz42_1⟩ := bk2__ BK234.out))
           refine bodyPost_ret (results_ct rfl _ _ gb234 38 #[.string (⟨#[]⟩ : ByteArray), .slice none 0 0] (0, 0) _ rfl (bpu__ BK234.out) Try.underlying38 rfl (by kernel_rfl)) rfl ?_
           exact ⟨_, by first | rfl | (simp [errW_none, errW_some] <;> rfl) | (simp only [← hji14]; first | rfl | (simp [errW_none, errW_some] <;> rfl)) | (simp [*, errW_none, errW_some] <;> rfl), by first | exact Kd.R_nil _ _ _ _ _ | exact Kd.N_nil _ _ _ _ _ | exact Kd.V_nil _ _ _ _ _ | exact Kd.Q_nil _ _ _ _ _ | exact Kd.S_nil _ _ _ _ _, bel__⟩
      ·rw [if_neg c16] at H
       exact absurd H (by simp)
     ·rw [if_neg c15] at H
      exact absurd H (by simp)
    ·rw [if_neg c12] at H
     exact absurd H (by simp)
end Go.Proofs.Ytpnblgbkjbpeoaa.P

namespace Go.Proofs.Ytpnblgbkjbpeoaa.P
open Go.RowKit Go.Proofs.YtpnblgbkjbpeoaaW.PrintWords Go.Proofs.YtpnblgbkjbpeoaaW.PrintLast Go.Proofs.YtpnblgbkjbpeoaaW.PrintMore
attribute [local go_sem] max2_int min2_int max_two min_two max_three min_three max_four min_four   -- for this text's walks alone
set_option linter.unusedVariables false
set_option linter.unusedSimpArgs false
/-! ### spec_ReadEntry: function 47 -/
mutual
def spec_ReadEntry.j0 : Nat → ByteArray → Int → Bool → Option (Int × ByteArray × ByteArray × Int × ByteArray × List ByteArray × Bool)
 | 0, _, _, _ => none
 | k + 1, x0, x1, x24 => if x24 = true then (some (0, (⟨#[]⟩ : ByteArray), (⟨#[]⟩ : ByteArray), 0, (⟨#[]⟩ : ByteArray), ([] : List ByteArray), false)) else (if 0 < (x0.size : Int) then (if 1 < (x0.size : Int) then (if 2 < (x0.size : Int) then (if 3 < (x0.size : Int) then (if 4 < (x0.size : Int) then (if 5 < (x0.size : Int) then (if 6 ≤ (wrap64 (6 + (wrap64 (bt x0 5)))) then (if (wrap64 (6 + (wrap64 (bt x0 5)))) ≤ (x0.size : Int) then (if 0 ≤ (wrap64 (6 + (wrap64 (bt x0 5)))) then (if (wrap64 (bt x0 0)) = 1 then ((spec_ReadThing.f k (x0.extract ((wrap64 (6 + (wrap64 (bt x0 5)))) : Int).toNat x0.size) x1).bind fun bt849 => (spec_ReadEntry.j1 k x0 x1 (wrap64 (bt x0 0)) (⟨#[]⟩ : ByteArray) (x0.extract 6 ((wrap64 (6 + (wrap64 (bt x0 5)))) : Int).toNat) (wrap64 ((wrap64 ((wrap64 ((wrap64 ((wrap64 (bt x0 1)) * 16777216)) + (wrap64 ((wrap64 (bt x0 2)) * 65536)))) + (wrap64 ((wrap64 (bt x0 3)) * 256)))) + (wrap64 (bt x0 4)))) bt849.1 bt849.2.1)) else (spec_ReadEntry.j1 k x0 x1 (wrap64 (bt x0 0)) (x0.extract ((wrap64 (6 + (wrap64 (bt x0 5)))) : Int).toNat x0.size) (x0.extract 6 ((wrap64 (6 + (wrap64 (bt x0 5)))) : Int).toNat) (wrap64 ((wrap64 ((wrap64 ((wrap64 ((wrap64 (bt x0 1)) * 16777216)) + (wrap64 ((wrap64 (bt x0 2)) * 65536)))) + (wrap64 ((wrap64 (bt x0 3)) * 256)))) + (wrap64 (bt x0 4)))) (⟨#[]⟩ : ByteArray) ([] : List ByteArray))) else (none)) else (none)) else (none)) else (none)) else (none)) else (none)) else (none)) else (none)) else (none))
def spec_ReadEntry.j1 : Nat → ByteArray → Int → Int → ByteArray → ByteArray → Int → ByteArray → List ByteArray → Option (Int × ByteArray × ByteArray × Int × ByteArray × List ByteArray × Bool)
 | 0, _, _, _, _, _, _, _, _ => none
 | k + 1, x0, x1, x849000, x849001, x849002, x849003, x849004, x849005 => (spec_l3Ok.f k x849000 x849001 x849002 x849003 x849004 x849005 x1).bind fun t854 => (if t854 = true then ((spec_FormEntry.f k x849000 x849001 x849002 x849003 x849004 x849005 x1).bind fun t855 => (if t855.toList = x0.toList then (some (x849000, x849001, x849002, x849003, x849004, x849005, true)) else (some (0, (⟨#[]⟩ : ByteArray), (⟨#[]⟩ : ByteArray), 0, (⟨#[]⟩ : ByteArray), ([] : List ByteArray), false)))) else (some (0, (⟨#[]⟩ : ByteArray), (⟨#[]⟩ : ByteArray), 0, (⟨#[]⟩ : ByteArray), ([] : List ByteArray), false)))
end
def spec_ReadEntry.f (k : Nat) (a0 : ByteArray) (a1 : Int) : Option (Int × ByteArray × ByteArray × Int × ByteArray × List ByteArray × Bool) := (spec_l1Width.f a1).bind fun t847 => (if t847 = true then (if (a0.size : Int) < 6 then (spec_ReadEntry.j0 k a0 a1 true) else (if 5 < (a0.size : Int) then (spec_ReadEntry.j0 k a0 a1 (decide ((a0.size : Int) < (wrap64 (6 + (wrap64 (bt a0 5))))))) else (none))) else (spec_ReadEntry.j0 k a0 a1 true))
def spec_ReadEntry.T3 : Bool × List (List Nat × List Nat) := (true, [([], []), ([0], [0]), ([1], [1]), ([], []), ([3], [3]), ([4], [4]), ([5], [5]), ([], []), ([7], [7]), ([8], [8]), ([9], [9]), ([6, 10], [6, 10]), ([], []), ([12], [12]), ([13], [13]), ([14], [14]), ([11, 15], [11, 15]), ([], []), ([17], [17]), ([18], [18]), ([16, 19], [16, 19]), ([2, 20], [2, 20]), ([], []), ([22, 21, 0, 1, 2, 3, 4, 5, 6, 7, 8, 9, 10, 11, 12, 13, 14, 15, 16, 17, 18, 19, 20, 21, 22], [21, 22])])
def spec_ReadEntry.B3 : List Nat := [0, 1, 3, 0, 8, 24, 56, 0, 128, 384, 896, 2040, 0, 4096, 12288, 28672, 65528, 0, 131072, 393216, 1048568, 2097151, 0, 8388607]
theorem spec_ReadEntry.tab3 : rtab .any (opsOf Try.f47 3) = spec_ReadEntry.T3 := by kernel_rfl
theorem spec_ReadEntry.bits3 : waitsOk spec_ReadEntry.T3.2 spec_ReadEntry.B3 = true := by kernel_rfl
set_option maxHeartbeats 8000000 in
set_option maxRecDepth 100000 in
theorem spec_ReadEntry.calls (k : Nat) (a0 : ByteArray) (a1 : Int) (r1 : Int) (r2 : ByteArray) (r3 : ByteArray) (r4 : Int) (r5 : ByteArray) (r6 : List ByteArray) (r7 : Bool) (w : World) (h : spec_ReadEntry.f k a0 a1 = some (r1, r2, r3, r4, r5, r6, r7)) :
  Calls Try.prog 47 #[.string a0, .int .i64 a1] w fun e w' => ∃ v5_ : Value, e = .returned (.tuple #[.agg #[.int .i64 r1, .string r2, .string r3, .int .i64 r4, .string r5, v5_], .bool r7]) ∧ Kd.R Kd.string 9 w' w.heap.size (fun _ => True) v5_ r6 ∧ Below w.heap.size w w' := by
 have hu63 := Try.underlying63
 have hu38 := Try.underlying38
 have HB := am__ (Below.refl w.heap.size w)
 have H : ((spec_l1Width.f a1).bind fun t847 => (if t847 = true then (if (a0.size : Int) < 6 then (spec_ReadEntry.j0 k a0 a1 true) else (if 5 < (a0.size : Int) then (spec_ReadEntry.j0 k a0 a1 (decide ((a0.size : Int) < (wrap64 (6 + (wrap64 (bt a0 5))))))) else (none))) else (spec_ReadEntry.j0 k a0 a1 true))) = some (r1, r2, r3, r4, r5, r6, r7) := h
 clear h
 have HC3 := Aside0.mk H
 clear H
 go_enter Try.func47, Try.ntmps47
 go_upto_region 1 with (first | ((with_reducible refine gate_dst (N := 4) rfl ?_); (try (refine gate_guard (by rfl) ?_; dsimp only)); refine be__ 4 #[.int .i64 0, .string (⟨#[]⟩ : ByteArray), .string (⟨#[]⟩ : ByteArray), .int .i64 0, .string (⟨#[]⟩ : ByteArray), .slice none 0 0] 63 ?_; intro gb846 hg w4 hbox hb; have BK846 := am__ (hbox); have GW846 := am__ ((bsz__ hg bel__ : w.heap.size ≤ gb846)); have GE846 := am__ ((bsz__ hg bel__ : w.heap.size ≤ gb846)); replace HB := am__ (below_step (bel__) hb); clear hb hbox hg))
 (try simp only [Act.put, List.setIfInBounds_toArray, List.set_cons_zero, List.set_cons_succ])
 go_cut [24] (fun v24 wc => ∃ (kq : Nat) (x24_2 : Bool), v24 = .bool x24_2 ∧ Aside0 (spec_ReadEntry.j0 kq a0 a1 x24_2 = some (r1, r2, r3, r4, r5, r6, r7)) ∧ Aside0 (kq ≤ k) ∧ Aside0 (wc.heap[gb846]? = some (.cells #[.int .i64 0, .string (⟨#[]⟩ : ByteArray), .string (⟨#[]⟩ : ByteArray), .int .i64 0, .string (⟨#[]⟩ : ByteArray), (.slice none 0 0)] 63 (0, 0))) ∧ Aside0 (Below w.heap.size w wc))
 case first =>
  have H := HC3.out
  clear HC3
  replace H := Option.bind_eq_some_iff.mp H
  obtain ⟨t847, A50, H⟩ := H
  replace H : (if t847 = true then (if (a0.size : Int) < 6 then (spec_ReadEntry.j0 k a0 a1 true) else (if 5 < (a0.size : Int) then (spec_ReadEntry.j0 k a0 a1 (decide ((a0.size : Int) < (wrap64 (6 + (wrap64 (bt a0 5))))))) else (none))) else (spec_ReadEntry.j0 k a0 a1 true)) = some (r1, r2, r3, r4, r5, r6, r7) := H
  have A5 := Aside0.mk A50
  clear A50
  by_cases c6 : t847 = true
  ·subst c6
   have H1 : (if (a0.size : Int) < 6 then (spec_ReadEntry.j0 k a0 a1 true) else (if 5 < (a0.size : Int) then (spec_ReadEntry.j0 k a0 a1 (decide ((a0.size : Int) < (wrap64 (6 + (wrap64 (bt a0 5))))))) else (none))) = some (r1, r2, r3, r4, r5, r6, r7) := by rw [if_pos rfl] at H; exact H
   clear H
   have H := H1
   clear H1
   by_cases c7 : (a0.size : Int) < 6
   ·rw [if_pos c7] at H
    have c7b0 : decide ((a0.size : Int) < 6) = true := decide_eq_true c7
    have c7b1 : decide (a0.size < 6) = true := decide_eq_true (by omega)
    clear c7
    (first | rw [c7b0] | (simp only [i64_w, i32_w]; rw [c7b0]) | skip)
    have H' := Aside0.mk H
    clear H
    go_wp2_with (first | ((with_reducible refine gate_callee (f := 56) rfl ?_); refine gl__ (some 9) Try.func56 #[.int .i64 a1] ?_; (with_reducible refine (spec_l1Width.calls a1 true _ A5.out).mono ?_); rintro e w' ⟨rfl, ⟨nd, rfl⟩⟩; refine ⟨_, rfl, ?_⟩))
    go_meet
    case rel => exact ⟨_, (true), (rf__), H', ⟨by first | omega | exact Nat.le_refl _⟩, ⟨blk__ BK846.out⟩, ⟨bel__⟩⟩
   ·rw [if_neg c7] at H
    have c7b0 : decide ((a0.size : Int) < 6) = false := decide_eq_false c7
    have c7b1 : decide (a0.size < 6) = false := decide_eq_false (by omega)
    clear c7
    (first | rw [c7b0] | (simp only [i64_w, i32_w]; rw [c7b0]) | skip)
    by_cases c8 : 5 < (a0.size : Int)
    ·rw [if_pos c8] at H
     have c8b0 : decide (5 < (a0.size : Int)) = true := decide_eq_true c8
     have c8b1 : decide (5 < a0.size) = true := decide_eq_true (by omega)
     clear c8
     have H' := Aside0.mk H
     clear H
     go_wp2_with (first | ((with_reducible refine gate_callee (f := 56) rfl ?_); refine gl__ (some 9) Try.func56 #[.int .i64 a1] ?_; (with_reducible refine (spec_l1Width.calls a1 true _ A5.out).mono ?_); rintro e w' ⟨rfl, ⟨nd, rfl⟩⟩; refine ⟨_, rfl, ?_⟩; have p9 : 0 ≤ (5 : Int) := (by omega); have q9 : 5 < a0.size := (by have : (5 : Int) < (a0.size : Int) := of_decide_eq_true (by first | (with_reducible assumption) | assumption); omega); have hx9 : ∀ h : 5 < a0.size, ((a0[5]'h).toNat : Int) = bt a0 5 := bt_at a0 5; clear p9; have qi9 : (5 < (a0.size : Int)) = True := eq_true (of_decide_eq_true (by first | (with_reducible assumption) | assumption)); replace q9 := eq_true q9))
     go_meet
     case rel => exact ⟨_, (decide ((a0.size : Int) < (wrap64 (6 + (wrap64 (bt a0 5)))))), (rf__), H', ⟨by first | omega | exact Nat.le_refl _⟩, ⟨blk__ BK846.out⟩, ⟨bel__⟩⟩
    ·rw [if_neg c8] at H
     exact absurd H (by simp)
  ·replace c6 := Bool.eq_false_iff.mpr c6
   subst c6
   have H1 : (spec_ReadEntry.j0 k a0 a1 true) = some (r1, r2, r3, r4, r5, r6, r7) := by rw [if_neg (show ¬ (false = true) by decide)] at H; exact H
   clear H
   have H := H1
   clear H1
   have H' := Aside0.mk H
   clear H
   go_wp2_with (first | ((with_reducible refine gate_callee (f := 56) rfl ?_); refine gl__ (some 9) Try.func56 #[.int .i64 a1] ?_; (with_reducible refine (spec_l1Width.calls a1 false _ A5.out).mono ?_); rintro e w' ⟨rfl, ⟨nd, rfl⟩⟩; refine ⟨_, rfl, ?_⟩))
   go_meet
   case rel => exact ⟨_, (true), (rf__), H', ⟨by first | omega | exact Nat.le_refl _⟩, ⟨blk__ BK846.out⟩, ⟨bel__⟩⟩
 case rest =>
  clear HC3
  try clear p2
  try clear c4
  try clear c5
  try clear c6
  try clear p6
  try clear c7
  try clear c7b0
  try clear c7b1
  try clear c8
  try clear c8b0
  try clear c8b1
  try clear p9
  try clear q9
  try clear hx9
  try clear qi9
  try clear p9
  try clear q9
  obtain ⟨kq, x24_2, rfl, HA, HJ2, BK846, HB⟩ := hcut
  cases kq with
  | zero => exact absurd HA.out (by simp [spec_ReadEntry.j0])
  | succ kj2 =>
   have H := HA.out
   clear HA
   simp only [spec_ReadEntry.j0] at H
   by_cases c10 : x24_2 = true
   ·subst c10
    have H1 : (some (0, (⟨#[]⟩ : ByteArray), (⟨#[]⟩ : ByteArray), 0, (⟨#[]⟩ : ByteArray), ([] : List ByteArray), false)) = some (r1, r2, r3, r4, r5, r6, r7) := by rw [if_pos rfl] at H; exact H
    clear H
    have H := H1
    clear H1
    simp only [Option.some.injEq, Prod.mk.injEq] at H
    obtain ⟨rfl, rfl, rfl, rfl, rfl, rfl, rfl⟩ := H
    have hcz11_0 : wc.cell? ⟨gb846, 0, none⟩ = some (.int .i64 0) := (blk_cell BK846.out 0).trans rfl
    have hcz11_1 : wc.cell? ⟨gb846, 1, none⟩ = some (.string (⟨#[]⟩ : ByteArray)) := (blk_cell BK846.out 1).trans rfl
    have hcz11_2 : wc.cell? ⟨gb846, 2, none⟩ = some (.string (⟨#[]⟩ : ByteArray)) := (blk_cell BK846.out 2).trans rfl
    have hcz11_3 : wc.cell? ⟨gb846, 3, none⟩ = some (.int .i64 0) := (blk_cell BK846.out 3).trans rfl
    have hcz11_4 : wc.cell? ⟨gb846, 4, none⟩ = some (.string (⟨#[]⟩ : ByteArray)) := (blk_cell BK846.out 4).trans rfl
    have hcz11_5 : wc.cell? ⟨gb846, 5, none⟩ = some (.slice none 0 0) := (blk_cell BK846.out 5).trans rfl
    have hfz11_0 := blk_frozen BK846.out 0
    have hfz11_1 := blk_frozen BK846.out 1
    have hfz11_2 := blk_frozen BK846.out 2
    have hfz11_3 := blk_frozen BK846.out 3
    have hfz11_4 := blk_frozen BK846.out 4
    have hfz11_5 := blk_frozen BK846.out 5
    go_wp2
    refine bodyPost_ret (results_ct rfl _ _ gb846 63 #[.int .i64 0, .string (⟨#[]⟩ : ByteArray), .string (⟨#[]⟩ : ByteArray), .int .i64 0, .string (⟨#[]⟩ : ByteArray), .slice none 0 0] (0, 0) _ rfl (bpu__ BK846.out) Try.underlying63 rfl (by kernel_rfl)) rfl ?_
    exact ⟨_, by first | rfl | (simp [errW_none, errW_some] <;> rfl) | (simp [*, errW_none, errW_some] <;> rfl), by first | exact Kd.R_nil _ _ _ _ _ | exact Kd.N_nil _ _ _ _ _ | exact Kd.V_nil _ _ _ _ _ | exact Kd.Q_nil _ _ _ _ _ | exact Kd.S_nil _ _ _ _ _, bel__⟩
   ·replace c10 := Bool.eq_false_iff.mpr c10
    subst c10
    have H1 : (if 0 < (a0.size : Int) then (if 1 < (a0.size : Int) then (if 2 < (a0.size : Int) then (if 3 < (a0.size : Int) then (if 4 < (a0.size : Int) then (if 5 < (a0.size : Int) then (if 6 ≤ (wrap64 (6 + (wrap64 (bt a0 5)))) then (if (wrap64 (6 + (wrap64 (bt a0 5)))) ≤ (a0.size : Int) then (if 0 ≤ (wrap64 (6 + (wrap64 (bt a0 5)))) then (if (wrap64 (bt a0 0)) = 1 then ((spec_ReadThing.f kj2 (a0.extract ((wrap64 (6 + (wrap64 (bt a0 5)))) : Int).toNat a0.size) a1).bind fun bt849 => (spec_ReadEntry.j1 kj2 a0 a1 (wrap64 (bt a0 0)) (⟨#[]⟩ : ByteArray) (a0.extract 6 ((wrap64 (6 + (wrap64 (bt a0 5)))) : Int).toNat) (wrap64 ((wrap64 ((wrap64 ((wrap64 ((wrap64 (bt a0 1)) * 16777216)) + (wrap64 ((wrap64 (bt a0 2)) * 65536)))) + (wrap64 ((wrap64 (bt a0 3)) * 256)))) + (wrap64 (bt a0 4)))) bt849.1 bt849.2.1)) else (spec_ReadEntry.j1 kj2 a0 a1 (wrap64 (bt a0 0)) (a0.extract ((wrap64 (6 + (wrap64 (bt a0 5)))) : Int).toNat a0.size) (a0.extract 6 ((wrap64 (6 + (wrap64 (bt a0 5)))) : Int).toNat) (wrap64 ((wrap64 ((wrap64 ((wrap64 ((wrap64 (bt a0 1)) * 16777216)) + (wrap64 ((wrap64 (bt a0 2)) * 65536)))) + (wrap64 ((wrap64 (bt a0 3)) * 256)))) + (wrap64 (bt a0 4)))) (⟨#[]⟩ : ByteArray) ([] : List ByteArray))) else (none)) else (none)) else (none)) else (none)) else (none)) else (none)) else (none)) else (none)) else (none)) = some (r1, r2, r3, r4, r5, r6, r7) := by rw [if_neg (show ¬ (false = true) by decide)] at H; exact H
    clear H
    have H := H1
    clear H1
    by_cases c12 : 0 < (a0.size : Int)
    ·rw [if_pos c12] at H
     have c12b0 : decide (0 < (a0.size : Int)) = true := decide_eq_true c12
     have c12b1 : decide (0 < a0.size) = true := decide_eq_true (by omega)
     clear c12
     by_cases c14 : 1 < (a0.size : Int)
     ·rw [if_pos c14] at H
      have c14b0 : decide (1 < (a0.size : Int)) = true := decide_eq_true c14
      have c14b1 : decide (1 < a0.size) = true := decide_eq_true (by omega)
      clear c14
      by_cases c16 : 2 < (a0.size : Int)
      ·rw [if_pos c16] at H
       have c16b0 : decide (2 < (a0.size : Int)) = true := decide_eq_true c16
       have c16b1 : decide (2 < a0.size) = true := decide_eq_true (by omega)
       clear c16
       by_cases c18 : 3 < (a0.size : Int)
       ·rw [if_pos c18] at H
        have c18b0 : decide (3 < (a0.size : Int)) = true := decide_eq_true c18
        have c18b1 : decide (3 < a0.size) = true := decide_eq_true (by omega)
        clear c18
        by_cases c20 : 4 < (a0.size : Int)
        ·rw [if_pos c20] at H
         have c20b0 : decide (4 < (a0.size : Int)) = true := decide_eq_true c20
         have c20b1 : decide (4 < a0.size) = true := decide_eq_true (by omega)
         clear c20
         by_cases c22 : 5 < (a0.size : Int)
         ·rw [if_pos c22] at H
          have c22b0 : decide (5 < (a0.size : Int)) = true := decide_eq_true c22
          have c22b1 : decide (5 < a0.size) = true := decide_eq_true (by omega)
          clear c22
          by_cases c24 : 6 ≤ (wrap64 (6 + (wrap64 (bt a0 5))))
          ·rw [if_pos c24] at H
           have c24b0 := eq_true c24
           have c24b1 : decide (6 ≤ (wrap64 (6 + (wrap64 (bt a0 5))))) = true := decide_eq_true c24
           by_cases c25 : (wrap64 (6 + (wrap64 (bt a0 5)))) ≤ (a0.size : Int)
           ·rw [if_pos c25] at H
            have c25b0 := eq_true c25
            have c25b1 : decide ((wrap64 (6 + (wrap64 (bt a0 5)))) ≤ (a0.size : Int)) = true := decide_eq_true c25
            obtain ⟨ji27, hji27⟩ : ∃ j_ : Int, (wrap64 (6 + (wrap64 (bt a0 5)))) = j_ := ⟨_, rfl⟩
            replace H : (if 0 ≤ (ji27) then (if (wrap64 (bt a0 0)) = 1 then ((spec_ReadThing.f kj2 (a0.extract ((ji27) : Int).toNat a0.size) a1).bind fun bt849 => (spec_ReadEntry.j1 kj2 a0 a1 (wrap64 (bt a0 0)) (⟨#[]⟩ : ByteArray) (a0.extract 6 ((ji27) : Int).toNat) (wrap64 ((wrap64 ((wrap64 ((wrap64 ((wrap64 (bt a0 1)) * 16777216)) + (wrap64 ((wrap64 (bt a0 2)) * 65536)))) + (wrap64 ((wrap64 (bt a0 3)) * 256)))) + (wrap64 (bt a0 4)))) bt849.1 bt849.2.1)) else (spec_ReadEntry.j1 kj2 a0 a1 (wrap64 (bt a0 0)) (a0.extract ((ji27) : Int).toNat a0.size) (a0.extract 6 ((ji27) : Int).toNat) (wrap64 ((wrap64 ((wrap64 ((wrap64 ((wrap64 (bt a0 1)) * 16777216)) + (wrap64 ((wrap64 (bt a0 2)) * 65536)))) + (wrap64 ((wrap64 (bt a0 3)) * 256)))) + (wrap64 (bt a0 4)))) (⟨#[]⟩ : ByteArray) ([] : List ByteArray))) else (none)) = some (r1, r2, r3, r4, r5, r6, r7) := by first | (rw [hji27] at H; exact H) | (simp only [hji27] at H ⊢; exact H)
            (try rw [hji27] at c24b0)
            (try rw [hji27] at c24b1)
            (try rw [hji27] at c24)
            (try rw [hji27] at c25b0)
            (try rw [hji27] at c25b1)
            (try rw [hji27] at c25)
            have hji27w : (IntKind.i64.wrap (6 + (wrap64 (bt a0 5)))) = ji27 := (i64_w _).trans hji27
            by_cases c28 : 0 ≤ (ji27)
            ·rw [if_pos c28] at H
             have c28b0 := eq_true c28
             have c28b1 : decide (0 ≤ (ji27)) = true := decide_eq_true c28
             clear c28
             have c29b0 := eq_true (of_decide_eq_true (by first | (with_reducible assumption) | assumption) : (ji27) ≤ (a0.size : Int))
             have HC30 := Aside0.mk H
             clear H
             try go_wp2
             have n0_ := am__ (blk_drew BK846.out)
             have n1_ := am__ (below_drew1 HB.out)
             clear BK846
             clear HB
             have BK846 := n0_
             have HB := n1_
             clear n0_ n1_
             have p13 : 0 ≤ (0 : Int) := (by omega)
             have q13 : 0 < a0.size := (by have : (0 : Int) < (a0.size : Int) := of_decide_eq_true (by first | (with_reducible assumption) | assumption); omega)
             have hx13 : ∀ h : 0 < a0.size, ((a0[0]'h).toNat : Int) = bt a0 0 := bt_at a0 0
             clear p13
             have qi13 : (0 < (a0.size : Int)) = True := eq_true (of_decide_eq_true (by first | (with_reducible assumption) | assumption))
             replace q13 := eq_true q13
             have p15 : 0 ≤ (1 : Int) := (by omega)
             have q15 : 1 < a0.size := (by have : (1 : Int) < (a0.size : Int) := of_decide_eq_true (by first | (with_reducible assumption) | assumption); omega)
             have hx15 : ∀ h : 1 < a0.size, ((a0[1]'h).toNat : Int) = bt a0 1 := bt_at a0 1
             clear p15
             have qi15 : (1 < (a0.size : Int)) = True := eq_true (of_decide_eq_true (by first | (with_reducible assumption) | assumption))
             replace q15 := eq_true q15
             have p17 : 0 ≤ (2 : Int) := (by omega)
             have q17 : 2 < a0.size := (by have : (2 : Int) < (a0.size : Int) := of_decide_eq_true (by first | (with_reducible assumption) | assumption); omega)
             have hx17 : ∀ h : 2 < a0.size, ((a0[2]'h).toNat : Int) = bt a0 2 := bt_at a0 2
             clear p17
             have qi17 : (2 < (a0.size : Int)) = True := eq_true (of_decide_eq_true (by first | (with_reducible assumption) | assumption))
             replace q17 := eq_true q17
             have p19 : 0 ≤ (3 : Int) := (by omega)
             have q19 : 3 < a0.size := (by have : (3 : Int) < (a0.size : Int) := of_decide_eq_true (by first | (with_reducible assumption) | assumption); omega)
             have hx19 : ∀ h : 3 < a0.size, ((a0[3]'h).toNat : Int) = bt a0 3 := bt_at a0 3
             clear p19
             have qi19 : (3 < (a0.size : Int)) = True := eq_true (of_decide_eq_true (by first | (with_reducible assumption) | assumption))
             replace q19 := eq_true q19
             have p21 : 0 ≤ (4 : Int) := (by omega)
             have q21 : 4 < a0.size := (by have : (4 : Int) < (a0.size : Int) := of_decide_eq_true (by first | (with_reducible assumption) | assumption); omega)
             have hx21 : ∀ h : 4 < a0.size, ((a0[4]'h).toNat : Int) = bt a0 4 := bt_at a0 4
             clear p21
             have qi21 : (4 < (a0.size : Int)) = True := eq_true (of_decide_eq_true (by first | (with_reducible assumption) | assumption))
             replace q21 := eq_true q21
             refine start_ (n := 24) (S := fun w' => True) (ds := []) #[false, false, false, false, false, false, false, false, false, false, false, false, false, false, false, false, false, false, false, false, false, false, false, false] (by kernel_rfl) rfl rfl trivial (fun hHeld => ?_); refine with_tabW spec_ReadEntry.tab3 spec_ReadEntry.bits3 (fun HT_ HW_ => ?_)
             generalize wc.drew = w31 at BK846 HB hHeld ⊢
             refine pu__ (i := 0) (N := some 26) #[true, false, false, false, false, false, false, false, false, false, false, false, false, false, false, false, false, false, false, false, false, false, false, false] HT_.out ?_
             refine pu__ (i := 3) (N := some 29) #[true, false, false, true, false, false, false, false, false, false, false, false, false, false, false, false, false, false, false, false, false, false, false, false] HT_.out ?_
             refine pu__ (i := 7) (N := some 33) #[true, false, false, true, false, false, false, true, false, false, false, false, false, false, false, false, false, false, false, false, false, false, false, false] HT_.out ?_
             refine pu__ (i := 12) (N := some 38) #[true, false, false, true, false, false, false, true, false, false, false, false, true, false, false, false, false, false, false, false, false, false, false, false] HT_.out ?_
             refine pu__ (i := 17) (N := some 43) #[true, false, false, true, false, false, false, true, false, false, false, false, true, false, false, false, false, true, false, false, false, false, false, false] HT_.out ?_
             refine ta__ (i := 1) (N := some 27) #[true, true, false, true, false, false, false, true, false, false, false, false, true, false, false, false, false, true, false, false, false, false, false, false] HT_.out HW_.out hHeld ?_
             refine pu__ (i := 2) (N := some 28) #[true, true, true, true, false, false, false, true, false, false, false, false, true, false, false, false, false, true, false, false, false, false, false, false] HT_.out ?_
             refine ta__ (i := 4) (N := some 30) #[true, true, true, true, true, false, false, true, false, false, false, false, true, false, false, false, false, true, false, false, false, false, false, false] HT_.out HW_.out hHeld ?_
             refine pu__ (i := 5) (N := some 31) #[true, true, true, true, true, true, false, true, false, false, false, false, true, false, false, false, false, true, false, false, false, false, false, false] HT_.out ?_
             refine pu__ (i := 6) (N := some 32) #[true, true, true, true, true, true, true, true, false, false, false, false, true, false, false, false, false, true, false, false, false, false, false, false] HT_.out ?_
             refine ta__ (i := 8) (N := some 34) #[true, true, true, true, true, true, true, true, true, false, false, false, true, false, false, false, false, true, false, false, false, false, false, false] HT_.out HW_.out hHeld ?_
             refine pu__ (i := 9) (N := some 35) #[true, true, true, true, true, true, true, true, true, true, false, false, true, false, false, false, false, true, false, false, false, false, false, false] HT_.out ?_
             refine pu__ (i := 10) (N := some 36) #[true, true, true, true, true, true, true, true, true, true, true, false, true, false, false, false, false, true, false, false, false, false, false, false] HT_.out ?_
             refine pu__ (i := 11) (N := some 37) #[true, true, true, true, true, true, true, true, true, true, true, true, true, false, false, false, false, true, false, false, false, false, false, false] HT_.out ?_
             refine ta__ (i := 13) (N := some 39) #[true, true, true, true, true, true, true, true, true, true, true, true, true, true, false, false, false, true, false, false, false, false, false, false] HT_.out HW_.out hHeld ?_
             refine pu__ (i := 14) (N := some 40) #[true, true, true, true, true, true, true, true, true, true, true, true, true, true, true, false, false, true, false, false, false, false, false, false] HT_.out ?_
             refine pu__ (i := 15) (N := some 41) #[true, true, true, true, true, true, true, true, true, true, true, true, true, true, true, true, false, true, false, false, false, false, false, false] HT_.out ?_
             refine pu__ (i := 16) (N := some 42) #[true, true, true, true, true, true, true, true, true, true, true, true, true, true, true, true, true, true, false, false, false, false, false, false] HT_.out ?_
             refine ta__ (i := 18) (N := some 44) #[true, true, true, true, true, true, true, true, true, true, true, true, true, true, true, true, true, true, true, false, false, false, false, false] HT_.out HW_.out hHeld ?_
             refine pu__ (i := 19) (N := some 45) #[true, true, true, true, true, true, true, true, true, true, true, true, true, true, true, true, true, true, true, true, false, false, false, false] HT_.out ?_
             refine pu__ (i := 20) (N := some 46) #[true, true, true, true, true, true, true, true, true, true, true, true, true, true, true, true, true, true, true, true, true, false, false, false] HT_.out ?_
             refine pu__ (i := 21) (N := some 47) #[true, true, true, true, true, true, true, true, true, true, true, true, true, true, true, true, true, true, true, true, true, true, false, false] HT_.out ?_
             refine one_ (i := 22) (N := some 6) #[true, true, true, true, true, true, true, true, true, true, true, true, true, true, true, true, true, true, true, true, true, true, true, false] rfl rfl (one_of HT_.out (by kernel_rfl)) (by decide) (fun K hK => ?_)
             refine box_step ?hg (N := 6) ?hd (cs := #[.int .i64 0, .string (⟨#[]⟩ : ByteArray), .string (⟨#[]⟩ : ByteArray), .int .i64 0, .string (⟨#[]⟩ : ByteArray), .slice none 0 0]) (t := 63) ?hr ?_; (case hd => rfl); (case hg => rfl); (case hr => first | (go_simp; done) | (go_simp; rfl))
             intro gb848 hg w32 hbox hb
             have n0_ := am__ (blb__ BK846.out hb)
             have n1_ := am__ (below_step (bel__) hb)
             have n2_ := am__ (hbox)
             have n3_ := am__ ((bsz__ hg bel__ : w.heap.size ≤ gb848))
             have n4_ := am__ ((bsz__ hg bel__ : w.heap.size ≤ gb848))
             have n5_ := am__ ((nlt__ hg (blk_lt (g := gb846) (o := .cells #[.int .i64 0, .string (⟨#[]⟩ : ByteArray), .string (⟨#[]⟩ : ByteArray), .int .i64 0, .string (⟨#[]⟩ : ByteArray), .slice none 0 0] 63 (0, 0)) (blk__ BK846.out)) : gb846 ≠ gb848))
             have n6_ := am__ ((ngt__ hg (blk_lt (g := gb846) (o := .cells #[.int .i64 0, .string (⟨#[]⟩ : ByteArray), .string (⟨#[]⟩ : ByteArray), .int .i64 0, .string (⟨#[]⟩ : ByteArray), .slice none 0 0] 63 (0, 0)) (blk__ BK846.out)) : gb848 ≠ gb846))
             clear BK846
             clear HB
             have BK846 := n0_
             have HB := n1_
             have BK848 := n2_
             have GW848 := n3_
             have GE848 := n4_
             have NB846_848 := n5_
             have NB848_846 := n6_
             clear n0_ n1_ n2_ n3_ n4_ n5_ n6_
             clear hb hbox hg
             refine hK.out _ _ trivial (fun hHeld => ?_)
             clear hK K
             refine na__ 6 ?_
             refine one_ (i := 23) (N := none) #[true, true, true, true, true, true, true, true, true, true, true, true, true, true, true, true, true, true, true, true, true, true, true, true] rfl rfl (one_of HT_.out (by kernel_rfl)) (by decide) (fun K hK => ?_)
             have hs33 : w32.cell? ⟨gb848, 0, none⟩ = some (.int .i64 0) := (blk_cell BK848.out 0).trans rfl
             have hfs33 := blk_frozen BK848.out 0
             have hns33_0 := NB846_848.out
             have hms33_0 := NB848_846.out
             have hs34 : w32.cell? ⟨gb848, 1, none⟩ = some (.string (⟨#[]⟩ : ByteArray)) := (blk_cell BK848.out 1).trans rfl
             have hfs34 := blk_frozen BK848.out 1
             have hns34_0 := NB846_848.out
             have hms34_0 := NB848_846.out
             have hs35 : w32.cell? ⟨gb848, 2, none⟩ = some (.string (⟨#[]⟩ : ByteArray)) := (blk_cell BK848.out 2).trans rfl
             have hfs35 := blk_frozen BK848.out 2
             have hns35_0 := NB846_848.out
             have hms35_0 := NB848_846.out
             have hs36 : w32.cell? ⟨gb848, 3, none⟩ = some (.int .i64 0) := (blk_cell BK848.out 3).trans rfl
             have hfs36 := blk_frozen BK848.out 3
             have hns36_0 := NB846_848.out
             have hms36_0 := NB848_846.out
             have hs37 : w32.cell? ⟨gb848, 4, none⟩ = some (.string (⟨#[]⟩ : ByteArray)) := (blk_cell BK848.out 4).trans rfl
             have hfs37 := blk_frozen BK848.out 4
             have hns37_0 := NB846_848.out
             have hms37_0 := NB848_846.out
             have hs38 : w32.cell? ⟨gb848, 5, none⟩ = some (.slice none 0 0) := (blk_cell BK848.out 5).trans rfl
             have hfs38 := blk_frozen BK848.out 5
             have hns38_0 := NB846_848.out
             have hms38_0 := NB848_846.out
             refine skip_ (w1 := ?_) (by rfl) rfl ?_ ?_
             rotate_left
             ·go_simp
              rfl
             refine hK.out _ _ trivial (fun hHeld => ?_)
             clear hK K
             refine done_ (done_of HT_.out (by kernel_rfl)) ?_
             have p23 : 0 ≤ (5 : Int) := (by omega)
             have q23 : 5 < a0.size := (by have : (5 : Int) < (a0.size : Int) := of_decide_eq_true (by first | (with_reducible assumption) | assumption); omega)
             have hx23 : ∀ h : 5 < a0.size, ((a0[5]'h).toNat : Int) = bt a0 5 := bt_at a0 5
             clear p23
             have qi23 : (5 < (a0.size : Int)) = True := eq_true (of_decide_eq_true (by first | (with_reducible assumption) | assumption))
             replace q23 := eq_true q23
             have hnb39 := NB848_846.out
             have hnc39 := NB846_848.out
             have hcz40_0 : w32.cell? ⟨gb848, 0, none⟩ = some (.int .i64 0) := (blk_cell BK848.out 0).trans rfl
             have hcz40_1 : w32.cell? ⟨gb848, 1, none⟩ = some (.string (⟨#[]⟩ : ByteArray)) := (blk_cell BK848.out 1).trans rfl
             have hcz40_2 : w32.cell? ⟨gb848, 2, none⟩ = some (.string (⟨#[]⟩ : ByteArray)) := (blk_cell BK848.out 2).trans rfl
             have hcz40_3 : w32.cell? ⟨gb848, 3, none⟩ = some (.int .i64 0) := (blk_cell BK848.out 3).trans rfl
             have hcz40_4 : w32.cell? ⟨gb848, 4, none⟩ = some (.string (⟨#[]⟩ : ByteArray)) := (blk_cell BK848.out 4).trans rfl
             have hcz40_5 : w32.cell? ⟨gb848, 5, none⟩ = some (.slice none 0 0) := (blk_cell BK848.out 5).trans rfl
             have hfz40_0 := blk_frozen BK848.out 0
             have hfz40_1 := blk_frozen BK848.out 1
             have hfz40_2 := blk_frozen BK848.out 2
             have hfz40_3 := blk_frozen BK848.out 3
             have hfz40_4 := blk_frozen BK848.out 4
             have hfz40_5 := blk_frozen BK848.out 5
             have p26 : 0 ≤ (5 : Int) := (by omega)
             have q26 : 5 < a0.size := (by have : (5 : Int) < (a0.size : Int) := of_decide_eq_true (by first | (with_reducible assumption) | assumption); omega)
             have hx26 : ∀ h : 5 < a0.size, ((a0[5]'h).toNat : Int) = bt a0 5 := bt_at a0 5
             clear p26
             have qi26 : (5 < (a0.size : Int)) = True := eq_true (of_decide_eq_true (by first | (with_reducible assumption) | assumption))
             replace q26 := eq_true q26
             go_upto_if 63 with (fail)
             go_cut [] (fun wc => ∃ (kq : Nat) (x849001_29 : ByteArray) (x849004_29 : ByteArray) (x849005_29 : List ByteArray) (u849005 : Value), Aside0 (spec_ReadEntry.j1 kq a0 a1 (wrap64 (bt a0 0)) x849001_29 (a0.extract 6 ((ji27) : Int).toNat) (wrap64 ((wrap64 ((wrap64 ((wrap64 ((wrap64 (bt a0 1)) * 16777216)) + (wrap64 ((wrap64 (bt a0 2)) * 65536)))) + (wrap64 ((wrap64 (bt a0 3)) * 256)))) + (wrap64 (bt a0 4)))) x849004_29 x849005_29 = some (r1, r2, r3, r4, r5, r6, r7)) ∧ Aside0 (kq ≤ kj2) ∧ Aside0 (Kd.R Kd.string 9 wc w.heap.size (fun _ => True) u849005 x849005_29) ∧ Aside0 (wc.heap[gb846]? = some (.cells #[.int .i64 0, .string (⟨#[]⟩ : ByteArray), .string (⟨#[]⟩ : ByteArray), .int .i64 0, .string (⟨#[]⟩ : ByteArray), (.slice none 0 0)] 63 (0, 0))) ∧ Aside0 (wc.heap[gb848]? = some (.cells #[.int .i64 (wrap64 (bt a0 0)), .string x849001_29, .string (a0.extract 6 ((ji27) : Int).toNat), .int .i64 (wrap64 ((wrap64 ((wrap64 ((wrap64 ((wrap64 (bt a0 1)) * 16777216)) + (wrap64 ((wrap64 (bt a0 2)) * 65536)))) + (wrap64 ((wrap64 (bt a0 3)) * 256)))) + (wrap64 (bt a0 4)))), .string x849004_29, u849005] 63 (0, 0))) ∧ Aside0 (Below w.heap.size w wc))
             case first =>
              have H := HC30.out
              clear HC30
              by_cases c41 : (wrap64 (bt a0 0)) = 1
              ·rw [if_pos c41] at H
               have c41b0 : ((wrap64 (bt a0 0)) == 1) = true := beq_iff_eq.mpr c41
               have c41b1 : ((wrap64 (bt a0 0)) != 1) = false := bne_eq_false_iff_eq.mpr c41
               clear c41
               (first | rw [c41b0] | (simp only [i64_w, i32_w]; rw [c41b0]) | skip)
               replace H := Option.bind_eq_some_iff.mp H
               obtain ⟨⟨t849, t850, t853⟩, A420, H⟩ := H
               replace H : (spec_ReadEntry.j1 kj2 a0 a1 (wrap64 (bt a0 0)) (⟨#[]⟩ : ByteArray) (a0.extract 6 ((ji27) : Int).toNat) (wrap64 ((wrap64 ((wrap64 ((wrap64 ((wrap64 (bt a0 1)) * 16777216)) + (wrap64 ((wrap64 (bt a0 2)) * 65536)))) + (wrap64 ((wrap64 (bt a0 3)) * 256)))) + (wrap64 (bt a0 4)))) t849 t850) = some (r1, r2, r3, r4, r5, r6, r7) := H
               have A42 := Aside0.mk A420
               clear A420
               have H' := Aside0.mk H
               clear H
               go_wp2_with (first | ((with_reducible refine gate_callee (f := 27) rfl ?_); refine goesL_ (some 67) rfl rfl Try.func27 (by kernel_rfl) rfl #[.string (a0.extract ((ji27) : Int).toNat a0.size), .int .i64 a1] rfl (by (try simp only [List.map_toArray, List.map_cons, List.map_nil]); first | done | (simp only [hji27]; rfl) | rfl | (simp only [List.length_drop, List.length_take]; rfl)) ?_; (with_reducible refine (spec_ReadThing.calls kj2 (a0.extract ((ji27) : Int).toNat a0.size) a1 t849 t850 t853 _ A42.out).mono ?_); rintro e w43 ⟨v851, rfl, ho0, hb⟩; refine ⟨_, rfl, ?_⟩; have HO852 := am__ (Kd.R_lower ho0 (below_size (bel__))); replace BK846 := am__ (blk_below (g := gb846) (o := .cells #[.int .i64 0, .string (⟨#[]⟩ : ByteArray), .string (⟨#[]⟩ : ByteArray), .int .i64 0, .string (⟨#[]⟩ : ByteArray), .slice none 0 0] 63 (0, 0)) (blf7__ BK846.out) hb); replace BK848 := am__ (blk_below (g := gb848) (o := .cells #[.int .i64 (wrap64 (bt a0 0)), .string (⟨#[]⟩ : ByteArray), .string (a0.extract 6 ((ji27) : Int).toNat), .int .i64 (wrap64 ((wrap64 ((wrap64 ((wrap64 ((wrap64 (bt a0 1)) * 16777216)) + (wrap64 ((wrap64 (bt a0 2)) * 65536)))) + (wrap64 ((wrap64 (bt a0 3)) * 256)))) + (wrap64 (bt a0 4)))), .string (⟨#[]⟩ : ByteArray), .slice none 0 0] 63 (0, 0)) (bpu__ BK848.out) hb); replace HB := am__ (below_step (bel__) hb); clear hb; (try clear ho0); have hnb44 := NB848_846.out; have hnc44 := NB846_848.out; obtain ⟨hcz45_0, hcz45_1, hcz45_2, hcz45_3, hcz45_4, hcz45_5, hfz45_0, hfz45_1, hfz45_2, hfz45_3, hfz45_4, hfz45_5⟩ := bk6__ BK848.out; obtain ⟨Ao46, co46, eo46⟩ := Kd.R_slice HO852.out; subst eo46))
               go_meet
               case rel => exact ⟨_, ((⟨#[]⟩ : ByteArray)), (t849), (t850), (.slice Ao46 t850.length co46), H', ⟨by have := HJ2.out; first | omega | exact Nat.le_refl _⟩, ⟨by refine rps__ ?_; exact Kd.R_mono (Kd.R_far (p := ⟨gb848, 5, none⟩) (Kd.R_far (p := ⟨gb848, 4, none⟩) (Kd.R_types HO852.out BK848.out (by decide)) h2__ (.string t849)) h2__ (.slice Ao46 t850.length co46)) (fun _ hk => trivial)⟩, ⟨blf2__ BK846.out⟩, ⟨bpu__ BK848.out⟩, ⟨bel__⟩⟩
              ·rw [if_neg c41] at H
               have c41b0 : ((wrap64 (bt a0 0)) == 1) = false := beq_eq_false_iff_ne.mpr c41
               have c41b1 : ((wrap64 (bt a0 0)) != 1) = true := bne_iff_ne.mpr c41
               (first | rw [c41b0] | (simp only [i64_w, i32_w]; rw [c41b0]) | skip)
               have H' := Aside0.mk H
               clear H
               have hnb47 := NB848_846.out
               have hnc47 := NB846_848.out
               have hcz48_0 : w32.cell? ⟨gb848, 0, none⟩ = some (.int .i64 0) := (blk_cell BK848.out 0).trans rfl
               have hcz48_1 : w32.cell? ⟨gb848, 1, none⟩ = some (.string (⟨#[]⟩ : ByteArray)) := (blk_cell BK848.out 1).trans rfl
               have hcz48_2 : w32.cell? ⟨gb848, 2, none⟩ = some (.string (⟨#[]⟩ : ByteArray)) := (blk_cell BK848.out 2).trans rfl
               have hcz48_3 : w32.cell? ⟨gb848, 3, none⟩ = some (.int .i64 0) := (blk_cell BK848.out 3).trans rfl
               have hcz48_4 : w32.cell? ⟨gb848, 4, none⟩ = some (.string (⟨#[]⟩ : ByteArray)) := (blk_cell BK848.out 4).trans rfl
               have hcz48_5 : w32.cell? ⟨gb848, 5, none⟩ = some (.slice none 0 0) := (blk_cell BK848.out 5).trans rfl
               have hfz48_0 := blk_frozen BK848.out 0
               have hfz48_1 := blk_frozen BK848.out 1
               have hfz48_2 := blk_frozen BK848.out 2
               have hfz48_3 := blk_frozen BK848.out 3
               have hfz48_4 := blk_frozen BK848.out 4
               have hfz48_5 := blk_frozen BK848.out 5
               go_wp2
               go_meet
               case rel => exact ⟨_, (a0.extract ((ji27) : Int).toNat a0.size), ((⟨#[]⟩ : ByteArray)), (([] : List ByteArray)), (.slice none 0 0), H', ⟨by have := HJ2.out; first | omega | exact Nat.le_refl _⟩, ⟨by first | exact Kd.R_nil _ _ _ _ _ | exact Kd.N_nil _ _ _ _ _ | exact Kd.V_nil _ _ _ _ _ | exact Kd.Q_nil _ _ _ _ _ | exact Kd.S_nil _ _ _ _ _⟩, ⟨blf8__ BK846.out⟩, ⟨bpu__ BK848.out⟩, ⟨bel__⟩⟩
             case rest =>
              clear HC30
              try clear c1
              try clear p1
              try clear q1
              try clear hx1
              try clear qi1
              try clear c2
              try clear p2
              try clear q2
              try clear hx2
              try clear qi2
              try clear c3
              try clear c4
              try clear c5
              try clear c6
              try clear p6
              try clear c7
              try clear c7b0
              try clear c7b1
              try clear c8
              try clear c8b0
              try clear c8b1
              try clear p9
              try clear q9
              try clear hx9
              try clear qi9
              try clear c10
              try clear c12
              try clear c12b0
              try clear c12b1
              try clear p13
              try clear q13
              try clear hx13
              try clear qi13
              try clear c14
              try clear c14b0
              try clear c14b1
              try clear p15
              try clear q15
              try clear hx15
              try clear qi15
              try clear c16
              try clear c16b0
              try clear c16b1
              try clear p17
              try clear q17
              try clear hx17
              try clear qi17
              try clear c18
              try clear c18b0
              try clear c18b1
              try clear p19
              try clear q19
              try clear hx19
              try clear qi19
              try clear c20
              try clear c20b0
              try clear c20b1
              try clear p21
              try clear q21
              try clear hx21
              try clear qi21
              try clear c22
              try clear c22b0
              try clear c22b1
              try clear p23
              try clear q23
              try clear hx23
              try clear qi23
              try clear c24
              try clear c24b0
              try clear c24b1
              try clear c25
              try clear c25b0
              try clear c25b1
              try clear p26
              try clear q26
              try clear hx26
              try clear qi26
              try clear c27
              try clear c28
              try clear c28b0
              try clear c28b1
              try clear c29
              try clear c29b0
              try clear c39
              try clear c41
              try clear c41b0
              try clear c41b1
              try clear c44
              try clear c47
              try clear hcz11_0 hcz11_1 hcz11_2 hcz11_3 hcz11_4 hcz11_5 hfz11_0 hfz11_1 hfz11_2 hfz11_3 hfz11_4 hfz11_5
              try clear hcz40_0 hcz40_1 hcz40_2 hcz40_3 hcz40_4 hcz40_5 hfz40_0 hfz40_1 hfz40_2 hfz40_3 hfz40_4 hfz40_5
              try clear hcz45_0 hcz45_1 hcz45_2 hcz45_3 hcz45_4 hcz45_5 hfz45_0 hfz45_1 hfz45_2 hfz45_3 hfz45_4 hfz45_5
              try clear hcz48_0 hcz48_1 hcz48_2 hcz48_3 hcz48_4 hcz48_5 hfz48_0 hfz48_1 hfz48_2 hfz48_3 hfz48_4 hfz48_5
              try clear p13
              try clear p15
              try clear p17
              try clear p19
              try clear p2
              try clear p21
              try clear p23
              try clear p26
              try clear p6
              try clear p9
              try clear q13
              try clear q15
              try clear q17
              try clear q19
              try clear q21
              try clear q23
              try clear q26
              try clear q9
              obtain ⟨kq, x849001_29, x849004_29, x849005_29, u849005, HA, HJ29, HO_849005, BK846, BK848, HB⟩ := hcut
              cases kq with
              | zero => exact absurd HA.out (by simp [spec_ReadEntry.j1])
              | succ kj29 =>
               have H := HA.out
               clear HA
               simp only [spec_ReadEntry.j1] at H
               replace H := Option.bind_eq_some_iff.mp H
               obtain ⟨t854, A490, H⟩ := H
               replace H : (if t854 = true then ((spec_FormEntry.f kj29 (wrap64 (bt a0 0)) x849001_29 (a0.extract 6 ((ji27) : Int).toNat) (wrap64 ((wrap64 ((wrap64 ((wrap64 ((wrap64 (bt a0 1)) * 16777216)) + (wrap64 ((wrap64 (bt a0 2)) * 65536)))) + (wrap64 ((wrap64 (bt a0 3)) * 256)))) + (wrap64 (bt a0 4)))) x849004_29 x849005_29 a1).bind fun t855 => (if t855.toList = a0.toList then (some ((wrap64 (bt a0 0)), x849001_29, (a0.extract 6 ((ji27) : Int).toNat), (wrap64 ((wrap64 ((wrap64 ((wrap64 ((wrap64 (bt a0 1)) * 16777216)) + (wrap64 ((wrap64 (bt a0 2)) * 65536)))) + (wrap64 ((wrap64 (bt a0 3)) * 256)))) + (wrap64 (bt a0 4)))), x849004_29, x849005_29, true)) else (some (0, (⟨#[]⟩ : ByteArray), (⟨#[]⟩ : ByteArray), 0, (⟨#[]⟩ : ByteArray), ([] : List ByteArray), false)))) else (some (0, (⟨#[]⟩ : ByteArray), (⟨#[]⟩ : ByteArray), 0, (⟨#[]⟩ : ByteArray), ([] : List ByteArray), false))) = some (r1, r2, r3, r4, r5, r6, r7) := H
               have A49 := Aside0.mk A490
               clear A490
               by_cases c50 : t854 = true
               ·subst c50
                have H1 : ((spec_FormEntry.f kj29 (wrap64 (bt a0 0)) x849001_29 (a0.extract 6 ((ji27) : Int).toNat) (wrap64 ((wrap64 ((wrap64 ((wrap64 ((wrap64 (bt a0 1)) * 16777216)) + (wrap64 ((wrap64 (bt a0 2)) * 65536)))) + (wrap64 ((wrap64 (bt a0 3)) * 256)))) + (wrap64 (bt a0 4)))) x849004_29 x849005_29 a1).bind fun t855 => (if t855.toList = a0.toList then (some ((wrap64 (bt a0 0)), x849001_29, (a0.extract 6 ((ji27) : Int).toNat), (wrap64 ((wrap64 ((wrap64 ((wrap64 ((wrap64 (bt a0 1)) * 16777216)) + (wrap64 ((wrap64 (bt a0 2)) * 65536)))) + (wrap64 ((wrap64 (bt a0 3)) * 256)))) + (wrap64 (bt a0 4)))), x849004_29, x849005_29, true)) else (some (0, (⟨#[]⟩ : ByteArray), (⟨#[]⟩ : ByteArray), 0, (⟨#[]⟩ : ByteArray), ([] : List ByteArray), false)))) = some (r1, r2, r3, r4, r5, r6, r7) := by rw [if_pos rfl] at H; exact H
                clear H
                have H := H1
                clear H1
                replace H := Option.bind_eq_some_iff.mp H
                obtain ⟨t855, A510, H⟩ := H
                replace H : (if t855.toList = a0.toList then (some ((wrap64 (bt a0 0)), x849001_29, (a0.extract 6 ((ji27) : Int).toNat), (wrap64 ((wrap64 ((wrap64 ((wrap64 ((wrap64 (bt a0 1)) * 16777216)) + (wrap64 ((wrap64 (bt a0 2)) * 65536)))) + (wrap64 ((wrap64 (bt a0 3)) * 256)))) + (wrap64 (bt a0 4)))), x849004_29, x849005_29, true)) else (some (0, (⟨#[]⟩ : ByteArray), (⟨#[]⟩ : ByteArray), 0, (⟨#[]⟩ : ByteArray), ([] : List ByteArray), false))) = some (r1, r2, r3, r4, r5, r6, r7) := H
                have A51 := Aside0.mk A510
                clear A510
                by_cases c52 : t855.toList = a0.toList
                ·rw [if_pos c52] at H
                 have c52b0 : (t855.toList == a0.toList) = true := beq_iff_eq.mpr c52
                 have c52b1 : (t855.toList != a0.toList) = false := bne_eq_false_iff_eq.mpr c52
                 clear c52
                 simp only [Option.some.injEq, Prod.mk.injEq] at H
                 obtain ⟨rfl, rfl, rfl, rfl, rfl, rfl, rfl⟩ := H
                 have hnb53 := NB848_846.out
                 have hnc53 := NB846_848.out
                 have hcz54_0 : wc.cell? ⟨gb848, 0, none⟩ = some (.int .i64 (wrap64 (bt a0 0))) := (blk_cell BK848.out 0).trans rfl
                 have hcz54_1 : wc.cell? ⟨gb848, 1, none⟩ = some (.string x849001_29) := (blk_cell BK848.out 1).trans rfl
                 have hcz54_2 : wc.cell? ⟨gb848, 2, none⟩ = some (.string (a0.extract 6 ((ji27) : Int).toNat)) := (blk_cell BK848.out 2).trans rfl
                 have hcz54_3 : wc.cell? ⟨gb848, 3, none⟩ = some (.int .i64 (wrap64 ((wrap64 ((wrap64 ((wrap64 ((wrap64 (bt a0 1)) * 16777216)) + (wrap64 ((wrap64 (bt a0 2)) * 65536)))) + (wrap64 ((wrap64 (bt a0 3)) * 256)))) + (wrap64 (bt a0 4))))) := (blk_cell BK848.out 3).trans rfl
                 have hcz54_4 : wc.cell? ⟨gb848, 4, none⟩ = some (.string x849004_29) := (blk_cell BK848.out 4).trans rfl
                 have hcz54_5 : wc.cell? ⟨gb848, 5, none⟩ = some (u849005) := (blk_cell BK848.out 5).trans rfl
                 have hfz54_0 := blk_frozen BK848.out 0
                 have hfz54_1 := blk_frozen BK848.out 1
                 have hfz54_2 := blk_frozen BK848.out 2
                 have hfz54_3 := blk_frozen BK848.out 3
                 have hfz54_4 := blk_frozen BK848.out 4
                 have hfz54_5 := blk_frozen BK848.out 5
                 obtain ⟨Ao55, co55, eo55⟩ := Kd.R_slice HO_849005.out
                 subst eo55
                 go_wp2_with (first | ((with_reducible refine gate_callee (f := 74) rfl ?_); refine goesL_ (some 75) rfl rfl Try.func74 (by kernel_rfl) rfl #[.agg #[.int .i64 (wrap64 (bt a0 0)), .string x849001_29, .string (a0.extract 6 ((ji27) : Int).toNat), .int .i64 (wrap64 ((wrap64 ((wrap64 ((wrap64 ((wrap64 (bt a0 1)) * 16777216)) + (wrap64 ((wrap64 (bt a0 2)) * 65536)))) + (wrap64 ((wrap64 (bt a0 3)) * 256)))) + (wrap64 (bt a0 4)))), .string x849004_29, .slice Ao55 x849005_29.length co55], .int .i64 a1] rfl (by (try simp only [List.map_toArray, List.map_cons, List.map_nil]); first | done | (simp only [hji27]; rfl) | rfl | (simp only [List.length_drop, List.length_take]; rfl)) ?_; (with_reducible refine (spec_l3Ok.calls kj29 (wrap64 (bt a0 0)) x849001_29 (a0.extract 6 ((ji27) : Int).toNat) (wrap64 ((wrap64 ((wrap64 ((wrap64 ((wrap64 (bt a0 1)) * 16777216)) + (wrap64 ((wrap64 (bt a0 2)) * 65536)))) + (wrap64 ((wrap64 (bt a0 3)) * 256)))) + (wrap64 (bt a0 4)))) x849004_29 _ _ x849005_29 a1 true _ ?side1 ?side2 A49.out).mono ?_); (case side1 => repeat (first | exact (Kd.R_reads' HO_849005.out).2.2 | (with_reducible refine Kd.C_alloc ?_ _) | (with_reducible refine Kd.C_drewN ?_ _) | (with_reducible refine Kd.C_drew ?_))); (case side2 => exact (Kd.R_reads' HO_849005.out).2.1); rintro e w56 ⟨rfl, hb⟩; refine ⟨_, rfl, ?_⟩; replace HO_849005 := am__ (Kd.R_below (rr__ HO_849005.out) hb); replace BK846 := am__ (blb__ BK846.out hb); replace BK848 := am__ (blb__ BK848.out hb); replace HB := am__ (below_step (bel__) hb); clear hb; obtain ⟨hcz57_0, hcz57_1, hcz57_2, hcz57_3, hcz57_4, hcz57_5, hfz57_0, hfz57_1, hfz57_2, hfz57_3, hfz57_4, hfz57_5⟩ := bk6__ BK848.out) | (go_at_call 43; (with_reducible refine (spec_FormEntry.calls kj29 (wrap64 (bt a0 0)) x849001_29 (a0.extract 6 ((ji27) : Int).toNat) (wrap64 ((wrap64 ((wrap64 ((wrap64 ((wrap64 (bt a0 1)) * 16777216)) + (wrap64 ((wrap64 (bt a0 2)) * 65536)))) + (wrap64 ((wrap64 (bt a0 3)) * 256)))) + (wrap64 (bt a0 4)))) x849004_29 _ _ x849005_29 a1 t855 _ ?side1 ?side2 A51.out).mono ?_); (case side1 => repeat (first | exact (Kd.R_reads' HO_849005.out).2.2 | (with_reducible refine Kd.C_alloc ?_ _) | (with_reducible refine Kd.C_drewN ?_ _) | (with_reducible refine Kd.C_drew ?_))); (case side2 => exact (Kd.R_reads' HO_849005.out).2.1); rintro e w58 ⟨rfl, hb⟩; replace HO_849005 := am__ (Kd.R_below (rr__ HO_849005.out) hb); replace BK846 := am__ (blb__ BK846.out hb); replace BK848 := am__ (blb__ BK848.out hb); replace HB := am__ (below_step (bel__) hb); clear hb; obtain ⟨hcz59_0, hcz59_1, hcz59_2, hcz59_3, hcz59_4, hcz59_5, hfz59_0, hfz59_1, hfz59_2, hfz59_3, hfz59_4, hfz59_5⟩ := bk6__ BK848.out; obtain ⟨hcz60_0, hcz60_1, hcz60_2, hcz60_3, hcz60_4, hcz60_5, hfz60_0, hfz60_1, hfz60_2, hfz60_3, hfz60_4, hfz60_5⟩ := bk6__ BK846.out))
                 refine bodyPost_ret (results_ct rfl _ _ gb846 63 #[.int .i64 (wrap64 (bt a0 0)), .string x849001_29, .string (a0.extract 6 ((ji27) : Int).toNat), .int .i64 (wrap64 ((wrap64 ((wrap64 ((wrap64 ((wrap64 (bt a0 1)) * 16777216)) + (wrap64 ((wrap64 (bt a0 2)) * 65536)))) + (wrap64 ((wrap64 (bt a0 3)) * 256)))) + (wrap64 (bt a0 4)))), .string x849004_29, .slice Ao55 x849005_29.length co55] (0, 0) _ rfl (bpu__ BK846.out) Try.underlying63 rfl (by kernel_rfl)) rfl ?_
                 exact ⟨_, by first | rfl | (simp [errW_none, errW_some] <;> rfl) | (simp only [← hji27]; first | rfl | (simp [errW_none, errW_some] <;> rfl)) | (simp [*, errW_none, errW_some] <;> rfl), by refine rps__ ?_; exact Kd.R_mono (Kd.R_far (p := ⟨gb846, 5, none⟩) (Kd.R_far (p := ⟨gb846, 4, none⟩) (Kd.R_far (p := ⟨gb846, 3, none⟩) (Kd.R_far (p := ⟨gb846, 2, none⟩) (Kd.R_far (p := ⟨gb846, 1, none⟩) (Kd.R_far (p := ⟨gb846, 0, none⟩) (Kd.R_types HO_849005.out BK846.out (by decide)) h2__ (.int .i64 (wrap64 (bt a0 0)))) h2__ (.string x849001_29)) h2__ (.string (a0.extract 6 ((ji27) : Int).toNat))) h2__ (.int .i64 (wrap64 ((wrap64 ((wrap64 ((wrap64 ((wrap64 (bt a0 1)) * 16777216)) + (wrap64 ((wrap64 (bt a0 2)) * 65536)))) + (wrap64 ((wrap64 (bt a0 3)) * 256)))) + (wrap64 (bt a0 4)))))) h2__ (.string x849004_29)) h2__ (.slice Ao55 x849005_29.length co55)) (fun _ hk => trivial), bel__⟩
                ·rw [if_neg c52] at H
                 have c52b0 : (t855.toList == a0.toList) = false := beq_eq_false_iff_ne.mpr c52
                 have c52b1 : (t855.toList != a0.toList) = true := bne_iff_ne.mpr c52
                 simp only [Option.some.injEq, Prod.mk.injEq] at H
                 obtain ⟨rfl, rfl, rfl, rfl, rfl, rfl, rfl⟩ := H
                 have hnb61 := NB848_846.out
                 have hnc61 := NB846_848.out
                 have hcz62_0 : wc.cell? ⟨gb848, 0, none⟩ = some (.int .i64 (wrap64 (bt a0 0))) := (blk_cell BK848.out 0).trans rfl
                 have hcz62_1 : wc.cell? ⟨gb848, 1, none⟩ = some (.string x849001_29) := (blk_cell BK848.out 1).trans rfl
                 have hcz62_2 : wc.cell? ⟨gb848, 2, none⟩ = some (.string (a0.extract 6 ((ji27) : Int).toNat)) := (blk_cell BK848.out 2).trans rfl
                 have hcz62_3 : wc.cell? ⟨gb848, 3, none⟩ = some (.int .i64 (wrap64 ((wrap64 ((wrap64 ((wrap64 ((wrap64 (bt a0 1)) * 16777216)) + (wrap64 ((wrap64 (bt a0 2)) * 65536)))) + (wrap64 ((wrap64 (bt a0 3)) * 256)))) + (wrap64 (bt a0 4))))) := (blk_cell BK848.out 3).trans rfl
                 have hcz62_4 : wc.cell? ⟨gb848, 4, none⟩ = some (.string x849004_29) := (blk_cell BK848.out 4).trans rfl
                 have hcz62_5 : wc.cell? ⟨gb848, 5, none⟩ = some (u849005) := (blk_cell BK848.out 5).trans rfl
                 have hfz62_0 := blk_frozen BK848.out 0
                 have hfz62_1 := blk_frozen BK848.out 1
                 have hfz62_2 := blk_frozen BK848.out 2
                 have hfz62_3 := blk_frozen BK848.out 3
                 have hfz62_4 := blk_frozen BK848.out 4
                 have hfz62_5 := blk_frozen BK848.out 5
                 obtain ⟨Ao63, co63, eo63⟩ := Kd.R_slice HO_849005.out
                 subst eo63
                 go_wp2_with (first | ((with_reducible refine gate_callee (f := 74) rfl ?_); refine goesL_ (some 75) rfl rfl Try.func74 (by kernel_rfl) rfl #[.agg #[.int .i64 (wrap64 (bt a0 0)), .string x849001_29, .string (a0.extract 6 ((ji27) : Int).toNat), .int .i64 (wrap64 ((wrap64 ((wrap64 ((wrap64 ((wrap64 (bt a0 1)) * 16777216)) + (wrap64 ((wrap64 (bt a0 2)) * 65536)))) + (wrap64 ((wrap64 (bt a0 3)) * 256)))) + (wrap64 (bt a0 4)))), .string x849004_29, .slice Ao63 x849005_29.length co63], .int .i64 a1] rfl (by (try simp only [List.map_toArray, List.map_cons, List.map_nil]); first | done | (simp only [hji27]; rfl) | rfl | (simp only [List.length_drop, List.length_take]; rfl)) ?_; (with_reducible refine (spec_l3Ok.calls kj29 (wrap64 (bt a0 0)) x849001_29 (a0.extract 6 ((ji27) : Int).toNat) (wrap64 ((wrap64 ((wrap64 ((wrap64 ((wrap64 (bt a0 1)) * 16777216)) + (wrap64 ((wrap64 (bt a0 2)) * 65536)))) + (wrap64 ((wrap64 (bt a0 3)) * 256)))) + (wrap64 (bt a0 4)))) x849004_29 _ _ x849005_29 a1 true _ ?side1 ?side2 A49.out).mono ?_); (case side1 => repeat (first | exact (Kd.R_reads' HO_849005.out).2.2 | (with_reducible refine Kd.C_alloc ?_ _) | (with_reducible refine Kd.C_drewN ?_ _) | (with_reducible refine Kd.C_drew ?_))); (case side2 => exact (Kd.R_reads' HO_849005.out).2.1); rintro e w64 ⟨rfl, hb⟩; refine ⟨_, rfl, ?_⟩; replace HO_849005 := am__ (Kd.R_below (rr__ HO_849005.out) hb); replace BK846 := am__ (blb__ BK846.out hb); replace BK848 := am__ (blb__ BK848.out hb); replace HB := am__ (below_step (bel__) hb); clear hb; obtain ⟨hcz65_0, hcz65_1, hcz65_2, hcz65_3, hcz65_4, hcz65_5, hfz65_0, hfz65_1, hfz65_2, hfz65_3, hfz65_4, hfz65_5⟩ := bk6__ BK848.out) | (go_at_call 43; (with_reducible refine (spec_FormEntry.calls kj29 (wrap64 (bt a0 0)) x849001_29 (a0.extract 6 ((ji27) : Int).toNat) (wrap64 ((wrap64 ((wrap64 ((wrap64 ((wrap64 (bt a0 1)) * 16777216)) + (wrap64 ((wrap64 (bt a0 2)) * 65536)))) + (wrap64 ((wrap64 (bt a0 3)) * 256)))) + (wrap64 (bt a0 4)))) x849004_29 _ _ x849005_29 a1 t855 _ ?side1 ?side2 A51.out).mono ?_); (case side1 => repeat (first | exact (Kd.R_reads' HO_849005.out).2.2 | (with_reducible refine Kd.C_alloc ?_ _) | (with_reducible refine Kd.C_drewN ?_ _) | (with_reducible refine Kd.C_drew ?_))); (case side2 => exact (Kd.R_reads' HO_849005.out).2.1); rintro e w66 ⟨rfl, hb⟩; replace HO_849005 := am__ (Kd.R_below (rr__ HO_849005.out) hb); replace BK846 := am__ (blb__ BK846.out hb); replace BK848 := am__ (blb__ BK848.out hb); replace HB := am__ (below_step (bel__) hb); clear hb; obtain ⟨hcz67_0, hcz67_1, hcz67_2, hcz67_3, hcz67_4, hcz67_5, hfz67_0, hfz67_1, hfz67_2, hfz67_3, hfz67_4, hfz67_5⟩ := bk6__ BK846.out))
                 refine bodyPost_ret (results_ct rfl _ _ gb846 63 #[.int .i64 0, .string (⟨#[]⟩ : ByteArray), .string (⟨#[]⟩ : ByteArray), .int .i64 0, .string (⟨#[]⟩ : ByteArray), .slice none 0 0] (0, 0) _ rfl (bpu__ BK846.out) Try.underlying63 rfl (by kernel_rfl)) rfl ?_
                 exact ⟨_, by first | rfl | (simp [errW_none, errW_some] <;> rfl) | (simp only [← hji27]; first | rfl | (simp [errW_none, errW_some] <;> rfl)) | (simp [*, errW_none, errW_some] <;> rfl), by first | exact Kd.R_nil _ _ _ _ _ | exact Kd.N_nil _ _ _ _ _ | exact Kd.V_nil _ _ _ _ _ | exact Kd.Q_nil _ _ _ _ _ | exact Kd.S_nil _ _ _ _ _, bel__⟩
               ·replace c50 := Bool.eq_false_iff.mpr c50
                subst c50
                have H1 : (some (0, (⟨#[]⟩ : ByteArray), (⟨#[]⟩ : ByteArray), 0, (⟨#[]⟩ : ByteArray), ([] : List ByteArray), false)) = some (r1, r2, r3, r4, r5, r6, r7) := by rw [if_neg (show ¬ (false = true) by decide)] at H; exact H
                clear H
                have H := H1
                clear H1
                simp only [Option.some.injEq, Prod.mk.injEq] at H
                obtain ⟨rfl, rfl, rfl, rfl, rfl, rfl, rfl⟩ := H
                have hnb68 := NB848_846.out
                have hnc68 := NB846_848.out
                have hcz69_0 : wc.cell? ⟨gb848, 0, none⟩ = some (.int .i64 (wrap64 (bt a0 0))) := (blk_cell BK848.out 0).trans rfl
                have hcz69_1 : wc.cell? ⟨gb848, 1, none⟩ = some (.string x849001_29) := (blk_cell BK848.out 1).trans rfl
                have hcz69_2 : wc.cell? ⟨gb848, 2, none⟩ = some (.string (a0.extract 6 ((ji27) : Int).toNat)) := (blk_cell BK848.out 2).trans rfl
                have hcz69_3 : wc.cell? ⟨gb848, 3, none⟩ = some (.int .i64 (wrap64 ((wrap64 ((wrap64 ((wrap64 ((wrap64 (bt a0 1)) * 16777216)) + (wrap64 ((wrap64 (bt a0 2)) * 65536)))) + (wrap64 ((wrap64 (bt a0 3)) * 256)))) + (wrap64 (bt a0 4))))) := (blk_cell BK848.out 3).trans rfl
                have hcz69_4 : wc.cell? ⟨gb848, 4, none⟩ = some (.string x849004_29) := (blk_cell BK848.out 4).trans rfl
                have hcz69_5 : wc.cell? ⟨gb848, 5, none⟩ = some (u849005) := (blk_cell BK848.out 5).trans rfl
                have hfz69_0 := blk_frozen BK848.out 0
                have hfz69_1 := blk_frozen BK848.out 1
                have hfz69_2 := blk_frozen BK848.out 2
                have hfz69_3 := blk_frozen BK848.out 3
                have hfz69_4 := blk_frozen BK848.out 4
                have hfz69_5 := blk_frozen BK848.out 5
                obtain ⟨Ao70, co70, eo70⟩ := Kd.R_slice HO_849005.out
                subst eo70
                go_wp2_with (first | ((with_reducible refine gate_callee (f := 74) rfl ?_); refine goesL_ (some 75) rfl rfl Try.func74 (by kernel_rfl) rfl #[.agg #[.int .i64 (wrap64 (bt a0 0)), .string x849001_29, .string (a0.extract 6 ((ji27) : Int).toNat), .int .i64 (wrap64 ((wrap64 ((wrap64 ((wrap64 ((wrap64 (bt a0 1)) * 16777216)) + (wrap64 ((wrap64 (bt a0 2)) * 65536)))) + (wrap64 ((wrap64 (bt a0 3)) * 256)))) + (wrap64 (bt a0 4)))), .string x849004_29, .slice Ao70 x849005_29.length co70], .int .i64 a1] rfl (by (try simp only [List.map_toArray, List.map_cons, List.map_nil]); first | done | (simp only [hji27]; rfl) | rfl | (simp only [List.length_drop, List.length_take]; rfl)) ?_; (with_reducible refine (spec_l3Ok.calls kj29 (wrap64 (bt a0 0)) x849001_29 (a0.extract 6 ((ji27) : Int).toNat) (wrap64 ((wrap64 ((wrap64 ((wrap64 ((wrap64 (bt a0 1)) * 16777216)) + (wrap64 ((wrap64 (bt a0 2)) * 65536)))) + (wrap64 ((wrap64 (bt a0 3)) * 256)))) + (wrap64 (bt a0 4)))) x849004_29 _ _ x849005_29 a1 false _ ?side1 ?side2 A49.out).mono ?_); (case side1 => repeat (first | exact (Kd.R_reads' HO_849005.out).2.2 | (with_reducible refine Kd.C_alloc ?_ _) | (with_reducible refine Kd.C_drewN ?_ _) | (with_reducible refine Kd.C_drew ?_))); (case side2 => exact (Kd.R_reads' HO_849005.out).2.1); rintro e w71 ⟨rfl, hb⟩; refine ⟨_, rfl, ?_⟩; replace HO_849005 := am__ (Kd.R_below (rr__ HO_849005.out) hb); replace BK846 := am__ (blb__ BK846.out hb); replace BK848 := am__ (blb__ BK848.out hb); replace HB := am__ (below_step (bel__) hb); clear hb; obtain ⟨hcz72_0, hcz72_1, hcz72_2, hcz72_3, hcz72_4, hcz72_5, hfz72_0, hfz72_1, hfz72_2, hfz72_3, hfz72_4, hfz72_5⟩ := bk6__ BK846.out))
                refine bodyPost_ret (results_ct rfl _ _ gb846 63 #[.int .i64 0, .string (⟨#[]⟩ : ByteArray), .string (⟨#[]⟩ : ByteArray), .int .i64 0, .string (⟨#[]⟩ : ByteArray), .slice none 0 0] (0, 0) _ rfl (bpu__ BK846.out) Try.underlying63 rfl (by kernel_rfl)) rfl ?_
                exact ⟨_, by first | rfl | (simp [errW_none, errW_some] <;> rfl) | (simp only [← hji27]; first | rfl | (simp [errW_none, errW_some] <;> rfl)) | (simp [*, errW_none, errW_some] <;> rfl), by first | exact Kd.R_nil _ _ _ _ _ | exact Kd.N_nil _ _ _ _ _ | exact Kd.V_nil _ _ _ _ _ | exact Kd.Q_nil _ _ _ _ _ | exact Kd.S_nil _ _ _ _ _, bel__⟩
            ·rw [if_neg c28] at H
             exact absurd H (by simp)
           ·rw [if_neg c25] at H
            exact absurd H (by simp)
          ·rw [if_neg c24] at H
           exact absurd H (by simp)
         ·rw [if_neg c22] at H
          exact absurd H (by simp)
        ·rw [if_neg c20] at H
         exact absurd H (by simp)
       ·rw [if_neg c18] at H
        exact absurd H (by simp)
      ·rw [if_neg c16] at H
       exact absurd H (by simp)
     ·rw [if_neg c14] at H
      exact absurd H (by simp)
    ·rw [if_neg c12] at H
     exact absurd H (by simp)
end Go.Proofs.Ytpnblgbkjbpeoaa.P

/- Words beside the print's: '[]byte(s)' as one step of a region that draws its order. -/
namespace Go.Proofs.YtpnblgbkjbpeoaaW.PrintWords
open Go.RowKit
section
variable {P : Program} {ops : Array Oper} {o : Oper} {a : Act} {Q : Exit → Act → World → Prop} {Kc : Act → World → Prop}
theorem bytes_C (W : World) (e : TypeId) (s : ByteArray) (hs : s.size ≤ 9223372036854775807) : Kd.C (Kd.int .u8) (Lib.bytesWorld W e s) (some ⟨W.heap.size, 0, none⟩) (bytesOf s).length (bytesOf s) := by
  have h := bytes_reads W e s hs
  rw [← bytesOf_length s] at h
  exact Kd.C_of_reads h
theorem bytes_step {W : World} (hw : Region.wanted o (yielded ops a.tmps) = true) {N : Tmp} (_hd : o.dst = some N) {src dst e : TypeId} {u : TypeDesc} {x : Operand} {s : ByteArray} (ho : o.op = .convert src dst x) (hx : a.eval x = .string s)
    (h1 : P.underlying src = some u) (h2 : P.underlying dst = some (.slice e)) (h3 : P.underlying e = some (.int .u8)) (hs : s.size ≤ 9223372036854775807)
    (h : ∀ A c w1, Kd.C (Kd.int .u8) w1 A (bytesOf s).length (bytesOf s) → (bytesOf s).length ≤ c → Below W.heap.size W w1 → Kc (a.put o.dst (.slice A (bytesOf s).length c)) w1) :
    if Region.wanted o (yielded ops a.tmps) = true then Oper.wp P o a W Kc Q else Kc (a.put o.dst undef) W := by
  have hr := print_bytes (P := P) src dst e h1 h2 h3 s W
  refine event_step (v := .slice (some ⟨W.heap.size, 0, none⟩) (bytesOf s).length (grownCap W s.size 0 e)) (w1 := Lib.bytesWorld W e s) hw ?_ (h _ _ _ (bytes_C W e s hs) ?_ (bytes_below (Below.refl _ _) (Nat.le_refl _) e s))
  · unfold execOp
    simp only [ho, hx, Sem.run_bind, Sem.run_pure, hr, Result.andThen_ok, bytesOf_length]
  · rw [bytesOf_length]; exact grownCap_ge W s.size 0 e
end
end Go.Proofs.YtpnblgbkjbpeoaaW.PrintWords

namespace Go.Proofs.Ytpnblgbkjbpeoaa.P
open Go.RowKit Go.Proofs.YtpnblgbkjbpeoaaW.PrintWords Go.Proofs.YtpnblgbkjbpeoaaW.PrintLast Go.Proofs.YtpnblgbkjbpeoaaW.PrintMore
attribute [local go_sem] max2_int min2_int max_two min_two max_three min_three max_four min_four   -- for this text's walks alone
set_option linter.unusedVariables false
set_option linter.unusedSimpArgs false
/-! ### binary_bigEndian_Uint32: function 77 -/
def binary_bigEndian_Uint32.f  (l1 : List Int) : Option (Int) := if 3 < (l1.length : Int) then (if 2 < (l1.length : Int) then (if 1 < (l1.length : Int) then (if 0 < (l1.length : Int) then (some (Go.bits .or .u32 (Go.bits .or .u32 (Go.bits .or .u32 ((rd l1 3) % 4294967296) ((((rd l1 2) % 4294967296) * 256) % 4294967296)) ((((rd l1 1) % 4294967296) * 65536) % 4294967296)) ((((rd l1 0) % 4294967296) * 16777216) % 4294967296))) else (none)) else (none)) else (none)) else (none)
set_option maxHeartbeats 8000000 in
set_option maxRecDepth 100000 in
theorem binary_bigEndian_Uint32.calls  (A1 : Option Addr) (c1 : Nat) (l1 : List Int) (r : Int) (w : World) (hr1 : Kd.C (Kd.int .u8) w A1 l1.length l1) (hc1 : l1.length ≤ c1) (h : binary_bigEndian_Uint32.f l1 = some r) :
  Calls Try.prog 77 #[.agg #[], .slice A1 l1.length c1] w fun e w' => e = .returned (.int .u32 r) ∧ Below w.heap.size w w' := by
 have hu92 := Try.underlying92
 have HR1 := Aside0.mk hr1
 have HC1 := Aside0.mk hc1
 clear hr1 hc1
 have HB := am__ (Below.refl w.heap.size w)
 have H : (if 3 < (l1.length : Int) then (if 2 < (l1.length : Int) then (if 1 < (l1.length : Int) then (if 0 < (l1.length : Int) then (some (Go.bits .or .u32 (Go.bits .or .u32 (Go.bits .or .u32 ((rd l1 3) % 4294967296) ((((rd l1 2) % 4294967296) * 256) % 4294967296)) ((((rd l1 1) % 4294967296) * 65536) % 4294967296)) ((((rd l1 0) % 4294967296) * 16777216) % 4294967296))) else (none)) else (none)) else (none)) else (none)) = some r := h
 clear h
 by_cases c3 : 3 < (l1.length : Int)
 ·rw [if_pos c3] at H
  have c3b0 : decide (3 < (l1.length : Int)) = true := decide_eq_true c3
  have c3b1 : decide (3 < l1.length) = true := decide_eq_true (by omega)
  clear c3
  by_cases c4 : 2 < (l1.length : Int)
  ·rw [if_pos c4] at H
   have c4b0 : decide (2 < (l1.length : Int)) = true := decide_eq_true c4
   have c4b1 : decide (2 < l1.length) = true := decide_eq_true (by omega)
   clear c4
   by_cases c5 : 1 < (l1.length : Int)
   ·rw [if_pos c5] at H
    have c5b0 : decide (1 < (l1.length : Int)) = true := decide_eq_true c5
    have c5b1 : decide (1 < l1.length) = true := decide_eq_true (by omega)
    clear c5
    by_cases c6 : 0 < (l1.length : Int)
    ·rw [if_pos c6] at H
     have c6b0 : decide (0 < (l1.length : Int)) = true := decide_eq_true c6
     have c6b1 : decide (0 < l1.length) = true := decide_eq_true (by omega)
     clear c6
     obtain rfl := Option.some.inj H
     go_enter Try.func77, Try.ntmps77
     go_wp2_with (first | ((with_reducible refine gate_dst (N := 2) rfl ?_); refine be__ 2 #[] 92 ?_; intro gb856 hg w7 hbox hb; have BK856 := am__ (hbox); have GW856 := am__ ((bsz__ hg bel__ : w.heap.size ≤ gb856)); have GE856 := am__ ((bsz__ hg bel__ : w.heap.size ≤ gb856)); replace HB := am__ (below_step (bel__) hb); clear hb hbox hg; have p857 : 0 ≤ (3 : Int) := (by omega); have q857 : 3 < (l1.length : Int) := of_decide_eq_true (by first | (with_reducible assumption) | assumption); obtain ⟨ad857, e857, hx857_0⟩ := Kd.at_int HR1.out 3 p857 q857; cases e857; (try simp only [show (3 : Int).toNat = 3 from rfl, Nat.reduceMul, Nat.reduceEqDiff, Go.Addr.add, ↓reduceIte] at hx857_0); have qi857 : (3 < l1.length) = True := eq_true (by omega); (try rw [show ((3 : Int)).toNat = 3 from rfl] at hx857_0); replace hx857_0 := (HB.out.cell (World.block_lt_of_cell? w _ hx857_0)).trans hx857_0; replace p857 := eq_true p857; replace q857 := eq_true q857; have p858 : 0 ≤ (3 : Int) := (by omega); have q858 : 3 < (l1.length : Int) := of_decide_eq_true (by first | (with_reducible assumption) | assumption); obtain ⟨ad858, e858, hx858_0⟩ := Kd.at_int HR1.out 3 p858 q858; obtain rfl : ad857 = ad858 := (by injection e858); (try simp only [show (3 : Int).toNat = 3 from rfl, Nat.reduceMul, Nat.reduceEqDiff, Go.Addr.add, ↓reduceIte] at hx858_0); have qi858 : (3 < l1.length) = True := eq_true (by omega); (try rw [show ((3 : Int)).toNat = 3 from rfl] at hx858_0); replace hx858_0 := (HB.out.cell (World.block_lt_of_cell? w _ hx858_0)).trans hx858_0; replace p858 := eq_true p858; replace q858 := eq_true q858; have p859 : 0 ≤ (2 : Int) := (by omega); have q859 : 2 < (l1.length : Int) := of_decide_eq_true (by first | (with_reducible assumption) | assumption); obtain ⟨ad859, e859, hx859_0⟩ := Kd.at_int HR1.out 2 p859 q859; obtain rfl : ad857 = ad859 := (by injection e859); (try simp only [show (2 : Int).toNat = 2 from rfl, Nat.reduceMul, Nat.reduceEqDiff, Go.Addr.add, ↓reduceIte] at hx859_0); have qi859 : (2 < l1.length) = True := eq_true (by omega); (try rw [show ((2 : Int)).toNat = 2 from rfl] at hx859_0); replace hx859_0 := (HB.out.cell (World.block_lt_of_cell? w _ hx859_0)).trans hx859_0; replace p859 := eq_true p859; replace q859 := eq_true q859; have p860 : 0 ≤ (1 : Int) := (by omega); have q860 : 1 < (l1.length : Int) := of_decide_eq_true (by first | (with_reducible assumption) | assumption); obtain ⟨ad860, e860, hx860_0⟩ := Kd.at_int HR1.out 1 p860 q860; obtain rfl : ad857 = ad860 := (by injection e860); (try simp only [show (1 : Int).toNat = 1 from rfl, Nat.reduceMul, Nat.reduceEqDiff, Go.Addr.add, ↓reduceIte] at hx860_0); have qi860 : (1 < l1.length) = True := eq_true (by omega); (try rw [show ((1 : Int)).toNat = 1 from rfl] at hx860_0); replace hx860_0 := (HB.out.cell (World.block_lt_of_cell? w _ hx860_0)).trans hx860_0; replace p860 := eq_true p860; replace q860 := eq_true q860; have p861 : 0 ≤ (0 : Int) := (by omega); have q861 : 0 < (l1.length : Int) := of_decide_eq_true (by first | (with_reducible assumption) | assumption); obtain ⟨ad861, e861, hx861_0⟩ := Kd.at_int HR1.out 0 p861 q861; obtain rfl : ad857 = ad861 := (by injection e861); have qi861 : (0 < l1.length) = True := eq_true (by omega); (try rw [show ((0 : Int)).toNat = 0 from rfl] at hx861_0); (try rw [Addr.add_zero'] at hx861_0); replace hx861_0 := (HB.out.cell (World.block_lt_of_cell? w _ hx861_0)).trans hx861_0; replace p861 := eq_true p861; replace q861 := eq_true q861))
     repeat (go_quiet (first | ((with_reducible refine gate_dst (N := 2) rfl ?_); refine be__ 2 #[] 92 ?_; intro gb856 hg w7 hbox hb; have BK856 := am__ (hbox); have GW856 := am__ ((bsz__ hg bel__ : w.heap.size ≤ gb856)); have GE856 := am__ ((bsz__ hg bel__ : w.heap.size ≤ gb856)); replace HB := am__ (below_step (bel__) hb); clear hb hbox hg; have p857 : 0 ≤ (3 : Int) := (by omega); have q857 : 3 < (l1.length : Int) := of_decide_eq_true (by first | (with_reducible assumption) | assumption); obtain ⟨ad857, e857, hx857_0⟩ := Kd.at_int HR1.out 3 p857 q857; cases e857; (try simp only [show (3 : Int).toNat = 3 from rfl, Nat.reduceMul, Nat.reduceEqDiff, Go.Addr.add, ↓reduceIte] at hx857_0); have qi857 : (3 < l1.length) = True := eq_true (by omega); (try rw [show ((3 : Int)).toNat = 3 from rfl] at hx857_0); replace hx857_0 := (HB.out.cell (World.block_lt_of_cell? w _ hx857_0)).trans hx857_0; replace p857 := eq_true p857; replace q857 := eq_true q857; have p858 : 0 ≤ (3 : Int) := (by omega); have q858 : 3 < (l1.length : Int) := of_decide_eq_true (by first | (with_reducible assumption) | assumption); obtain ⟨ad858, e858, hx858_0⟩ := Kd.at_int HR1.out 3 p858 q858; obtain rfl : ad857 = ad858 := (by injection e858); (try simp only [show (3 : Int).toNat = 3 from rfl, Nat.reduceMul, Nat.reduceEqDiff, Go.Addr.add, ↓reduceIte] at hx858_0); have qi858 : (3 < l1.length) = True := eq_true (by omega); (try rw [show ((3 : Int)).toNat = 3 from rfl] at hx858_0); replace hx858_0 := (HB.out.cell (World.block_lt_of_cell? w _ hx858_0)).trans hx858_0; replace p858 := eq_true p858; replace q858 := eq_true q858; have p859 : 0 ≤ (2 : Int) := (by omega); have q859 : 2 < (l1.length : Int) := of_decide_eq_true (by first | (with_reducible assumption) | assumption); obtain ⟨ad859, e859, hx859_0⟩ := Kd.at_int HR1.out 2 p859 q859; obtain rfl : ad857 = ad859 := (by injection e859); (try simp only [show (2 : Int).toNat = 2 from rfl, Nat.reduceMul, Nat.reduceEqDiff, Go.Addr.add, ↓reduceIte] at hx859_0); have qi859 : (2 < l1.length) = True := eq_true (by omega); (try rw [show ((2 : Int)).toNat = 2 from rfl] at hx859_0); replace hx859_0 := (HB.out.cell (World.block_lt_of_cell? w _ hx859_0)).trans hx859_0; replace p859 := eq_true p859; replace q859 := eq_true q859; have p860 : 0 ≤ (1 : Int) := (by omega); have q860 : 1 < (l1.length : Int) := of_decide_eq_true (by first | (with_reducible assumption) | assumption); obtain ⟨ad860, e860, hx860_0⟩ := Kd.at_int HR1.out 1 p860 q860; obtain rfl : ad857 = ad860 := (by injection e860); (try simp only [show (1 : Int).toNat = 1 from rfl, Nat.reduceMul, Nat.reduceEqDiff, Go.Addr.add, ↓reduceIte] at hx860_0); have qi860 : (1 < l1.length) = True := eq_true (by omega); (try rw [show ((1 : Int)).toNat = 1 from rfl] at hx860_0); replace hx860_0 := (HB.out.cell (World.block_lt_of_cell? w _ hx860_0)).trans hx860_0; replace p860 := eq_true p860; replace q860 := eq_true q860; have p861 : 0 ≤ (0 : Int) := (by omega); have q861 : 0 < (l1.length : Int) := of_decide_eq_true (by first | (with_reducible assumption) | assumption); obtain ⟨ad861, e861, hx861_0⟩ := Kd.at_int HR1.out 0 p861 q861; obtain rfl : ad857 = ad861 := (by injection e861); have qi861 : (0 < l1.length) = True := eq_true (by omega); (try rw [show ((0 : Int)).toNat = 0 from rfl] at hx861_0); (try rw [Addr.add_zero'] at hx861_0); replace hx861_0 := (HB.out.cell (World.block_lt_of_cell? w _ hx861_0)).trans hx861_0; replace p861 := eq_true p861; replace q861 := eq_true q861)); try go_wp2_with (first | ((with_reducible refine gate_dst (N := 2) rfl ?_); refine be__ 2 #[] 92 ?_; intro gb856 hg w7 hbox hb; have BK856 := am__ (hbox); have GW856 := am__ ((bsz__ hg bel__ : w.heap.size ≤ gb856)); have GE856 := am__ ((bsz__ hg bel__ : w.heap.size ≤ gb856)); replace HB := am__ (below_step (bel__) hb); clear hb hbox hg; have p857 : 0 ≤ (3 : Int) := (by omega); have q857 : 3 < (l1.length : Int) := of_decide_eq_true (by first | (with_reducible assumption) | assumption); obtain ⟨ad857, e857, hx857_0⟩ := Kd.at_int HR1.out 3 p857 q857; cases e857; (try simp only [show (3 : Int).toNat = 3 from rfl, Nat.reduceMul, Nat.reduceEqDiff, Go.Addr.add, ↓reduceIte] at hx857_0); have qi857 : (3 < l1.length) = True := eq_true (by omega); (try rw [show ((3 : Int)).toNat = 3 from rfl] at hx857_0); replace hx857_0 := (HB.out.cell (World.block_lt_of_cell? w _ hx857_0)).trans hx857_0; replace p857 := eq_true p857; replace q857 := eq_true q857; have p858 : 0 ≤ (3 : Int) := (by omega); have q858 : 3 < (l1.length : Int) := of_decide_eq_true (by first | (with_reducible assumption) | assumption); obtain ⟨ad858, e858, hx858_0⟩ := Kd.at_int HR1.out 3 p858 q858; obtain rfl : ad857 = ad858 := (by injection e858); (try simp only [show (3 : Int).toNat = 3 from rfl, Nat.reduceMul, Nat.reduceEqDiff, Go.Addr.add, ↓reduceIte] at hx858_0); have qi858 : (3 < l1.length) = True := eq_true (by omega); (try rw [show ((3 : Int)).toNat = 3 from rfl] at hx858_0); replace hx858_0 := (HB.out.cell (World.block_lt_of_cell? w _ hx858_0)).trans hx858_0; replace p858 := eq_true p858; replace q858 := eq_true q858; have p859 : 0 ≤ (2 : Int) := (by omega); have q859 : 2 < (l1.length : Int) := of_decide_eq_true (by first | (with_reducible assumption) | assumption); obtain ⟨ad859, e859, hx859_0⟩ := Kd.at_int HR1.out 2 p859 q859; obtain rfl : ad857 = ad859 := (by injection e859); (try simp only [show (2 : Int).toNat = 2 from rfl, Nat.reduceMul, Nat.reduceEqDiff, Go.Addr.add, ↓reduceIte] at hx859_0); have qi859 : (2 < l1.length) = True := eq_true (by omega); (try rw [show ((2 : Int)).toNat = 2 from rfl] at hx859_0); replace hx859_0 := (HB.out.cell (World.block_lt_of_cell? w _ hx859_0)).trans hx859_0; replace p859 := eq_true p859; replace q859 := eq_true q859; have p860 : 0 ≤ (1 : Int) := (by omega); have q860 : 1 < (l1.length : Int) := of_decide_eq_true (by first | (with_reducible assumption) | assumption); obtain ⟨ad860, e860, hx860_0⟩ := Kd.at_int HR1.out 1 p860 q860; obtain rfl : ad857 = ad860 := (by injection e860); (try simp only [show (1 : Int).toNat = 1 from rfl, Nat.reduceMul, Nat.reduceEqDiff, Go.Addr.add, ↓reduceIte] at hx860_0); have qi860 : (1 < l1.length) = True := eq_true (by omega); (try rw [show ((1 : Int)).toNat = 1 from rfl] at hx860_0); replace hx860_0 := (HB.out.cell (World.block_lt_of_cell? w _ hx860_0)).trans hx860_0; replace p860 := eq_true p860; replace q860 := eq_true q860; have p861 : 0 ≤ (0 : Int) := (by omega); have q861 : 0 < (l1.length : Int) := of_decide_eq_true (by first | (with_reducible assumption) | assumption); obtain ⟨ad861, e861, hx861_0⟩ := Kd.at_int HR1.out 0 p861 q861; obtain rfl : ad857 = ad861 := (by injection e861); have qi861 : (0 < l1.length) = True := eq_true (by omega); (try rw [show ((0 : Int)).toNat = 0 from rfl] at hx861_0); (try rw [Addr.add_zero'] at hx861_0); replace hx861_0 := (HB.out.cell (World.block_lt_of_cell? w _ hx861_0)).trans hx861_0; replace p861 := eq_true p861; replace q861 := eq_true q861)))
     go_ret
     exact ⟨by first | rfl | (simp [errW_none, errW_some] <;> rfl) | (simp [*, errW_none, errW_some] <;> rfl), bel__⟩
    ·rw [if_neg c6] at H
     exact absurd H (by simp)
   ·rw [if_neg c5] at H
    exact absurd H (by simp)
  ·rw [if_neg c4] at H
   exact absurd H (by simp)
 ·rw [if_neg c3] at H
  exact absurd H (by simp)
end Go.Proofs.Ytpnblgbkjbpeoaa.P
