/- Part 6 of the proof of FnExactSyncSaid: what it leans on. -/
import Derived.Test.YtpnblgbkjbpeoaaM1
import Derived.Test.YtpnblgbkjbpeoaaM2
import Derived.Test.YtpnblgbkjbpeoaaM3
import Derived.Test.YtpnblgbkjbpeoaaM4
import Derived.Test.YtpnblgbkjbpeoaaM5

namespace Go.Proofs.Ytpnblgbkjbpeoaa.P
open Go.RowKit Go.Proofs.YtpnblgbkjbpeoaaW.PrintWords Go.Proofs.YtpnblgbkjbpeoaaW.PrintLast Go.Proofs.YtpnblgbkjbpeoaaW.PrintMore
attribute [local go_sem] max2_int min2_int max_two min_two max_three min_three max_four min_four   -- for this text's walks alone
set_option linter.unusedVariables false
set_option linter.unusedSimpArgs false

/-! ### impl_Append: function 38 -/
def impl_Append.j0 : Nat → ByteArray → Bool → List ByteArray → List ByteArray → Option (List ByteArray × List ByteArray × Int)
  | 0, _, _, _, _ => none
  | k + 1, x1, x13, x517000, x517001 => if x13 = true then (some (([] : List ByteArray), ([] : List ByteArray), 1)) else (if (wrap64 ((x517000.length : Int) + (x517001.length : Int))) = 4000 then (some (([] : List ByteArray), ([] : List ByteArray), 2)) else ((impl_copied.f x517000).bind fun t520 => ((impl_copied.f x517001).bind fun t523 => ((some (([x1] : List ByteArray) : List ByteArray)).bind fun y526 => (if t523.length + y526.length < 8796093022208 then (some (t520, (t523 ++ y526), 0)) else (none))))))
def impl_Append.f (k : Nat) (l0_0 : List ByteArray) (l0_1 : List ByteArray) (a1 : ByteArray) : Option (List ByteArray × List ByteArray × Int) := (impl_ValidLog.f k l0_0 l0_1).bind fun t518 => (if t518 = true then ((impl_entryFits.f a1).bind fun t519 => (impl_Append.j0 k a1 (!t519) l0_0 l0_1)) else (impl_Append.j0 k a1 true l0_0 l0_1))
theorem impl_Append.mono_l : ∀ k, (∀ y0 y1 y2 y3, LeO (impl_Append.j0 k y0 y1 y2 y3) (impl_Append.j0 (k + 1) y0 y1 y2 y3))
  | 0 => fun _ _ _ _ r h => by simp [impl_Append.j0] at h
  | k + 1 => by
    have ih0 := impl_Append.mono_l k
    · intro y0 y1 y2 y3
      unfold impl_Append.j0
      repeat' first
      | (with_reducible exact ih0 _ _ _ _)
      | (with_reducible exact impl_ValidLog.mono _ _ _)
      | (with_reducible exact LeO.refl _)
      | (with_reducible exact LeO.none _)
      | (with_reducible refine LeO.ite ?_ ?_)
      | (with_reducible refine LeO.bind ?_ (fun _ => ?_))
      | exact ih0 _ _ _ _
      | exact impl_ValidLog.mono _ _ _
      | exact LeO.none _
      | refine LeO.ite ?_ ?_
      | refine LeO.bind ?_ (fun _ => ?_)
theorem impl_Append.mono : ∀ a0 a1 a2 k, LeO (impl_Append.f k a0 a1 a2) (impl_Append.f (k + 1) a0 a1 a2) := by
  intro a0 a1 a2 k
  have ih0 := impl_Append.mono_l k
  unfold impl_Append.f
  repeat' first
      | (with_reducible exact ih0 _ _ _ _)
      | (with_reducible exact impl_ValidLog.mono _ _ _)
      | (with_reducible exact LeO.refl _)
      | (with_reducible exact LeO.none _)
      | (with_reducible refine LeO.ite ?_ ?_)
      | (with_reducible refine LeO.bind ?_ (fun _ => ?_))
      | exact ih0 _ _ _ _
      | exact impl_ValidLog.mono _ _ _
      | exact LeO.none _
      | refine LeO.ite ?_ ?_
      | refine LeO.bind ?_ (fun _ => ?_)
def impl_Append.T5 : Bool × List (List Nat × List Nat) := (true, [([], []), ([0], [0]), ([1], [1]), ([], []), ([3], [3]), ([4, 2], [4]), ([], []), ([6], [6]), ([5, 7, 5], [5, 7]), ([2, 8], [2, 8]), ([9, 8, 0, 1, 2, 3, 4, 5, 6, 7, 8, 9], [9]), ([10, 0, 1, 2, 3, 4, 5, 6, 7, 8, 9, 10], [])])
def impl_Append.B5 : List Nat := [0, 1, 3, 0, 8, 31, 0, 64, 255, 511, 1023, 2047]
theorem impl_Append.tab5 : rtab .any (opsOf Try.f38 5) = impl_Append.T5 := by kernel_rfl
theorem impl_Append.bits5 : waitsOk impl_Append.T5.2 impl_Append.B5 = true := by kernel_rfl
set_option maxHeartbeats 8000000 in
set_option maxRecDepth 100000 in
theorem impl_Append.calls (k : Nat) (A0_0 : Option Addr) (c0_0 : Nat) (l0_0 : List ByteArray) (A0_1 : Option Addr) (c0_1 : Nat) (l0_1 : List ByteArray) (a1 : ByteArray) (r1 : List ByteArray) (r2 : List ByteArray) (r3 : Int) (w : World) (hr0_0 : Kd.C Kd.string w A0_0 l0_0.length l0_0) (hc0_0 : l0_0.length ≤ c0_0) (hr0_1 : Kd.C Kd.string w A0_1 l0_1.length l0_1) (hc0_1 : l0_1.length ≤ c0_1) (h : impl_Append.f k l0_0 l0_1 a1 = some (r1, r2, r3)) :
    Calls Try.prog 38 #[.agg #[.slice A0_0 l0_0.length c0_0, .slice A0_1 l0_1.length c0_1], .string a1] w fun e w' => ∃ v0_ v1_ : Value, e = .returned (.tuple #[.agg #[v0_, v1_], .int .i64 r3]) ∧ Kd.R Kd.string 9 w' w.heap.size (fun k_ => some k_ ≠ (v1_ : Value).ownBlock) v0_ r1 ∧ Kd.R Kd.string 9 w' w.heap.size (fun k_ => some k_ ≠ (v0_ : Value).ownBlock) v1_ r2 ∧ Below w.heap.size w w' := by
  have hu30 := Try.underlying30
  have HR0_0 := Aside0.mk hr0_0
  have HC0_0 := Aside0.mk hc0_0
  clear hr0_0 hc0_0
  have HR0_1 := Aside0.mk hr0_1
  have HC0_1 := Aside0.mk hc0_1
  clear hr0_1 hc0_1
  have HB := Aside0.mk (Below.refl w.heap.size w)
  have H : ((impl_ValidLog.f k l0_0 l0_1).bind fun t518 => (if t518 = true then ((impl_entryFits.f a1).bind fun t519 => (impl_Append.j0 k a1 (!t519) l0_0 l0_1)) else (impl_Append.j0 k a1 true l0_0 l0_1))) = some (r1, r2, r3) := h
  clear h
  have HC3 := Aside0.mk H
  clear H
  go_enter Try.func38, Try.ntmps38
  go_upto_region 1 with (first | ((with_reducible refine gate_dst (N := 2) rfl ?_); refine box_event ?hg (N := 2) ?hd (cs := #[.slice A0_0 l0_0.length c0_0, .slice A0_1 l0_1.length c0_1]) (t := 30) ?hr ?_; (case hd => rfl); (case hg => rfl); (case hr => first | (go_simp; done) | (go_simp; rfl)); intro gb516 hg w4 hbox hb; have n0_ := Aside0.mk (below_step (by repeat (first | (with_reducible first | exact HB.out | apply below_alloc | apply pw_below_drewN | apply below_drew1) | exact HB.out)) hb); have n1_ := Aside0.mk (hbox); have n2_ := Aside0.mk ((by rw [hg]; exact (below_size (by repeat (first | (with_reducible first | exact HB.out | apply below_alloc | apply pw_below_drewN | apply below_drew1) | exact HB.out))) : w.heap.size ≤ gb516)); have n3_ := Aside0.mk ((by rw [hg]; exact (below_size (by repeat (first | (with_reducible first | exact HB.out | apply below_alloc | apply pw_below_drewN | apply below_drew1) | exact HB.out))) : w.heap.size ≤ gb516)); clear HB; have HB := n0_; have BK516 := n1_; have GW516 := n2_; have GE516 := n3_; clear n0_ n1_ n2_ n3_; clear hb hbox hg) | ((with_reducible refine gate_dst (N := 4) rfl ?_); refine box_event ?hg (N := 4) ?hd (cs := #[.slice none 0 0, .slice none 0 0]) (t := 30) ?hr ?_; (case hd => rfl); (case hg => rfl); (case hr => first | (go_simp; done) | (go_simp; rfl)); intro gb517 hg w5 hbox hb; have n0_ := Aside0.mk (blk_below (g := gb516) (o := .cells #[.slice A0_0 l0_0.length c0_0, .slice A0_1 l0_1.length c0_1] 30 (0, 0)) (by (with_reducible repeat (first | refine blk_drewN ?_ _ | refine blk_drew ?_ | refine blk_alloc ?_ _)); exact BK516.out) hb); have n1_ := Aside0.mk (below_step (by repeat (first | (with_reducible first | exact HB.out | apply below_alloc | apply pw_below_drewN | apply below_drew1 | refine below_set ?_ GE516.out) | exact HB.out)) hb); have n2_ := Aside0.mk (hbox); have n3_ := Aside0.mk ((by rw [hg]; exact (below_size (by repeat (first | (with_reducible first | exact HB.out | apply below_alloc | apply pw_below_drewN | apply below_drew1 | refine below_set ?_ GE516.out) | exact HB.out))) : w.heap.size ≤ gb517)); have n4_ := Aside0.mk ((by rw [hg]; exact (below_size (by repeat (first | (with_reducible first | exact HB.out | apply below_alloc | apply pw_below_drewN | apply below_drew1 | refine below_set ?_ GE516.out) | exact HB.out))) : w.heap.size ≤ gb517)); have n5_ := Aside0.mk ((by rw [hg]; exact Nat.ne_of_lt (blk_lt (g := gb516) (o := .cells #[.slice A0_0 l0_0.length c0_0, .slice A0_1 l0_1.length c0_1] 30 (0, 0)) (by (with_reducible repeat (first | refine blk_drewN ?_ _ | refine blk_drew ?_ | refine blk_alloc ?_ _)); exact BK516.out)) : gb516 ≠ gb517)); have n6_ := Aside0.mk ((by rw [hg]; exact Nat.ne_of_gt (blk_lt (g := gb516) (o := .cells #[.slice A0_0 l0_0.length c0_0, .slice A0_1 l0_1.length c0_1] 30 (0, 0)) (by (with_reducible repeat (first | refine blk_drewN ?_ _ | refine blk_drew ?_ | refine blk_alloc ?_ _)); exact BK516.out)) : gb517 ≠ gb516)); clear BK516; clear HB; have BK516 := n0_; have HB := n1_; have BK517 := n2_; have GW517 := n3_; have GE517 := n4_; have NB516_517 := n5_; have NB517_516 := n6_; clear n0_ n1_ n2_ n3_ n4_ n5_ n6_; clear hb hbox hg))
  (try simp only [Act.put, List.setIfInBounds_toArray, List.set_cons_zero, List.set_cons_succ])
  go_cut [13] (fun v13 wc => ∃ (kq : Nat) (x13_2 : Bool), v13 = .bool x13_2 ∧ Aside0 (impl_Append.j0 kq a1 x13_2 l0_0 l0_1 = some (r1, r2, r3)) ∧ Aside0 (kq ≤ k) ∧ Aside0 (wc.heap[gb516]? = some (.cells #[(.slice A0_0 l0_0.length c0_0), (.slice A0_1 l0_1.length c0_1)] 30 (0, 0))) ∧ Aside0 (wc.heap[gb517]? = some (.cells #[(.slice none 0 0), (.slice none 0 0)] 30 (0, 0))) ∧ Aside0 (Below w.heap.size w wc))
  case first =>
    have H := HC3.out
    clear HC3
    replace H := Option.bind_eq_some_iff.mp H
    obtain ⟨t518, A60, H⟩ := H
    replace H : (if t518 = true then ((impl_entryFits.f a1).bind fun t519 => (impl_Append.j0 k a1 (!t519) l0_0 l0_1)) else (impl_Append.j0 k a1 true l0_0 l0_1)) = some (r1, r2, r3) := H
    have A6 := Aside0.mk A60
    clear A60
    by_cases c7 : t518 = true
    · subst c7
      have H1 : ((impl_entryFits.f a1).bind fun t519 => (impl_Append.j0 k a1 (!t519) l0_0 l0_1)) = some (r1, r2, r3) := by rw [if_pos rfl] at H; exact H
      clear H
      have H := H1
      clear H1
      replace H := Option.bind_eq_some_iff.mp H
      obtain ⟨t519, A80, H⟩ := H
      replace H : (impl_Append.j0 k a1 (!t519) l0_0 l0_1) = some (r1, r2, r3) := H
      have A8 := Aside0.mk A80
      clear A80
      have H' := Aside0.mk H
      clear H
      have hnb9 := NB516_517.out
      have hnc9 := NB517_516.out
      have hcz10_0 : w5.cell? ⟨gb516, 0, none⟩ = some (.slice A0_0 l0_0.length c0_0) := (blk_cell BK516.out 0).trans rfl
      have hcz10_1 : w5.cell? ⟨gb516, 1, none⟩ = some (.slice A0_1 l0_1.length c0_1) := (blk_cell BK516.out 1).trans rfl
      have hfz10_0 := blk_frozen BK516.out 0
      have hfz10_1 := blk_frozen BK516.out 1
      go_wp2_with (first | ((with_reducible refine gate_callee (f := 20) rfl ?_); refine goesL_ (some 7) rfl rfl Try.func20 (by kernel_rfl) rfl #[.agg #[.slice A0_0 l0_0.length c0_0, .slice A0_1 l0_1.length c0_1]] rfl (by (try simp only [List.map_toArray, List.map_cons, List.map_nil]); first | done | rfl | (simp only [List.length_drop, List.length_take]; rfl)) ?_; (with_reducible refine (impl_ValidLog.calls k (fun k_ => k_ < w.heap.size) _ _ l0_0 (fun k_ => k_ < w.heap.size) _ _ l0_1 true _ ?side1 ?side2 A6.out).mono ?_); (case side1 => exact Kd.V_mk HC0_0.out (Kd.F_below (Kd.C_F Kd.heap_string HR0_0.out) (by repeat (first | (with_reducible first | exact HB.out | apply below_alloc | apply pw_below_drewN | apply below_drew1 | refine below_set ?_ GE516.out | refine below_set ?_ GE517.out) | exact HB.out)))); (case side2 => exact Kd.V_mk HC0_1.out (Kd.F_below (Kd.C_F Kd.heap_string HR0_1.out) (by repeat (first | (with_reducible first | exact HB.out | apply below_alloc | apply pw_below_drewN | apply below_drew1 | refine below_set ?_ GE516.out | refine below_set ?_ GE517.out) | exact HB.out)))); rintro e w11 ⟨rfl, hb⟩; refine ⟨_, rfl, ?_⟩; have n0_ := Aside0.mk (blk_below (g := gb516) (o := .cells #[.slice A0_0 l0_0.length c0_0, .slice A0_1 l0_1.length c0_1] 30 (0, 0)) (by (with_reducible repeat (first | refine blk_drewN ?_ _ | refine blk_drew ?_ | refine blk_alloc ?_ _)); exact BK516.out) hb); have n1_ := Aside0.mk (blk_below (g := gb517) (o := .cells #[.slice none 0 0, .slice none 0 0] 30 (0, 0)) (by (with_reducible repeat (first | refine blk_drewN ?_ _ | refine blk_drew ?_ | refine blk_alloc ?_ _)); exact BK517.out) hb); have n2_ := Aside0.mk (below_step (by repeat (first | (with_reducible first | exact HB.out | apply below_alloc | apply pw_below_drewN | apply below_drew1 | refine below_set ?_ GE516.out | refine below_set ?_ GE517.out) | exact HB.out)) hb); clear BK516; clear BK517; clear HB; have BK516 := n0_; have BK517 := n1_; have HB := n2_; clear n0_ n1_ n2_; (try clear hb); (try clear hb2); (try clear hk); (try clear hi)) | (go_at_call 60; (with_reducible refine (impl_entryFits.calls a1 t519 _ A8.out).mono ?_); rintro e w' ⟨rfl, ⟨nd, rfl⟩⟩))
      go_meet
      case rel => exact ⟨_, (!t519), (by first | rfl | (simp; done) | (simp [*]; done)), H', ⟨by first | omega | exact Nat.le_refl _⟩, ⟨by (with_reducible repeat (first | refine blk_drewN ?_ _ | refine blk_drew ?_ | refine blk_alloc ?_ _)); exact BK516.out⟩, ⟨by (with_reducible repeat (first | refine blk_drewN ?_ _ | refine blk_drew ?_ | refine blk_alloc ?_ _)); exact BK517.out⟩, ⟨by repeat (first | (with_reducible first | exact HB.out | apply below_alloc | apply pw_below_drewN | apply below_drew1 | refine below_set ?_ GE516.out | refine below_set ?_ GE517.out) | exact HB.out)⟩⟩
    · replace c7 := Bool.eq_false_iff.mpr c7
      subst c7
      have H1 : (impl_Append.j0 k a1 true l0_0 l0_1) = some (r1, r2, r3) := by rw [if_neg (show ¬ (false = true) by decide)] at H; exact H
      clear H
      have H := H1
      clear H1
      have H' := Aside0.mk H
      clear H
      have hnb12 := NB516_517.out
      have hnc12 := NB517_516.out
      have hcz13_0 : w5.cell? ⟨gb516, 0, none⟩ = some (.slice A0_0 l0_0.length c0_0) := (blk_cell BK516.out 0).trans rfl
      have hcz13_1 : w5.cell? ⟨gb516, 1, none⟩ = some (.slice A0_1 l0_1.length c0_1) := (blk_cell BK516.out 1).trans rfl
      have hfz13_0 := blk_frozen BK516.out 0
      have hfz13_1 := blk_frozen BK516.out 1
      go_wp2_with (first | ((with_reducible refine gate_callee (f := 20) rfl ?_); refine goesL_ (some 7) rfl rfl Try.func20 (by kernel_rfl) rfl #[.agg #[.slice A0_0 l0_0.length c0_0, .slice A0_1 l0_1.length c0_1]] rfl (by (try simp only [List.map_toArray, List.map_cons, List.map_nil]); first | done | rfl | (simp only [List.length_drop, List.length_take]; rfl)) ?_; (with_reducible refine (impl_ValidLog.calls k (fun k_ => k_ < w.heap.size) _ _ l0_0 (fun k_ => k_ < w.heap.size) _ _ l0_1 false _ ?side1 ?side2 A6.out).mono ?_); (case side1 => exact Kd.V_mk HC0_0.out (Kd.F_below (Kd.C_F Kd.heap_string HR0_0.out) (by repeat (first | (with_reducible first | exact HB.out | apply below_alloc | apply pw_below_drewN | apply below_drew1 | refine below_set ?_ GE516.out | refine below_set ?_ GE517.out) | exact HB.out)))); (case side2 => exact Kd.V_mk HC0_1.out (Kd.F_below (Kd.C_F Kd.heap_string HR0_1.out) (by repeat (first | (with_reducible first | exact HB.out | apply below_alloc | apply pw_below_drewN | apply below_drew1 | refine below_set ?_ GE516.out | refine below_set ?_ GE517.out) | exact HB.out)))); rintro e w14 ⟨rfl, hb⟩; refine ⟨_, rfl, ?_⟩; have n0_ := Aside0.mk (blk_below (g := gb516) (o := .cells #[.slice A0_0 l0_0.length c0_0, .slice A0_1 l0_1.length c0_1] 30 (0, 0)) (by (with_reducible repeat (first | refine blk_drewN ?_ _ | refine blk_drew ?_ | refine blk_alloc ?_ _)); exact BK516.out) hb); have n1_ := Aside0.mk (blk_below (g := gb517) (o := .cells #[.slice none 0 0, .slice none 0 0] 30 (0, 0)) (by (with_reducible repeat (first | refine blk_drewN ?_ _ | refine blk_drew ?_ | refine blk_alloc ?_ _)); exact BK517.out) hb); have n2_ := Aside0.mk (below_step (by repeat (first | (with_reducible first | exact HB.out | apply below_alloc | apply pw_below_drewN | apply below_drew1 | refine below_set ?_ GE516.out | refine below_set ?_ GE517.out) | exact HB.out)) hb); clear BK516; clear BK517; clear HB; have BK516 := n0_; have BK517 := n1_; have HB := n2_; clear n0_ n1_ n2_; (try clear hb); (try clear hb2); (try clear hk); (try clear hi)))
      go_meet
      case rel => exact ⟨_, (true), (by first | rfl | (simp; done) | (simp [*]; done)), H', ⟨by first | omega | exact Nat.le_refl _⟩, ⟨by (with_reducible repeat (first | refine blk_drewN ?_ _ | refine blk_drew ?_ | refine blk_alloc ?_ _)); exact BK516.out⟩, ⟨by (with_reducible repeat (first | refine blk_drewN ?_ _ | refine blk_drew ?_ | refine blk_alloc ?_ _)); exact BK517.out⟩, ⟨by repeat (first | (with_reducible first | exact HB.out | apply below_alloc | apply pw_below_drewN | apply below_drew1 | refine below_set ?_ GE516.out | refine below_set ?_ GE517.out) | exact HB.out)⟩⟩
  case rest =>
    clear HC3
    try clear c1
    try clear c2
    try clear p2
    try clear c3
    try clear c7
    try clear c9
    try clear c12
    try clear hcz10_0
    try clear hcz10_1
    try clear hcz13_0
    try clear hcz13_1
    try clear hfz10_0
    try clear hfz10_1
    try clear hfz13_0
    try clear hfz13_1
    obtain ⟨kq, x13_2, rfl, HA, HJ2, BK516, BK517, HB⟩ := hcut
    cases kq with
    | zero => exact absurd HA.out (by simp [impl_Append.j0])
    | succ kj2 =>
      have H := HA.out
      clear HA
      simp only [impl_Append.j0] at H
      by_cases c15 : x13_2 = true
      · subst c15
        have H1 : (some (([] : List ByteArray), ([] : List ByteArray), 1)) = some (r1, r2, r3) := by rw [if_pos rfl] at H; exact H
        clear H
        have H := H1
        clear H1
        simp only [Option.some.injEq, Prod.mk.injEq] at H
        obtain ⟨rfl, rfl, rfl⟩ := H
        have hnb16 := NB517_516.out
        have hnc16 := NB516_517.out
        have hcz17_0 : wc.cell? ⟨gb517, 0, none⟩ = some (.slice none 0 0) := (blk_cell BK517.out 0).trans rfl
        have hcz17_1 : wc.cell? ⟨gb517, 1, none⟩ = some (.slice none 0 0) := (blk_cell BK517.out 1).trans rfl
        have hfz17_0 := blk_frozen BK517.out 0
        have hfz17_1 := blk_frozen BK517.out 1
        go_wp2
        refine bodyPost_ret (results_ct rfl _ _ gb517 30 #[.slice none 0 0, .slice none 0 0] (0, 0) _ rfl (by (with_reducible repeat (first | refine blk_drewN ?_ _ | refine blk_drew ?_ | refine blk_alloc ?_ _)); refine blk_put (cs := #[.slice none 0 0, .slice none 0 0]) ?_ 1 _ rfl; (with_reducible repeat (first | refine blk_drewN ?_ _ | refine blk_drew ?_ | refine blk_alloc ?_ _)); refine blk_put (cs := #[.slice none 0 0, .slice none 0 0]) ?_ 0 _ rfl; (with_reducible repeat (first | refine blk_drewN ?_ _ | refine blk_drew ?_ | refine blk_alloc ?_ _)); exact BK517.out) Try.underlying30 rfl (by kernel_rfl)) rfl ?_
        exact ⟨_, _, by first | rfl | (simp [errW_none, errW_some] <;> rfl) | (simp [*, errW_none, errW_some] <;> rfl), by first | exact Kd.R_nil _ _ _ _ _ | exact Kd.N_nil _ _ _ _ _ | exact Kd.V_nil _ _ _ _ _ | exact Kd.Q_nil _ _ _ _ _ | exact Kd.S_nil _ _ _ _ _, by first | exact Kd.R_nil _ _ _ _ _ | exact Kd.N_nil _ _ _ _ _ | exact Kd.V_nil _ _ _ _ _ | exact Kd.Q_nil _ _ _ _ _ | exact Kd.S_nil _ _ _ _ _, by repeat (first | (with_reducible first | exact HB.out | apply below_alloc | apply pw_below_drewN | apply below_drew1 | refine below_set ?_ GE516.out | refine below_set ?_ GE517.out) | exact HB.out)⟩
      · replace c15 := Bool.eq_false_iff.mpr c15
        subst c15
        have H1 : (if (wrap64 ((l0_0.length : Int) + (l0_1.length : Int))) = 4000 then (some (([] : List ByteArray), ([] : List ByteArray), 2)) else ((impl_copied.f l0_0).bind fun t520 => ((impl_copied.f l0_1).bind fun t523 => ((some (([a1] : List ByteArray) : List ByteArray)).bind fun y526 => (if t523.length + y526.length < 8796093022208 then (some (t520, (t523 ++ y526), 0)) else (none)))))) = some (r1, r2, r3) := by rw [if_neg (show ¬ (false = true) by decide)] at H; exact H
        clear H
        have H := H1
        clear H1
        by_cases c18 : (wrap64 ((l0_0.length : Int) + (l0_1.length : Int))) = 4000
        · rw [if_pos c18] at H
          have c18b0 : ((wrap64 ((l0_0.length : Int) + (l0_1.length : Int))) == 4000) = true := beq_iff_eq.mpr c18
          have c18b1 : ((wrap64 ((l0_0.length : Int) + (l0_1.length : Int))) != 4000) = false := bne_eq_false_iff_eq.mpr c18
          clear c18
          simp only [Option.some.injEq, Prod.mk.injEq] at H
          obtain ⟨rfl, rfl, rfl⟩ := H
          have hnb19 := NB516_517.out
          have hnc19 := NB517_516.out
          have hcz20_0 : wc.cell? ⟨gb516, 0, none⟩ = some (.slice A0_0 l0_0.length c0_0) := (blk_cell BK516.out 0).trans rfl
          have hcz20_1 : wc.cell? ⟨gb516, 1, none⟩ = some (.slice A0_1 l0_1.length c0_1) := (blk_cell BK516.out 1).trans rfl
          have hfz20_0 := blk_frozen BK516.out 0
          have hfz20_1 := blk_frozen BK516.out 1
          have hcz21_0 : wc.cell? ⟨gb517, 0, none⟩ = some (.slice none 0 0) := (blk_cell BK517.out 0).trans rfl
          have hcz21_1 : wc.cell? ⟨gb517, 1, none⟩ = some (.slice none 0 0) := (blk_cell BK517.out 1).trans rfl
          have hfz21_0 := blk_frozen BK517.out 0
          have hfz21_1 := blk_frozen BK517.out 1
          go_wp2
          refine bodyPost_ret (results_ct rfl _ _ gb517 30 #[.slice none 0 0, .slice none 0 0] (0, 0) _ rfl (by (with_reducible repeat (first | refine blk_drewN ?_ _ | refine blk_drew ?_ | refine blk_alloc ?_ _)); refine blk_put (cs := #[.slice none 0 0, .slice none 0 0]) ?_ 1 _ rfl; (with_reducible repeat (first | refine blk_drewN ?_ _ | refine blk_drew ?_ | refine blk_alloc ?_ _)); refine blk_put (cs := #[.slice none 0 0, .slice none 0 0]) ?_ 0 _ rfl; (with_reducible repeat (first | refine blk_drewN ?_ _ | refine blk_drew ?_ | refine blk_alloc ?_ _)); exact BK517.out) Try.underlying30 rfl (by kernel_rfl)) rfl ?_
          exact ⟨_, _, by first | rfl | (simp [errW_none, errW_some] <;> rfl) | (simp [*, errW_none, errW_some] <;> rfl), by first | exact Kd.R_nil _ _ _ _ _ | exact Kd.N_nil _ _ _ _ _ | exact Kd.V_nil _ _ _ _ _ | exact Kd.Q_nil _ _ _ _ _ | exact Kd.S_nil _ _ _ _ _, by first | exact Kd.R_nil _ _ _ _ _ | exact Kd.N_nil _ _ _ _ _ | exact Kd.V_nil _ _ _ _ _ | exact Kd.Q_nil _ _ _ _ _ | exact Kd.S_nil _ _ _ _ _, by repeat (first | (with_reducible first | exact HB.out | apply below_alloc | apply pw_below_drewN | apply below_drew1 | refine below_set ?_ GE516.out | refine below_set ?_ GE517.out) | exact HB.out)⟩
        · rw [if_neg c18] at H
          have c18b0 : ((wrap64 ((l0_0.length : Int) + (l0_1.length : Int))) == 4000) = false := beq_eq_false_iff_ne.mpr c18
          have c18b1 : ((wrap64 ((l0_0.length : Int) + (l0_1.length : Int))) != 4000) = true := bne_iff_ne.mpr c18
          replace H := Option.bind_eq_some_iff.mp H
          obtain ⟨t520, A220, H⟩ := H
          replace H : ((impl_copied.f l0_1).bind fun t523 => ((some (([a1] : List ByteArray) : List ByteArray)).bind fun y526 => (if t523.length + y526.length < 8796093022208 then (some (t520, (t523 ++ y526), 0)) else (none)))) = some (r1, r2, r3) := H
          have A22 := Aside0.mk A220
          clear A220
          replace H := Option.bind_eq_some_iff.mp H
          obtain ⟨t523, A230, H⟩ := H
          replace H : ((some (([a1] : List ByteArray) : List ByteArray)).bind fun y526 => (if t523.length + y526.length < 8796093022208 then (some (t520, (t523 ++ y526), 0)) else (none))) = some (r1, r2, r3) := H
          have A23 := Aside0.mk A230
          clear A230
          obtain ⟨y526, hy526⟩ : ∃ y_ : List ByteArray, y_ = (([a1] : List ByteArray)) := ⟨_, rfl⟩
          replace H : (if t523.length + y526.length < 8796093022208 then (some (t520, (t523 ++ y526), 0)) else (none)) = some (r1, r2, r3) := by first | (rw [hy526]; with_reducible exact H) | (have H2_ := (Option.bind_some _ _).symm.trans H; rw [hy526]; with_reducible exact H2_) | (have H2_ := (Option.bind_some _ _).symm.trans H; with_reducible exact H2_) | with_reducible exact H | (rw [hy526]; exact H) | exact H
          have Ny526 := Aside0.mk hy526
          clear hy526
          by_cases c24 : t523.length + y526.length < 8796093022208
          · rw [if_pos c24] at H
            have LMc24 := Aside0.mk c24
            clear c24
            obtain ⟨y529, hy529⟩ : ∃ y_ : List ByteArray, y_ = (t523 ++ y526) := ⟨_, rfl⟩
            replace H : (some (t520, y529, 0)) = some (r1, r2, r3) := by first | (rw [hy529]; with_reducible exact H) | (have H2_ := (Option.bind_some _ _).symm.trans H; rw [hy529]; with_reducible exact H2_) | (have H2_ := (Option.bind_some _ _).symm.trans H; with_reducible exact H2_) | with_reducible exact H | (rw [hy529]; exact H) | exact H
            have Ny529 := Aside0.mk hy529
            clear hy529
            simp only [Option.some.injEq, Prod.mk.injEq] at H
            obtain ⟨rfl, rfl, rfl⟩ := H
            have hnb25 := NB516_517.out
            have hnc25 := NB517_516.out
            have hcz26_0 : wc.cell? ⟨gb516, 0, none⟩ = some (.slice A0_0 l0_0.length c0_0) := (blk_cell BK516.out 0).trans rfl
            have hcz26_1 : wc.cell? ⟨gb516, 1, none⟩ = some (.slice A0_1 l0_1.length c0_1) := (blk_cell BK516.out 1).trans rfl
            have hfz26_0 := blk_frozen BK516.out 0
            have hfz26_1 := blk_frozen BK516.out 1
            try go_wp2
            have n0_ := Aside0.mk (blk_drew BK516.out)
            have n1_ := Aside0.mk (blk_drew BK517.out)
            have n2_ := Aside0.mk (below_drew1 HB.out)
            clear BK516
            clear BK517
            clear HB
            have BK516 := n0_
            have BK517 := n1_
            have HB := n2_
            clear n0_ n1_ n2_
            refine start_ (n := 12) (S := fun w' => w'.cell? ⟨gb516, 0, none⟩ = some (.slice A0_0 l0_0.length c0_0) ∧ w'.cell? ⟨gb516, 1, none⟩ = some (.slice A0_1 l0_1.length c0_1)) (ds := []) #[false, false, false, false, false, false, false, false, false, false, false, false] (by kernel_rfl) rfl rfl ⟨(blk_cell BK516.out 0).trans rfl, (blk_cell BK516.out 1).trans rfl⟩ (fun hHeld => ?_); refine with_tabW impl_Append.tab5 impl_Append.bits5 (fun HT_ HW_ => ?_)
            generalize wc.drew = w27 at BK516 BK517 HB hHeld ⊢
            refine pure_ (i := 0) (N := some 24) (v := ?_) (a' := ?_) #[true, false, false, false, false, false, false, false, false, false, false, false] rfl rfl (any_of HT_.out (by kernel_rfl)) (fun _ _ _ h => h) (Or.inl ⟨by rfl, ?_⟩) ?_ ?_
            rotate_left
            · intro w'
              go_simp
              with_reducible rfl
            rotate_left
            · simp only [Act.put, List.setIfInBounds_toArray, List.set_cons_zero, List.set_cons_succ, i64_w, i32_w]
              rfl
            refine pure_ (i := 3) (N := some 27) (v := ?_) (a' := ?_) #[true, false, false, true, false, false, false, false, false, false, false, false] rfl rfl (any_of HT_.out (by kernel_rfl)) (fun _ _ _ h => h) (Or.inl ⟨by rfl, ?_⟩) ?_ ?_
            rotate_left
            · intro w'
              go_simp
              with_reducible rfl
            rotate_left
            · simp only [Act.put, List.setIfInBounds_toArray, List.set_cons_zero, List.set_cons_succ, i64_w, i32_w]
              rfl
            refine pure_ (i := 6) (N := some 30) (v := ?_) (a' := ?_) #[true, false, false, true, false, false, true, false, false, false, false, false] rfl rfl (any_of HT_.out (by kernel_rfl)) (fun _ _ _ h => h) (Or.inl ⟨by rfl, ?_⟩) ?_ ?_
            rotate_left
            · intro w'
              go_simp
              with_reducible rfl
            rotate_left
            · simp only [Act.put, List.setIfInBounds_toArray, List.set_cons_zero, List.set_cons_succ, i64_w, i32_w]
              rfl
            refine take_ (i := 1) (N := some 25) (v := ?_) (a' := ?_) #[true, true, false, true, false, false, true, false, false, false, false, false] rfl rfl (take_ofW HT_.out HW_.out (by kernel_rfl)) (fun _ _ _ h => h) (Or.inl ⟨by rfl, ?_⟩) hHeld ?_ ?_
            rotate_left
            · rintro w' ⟨s0, s1⟩
              go_simp
              with_reducible rfl
            rotate_left
            · simp only [Act.put, List.setIfInBounds_toArray, List.set_cons_zero, List.set_cons_succ, i64_w, i32_w]
              rfl
            refine take_ (i := 4) (N := some 28) (v := ?_) (a' := ?_) #[true, true, false, true, true, false, true, false, false, false, false, false] rfl rfl (take_ofW HT_.out HW_.out (by kernel_rfl)) (fun _ _ _ h => h) (Or.inl ⟨by rfl, ?_⟩) hHeld ?_ ?_
            rotate_left
            · rintro w' ⟨s0, s1⟩
              go_simp
              with_reducible rfl
            rotate_left
            · simp only [Act.put, List.setIfInBounds_toArray, List.set_cons_zero, List.set_cons_succ, i64_w, i32_w]
              rfl
            refine join_ (σ := Value × Value × Value) 4 #[true, true, true, true, true, true, true, true, false, false, false, false] (fun s_ => [(26, s_.1), (29, s_.2.1), (31, s_.2.2)]) (fun s_ w' => (w'.cell? ⟨gb516, 0, none⟩ = some (.slice A0_0 l0_0.length c0_0) ∧ w'.cell? ⟨gb516, 1, none⟩ = some (.slice A0_1 l0_1.length c0_1)) ∧ (Kd.R Kd.string 9 w' w.heap.size (fun k_ => some k_ ≠ (s_.2.1 : Value).ownBlock ∧ some k_ ≠ (s_.2.2 : Value).ownBlock) s_.1 t520) ∧ (Kd.R Kd.string 9 w' w.heap.size (fun k_ => some k_ ≠ (s_.1 : Value).ownBlock ∧ some k_ ≠ (s_.2.2 : Value).ownBlock) s_.2.1 t523) ∧ (Kd.R Kd.string 9 w' w.heap.size (fun k_ => some k_ ≠ (s_.1 : Value).ownBlock ∧ some k_ ≠ (s_.2.1 : Value).ownBlock) s_.2.2 y526) ∧ (w'.heap[gb516]? = some (.cells #[.slice A0_0 l0_0.length c0_0, .slice A0_1 l0_1.length c0_1] 30 (0, 0))) ∧ (w'.heap[gb517]? = some (.cells #[.slice none 0 0, .slice none 0 0] 30 (0, 0))) ∧ (Below w.heap.size w w')) ?_ ?_
            rotate_left
            · intro hCont
              refine two_ (i := 2) (j := 7) (Ni := some 26) (Nj := some 31) #[true, true, true, true, true, false, true, false, false, false, false, false] #[true, true, false, true, true, false, true, true, false, false, false, false] rfl rfl rfl rfl (two_of HT_.out (by kernel_rfl)) (by decide) (by decide) (fun K hK => ?_) (fun K hK => ?_)
              · skip
                refine goes_ Try.func67 (by kernel_rfl) rfl #[.slice A0_0 l0_0.length c0_0] (by rfl) rfl rfl (by (try simp only [List.map_toArray, List.map_cons, List.map_nil]); first | done | rfl | (simp only [List.length_drop, List.length_take]; rfl)) ?_
                with_reducible refine (impl_copied.calls _ _ l0_0 t520 _ ?side1 ?side2 A22.out).mono ?_
                (case side1 => repeat (first | exact (Kd.C_below HR0_0.out HB.out) | (with_reducible refine Kd.C_alloc ?_ _) | (with_reducible refine Kd.C_drewN ?_ _) | (with_reducible refine Kd.C_drew ?_)))
                (case side2 => exact HC0_0.out)
                rintro e w28 ⟨v521, rfl, ho0, hb⟩
                refine ⟨_, rfl, ?_⟩
                have n0_ := Aside0.mk (Kd.R_lower ho0 (below_size (by repeat (first | (with_reducible first | exact HB.out | apply below_alloc | apply pw_below_drewN | apply below_drew1 | refine below_set ?_ GE516.out | refine below_set ?_ GE517.out) | exact HB.out))))
                have n1_ := Aside0.mk (blk_below (g := gb516) (o := .cells #[.slice A0_0 l0_0.length c0_0, .slice A0_1 l0_1.length c0_1] 30 (0, 0)) (by (with_reducible repeat (first | refine blk_drewN ?_ _ | refine blk_drew ?_ | refine blk_alloc ?_ _)); exact BK516.out) hb)
                have n2_ := Aside0.mk (blk_below (g := gb517) (o := .cells #[.slice none 0 0, .slice none 0 0] 30 (0, 0)) (by (with_reducible repeat (first | refine blk_drewN ?_ _ | refine blk_drew ?_ | refine blk_alloc ?_ _)); exact BK517.out) hb)
                have n3_ := Aside0.mk (below_step (by repeat (first | (with_reducible first | exact HB.out | apply below_alloc | apply pw_below_drewN | apply below_drew1 | refine below_set ?_ GE516.out | refine below_set ?_ GE517.out) | exact HB.out)) hb)
                clear BK516
                clear BK517
                clear HB
                have HO522 := n0_
                have BK516 := n1_
                have BK517 := n2_
                have HB := n3_
                clear n0_ n1_ n2_ n3_
                (try clear hb)
                (try clear hb2)
                (try clear hk)
                (try clear hi)
                (try clear ho0)
                refine hK.out _ _ ⟨(blk_cell BK516.out 0).trans rfl, (blk_cell BK516.out 1).trans rfl⟩ (fun hHeld => ?_)
                clear hK K
                refine norm_ (a' := ?_) ?_ ?_
                rotate_left
                · show Act.put _ (some 26) _ = _
                  simp only [Act.put, List.setIfInBounds_toArray, List.set_cons_zero, List.set_cons_succ, i64_w, i32_w]
                  rfl
                refine two_ (i := 5) (j := 7) (Ni := some 29) (Nj := some 31) #[true, true, true, true, true, true, true, false, false, false, false, false] #[true, true, true, true, true, false, true, true, false, false, false, false] rfl rfl rfl rfl (two_of HT_.out (by kernel_rfl)) (by decide) (by decide) (fun K hK => ?_) (fun K hK => ?_)
                · skip
                  refine goes_ Try.func67 (by kernel_rfl) rfl #[.slice A0_1 l0_1.length c0_1] (by rfl) rfl rfl (by (try simp only [List.map_toArray, List.map_cons, List.map_nil]); first | done | rfl | (simp only [List.length_drop, List.length_take]; rfl)) ?_
                  with_reducible refine (impl_copied.calls _ _ l0_1 t523 _ ?side1 ?side2 A23.out).mono ?_
                  (case side1 => repeat (first | exact (Kd.C_below HR0_1.out HB.out) | (with_reducible refine Kd.C_alloc ?_ _) | (with_reducible refine Kd.C_drewN ?_ _) | (with_reducible refine Kd.C_drew ?_)))
                  (case side2 => exact HC0_1.out)
                  rintro e w29 ⟨v524, rfl, ho0, hb⟩
                  refine ⟨_, rfl, ?_⟩
                  have n0_ := Aside0.mk (Kd.R_elder' (by (with_reducible repeat (first | apply Kd.R_alloc | apply Kd.R_drewN | apply Kd.R_drew)); exact HO522.out) (Kd.R_base ho0) hb)
                  have n1_ := Aside0.mk (Kd.R_lower (Kd.R_new' ho0 (Kd.R_lt (by (with_reducible repeat (first | apply Kd.R_alloc | apply Kd.R_drewN | apply Kd.R_drew)); exact HO522.out))) (below_size (by repeat (first | (with_reducible first | exact HB.out | apply below_alloc | apply pw_below_drewN | apply below_drew1 | refine below_set ?_ GE516.out | refine below_set ?_ GE517.out) | exact HB.out))))
                  have n2_ := Aside0.mk (blk_below (g := gb516) (o := .cells #[.slice A0_0 l0_0.length c0_0, .slice A0_1 l0_1.length c0_1] 30 (0, 0)) (by (with_reducible repeat (first | refine blk_drewN ?_ _ | refine blk_drew ?_ | refine blk_alloc ?_ _)); exact BK516.out) hb)
                  have n3_ := Aside0.mk (blk_below (g := gb517) (o := .cells #[.slice none 0 0, .slice none 0 0] 30 (0, 0)) (by (with_reducible repeat (first | refine blk_drewN ?_ _ | refine blk_drew ?_ | refine blk_alloc ?_ _)); exact BK517.out) hb)
                  have n4_ := Aside0.mk (below_step (by repeat (first | (with_reducible first | exact HB.out | apply below_alloc | apply pw_below_drewN | apply below_drew1 | refine below_set ?_ GE516.out | refine below_set ?_ GE517.out) | exact HB.out)) hb)
                  clear HO522
                  clear BK516
                  clear BK517
                  clear HB
                  have HO522 := n0_
                  have HO525 := n1_
                  have BK516 := n2_
                  have BK517 := n3_
                  have HB := n4_
                  clear n0_ n1_ n2_ n3_ n4_
                  (try clear hb)
                  (try clear hb2)
                  (try clear hk)
                  (try clear hi)
                  (try clear ho0)
                  refine hK.out _ _ ⟨(blk_cell BK516.out 0).trans rfl, (blk_cell BK516.out 1).trans rfl⟩ (fun hHeld => ?_)
                  clear hK K
                  refine norm_ (a' := ?_) ?_ ?_
                  rotate_left
                  · show Act.put _ (some 29) _ = _
                    simp only [Act.put, List.setIfInBounds_toArray, List.set_cons_zero, List.set_cons_succ, i64_w, i32_w]
                    rfl
                  refine one_ (i := 7) (N := some 31) #[true, true, true, true, true, true, true, true, false, false, false, false] rfl rfl (one_of HT_.out (by kernel_rfl)) (by decide) (fun K hK => ?_)
                  refine Kd.R_lit_step Kd.string _ 9 ?hg (N := 31) ?hd (xs := ([a1] : List ByteArray)) (inner := [.string a1]) (ok := fun _ => True) (okp := fun _ => True) ?hr ?hp (fun _ hk => hk) trivial (Below.refl _ _) (Nat.le_refl _) (by simp) ?_; (case hd => rfl); (case hg => rfl); (case hr => first | (go_simp; done) | (go_simp; rfl)); (case hp => exact (Reps.one (show Kd.M Kd.string _ _ _ a1 [.string a1] from rfl) (Reps.none _ _)))
                  intro v527 w30 ho31 hb hg_ hnew_
                  clear hg_ hnew_
                  (first | rw [← Ny526.out] at ho31 | (simp only [Int.reduceToNat] at ho31; rw [← Ny526.out] at ho31))
                  have n0_ := Aside0.mk (Kd.R_elder' (by (with_reducible repeat (first | apply Kd.R_alloc | apply Kd.R_drewN | apply Kd.R_drew)); exact HO522.out) (Kd.R_base ho31) hb)
                  have n1_ := Aside0.mk (Kd.R_elder' (by (with_reducible repeat (first | apply Kd.R_alloc | apply Kd.R_drewN | apply Kd.R_drew)); exact HO525.out) (Kd.R_base ho31) hb)
                  have n2_ := Aside0.mk (Kd.R_lower (Kd.R_new' (Kd.R_new' ho31 (Kd.R_lt (by (with_reducible repeat (first | apply Kd.R_alloc | apply Kd.R_drewN | apply Kd.R_drew)); exact HO522.out))) (Kd.R_lt (by (with_reducible repeat (first | apply Kd.R_alloc | apply Kd.R_drewN | apply Kd.R_drew)); exact HO525.out))) (below_size (by repeat (first | (with_reducible first | exact HB.out | apply below_alloc | apply pw_below_drewN | apply below_drew1 | refine below_set ?_ GE516.out | refine below_set ?_ GE517.out) | exact HB.out))))
                  have n3_ := Aside0.mk (blk_below (g := gb516) (o := .cells #[.slice A0_0 l0_0.length c0_0, .slice A0_1 l0_1.length c0_1] 30 (0, 0)) (by (with_reducible repeat (first | refine blk_drewN ?_ _ | refine blk_drew ?_ | refine blk_alloc ?_ _)); exact BK516.out) hb)
                  have n4_ := Aside0.mk (blk_below (g := gb517) (o := .cells #[.slice none 0 0, .slice none 0 0] 30 (0, 0)) (by (with_reducible repeat (first | refine blk_drewN ?_ _ | refine blk_drew ?_ | refine blk_alloc ?_ _)); exact BK517.out) hb)
                  have n5_ := Aside0.mk (below_step (by repeat (first | (with_reducible first | exact HB.out | apply below_alloc | apply pw_below_drewN | apply below_drew1 | refine below_set ?_ GE516.out | refine below_set ?_ GE517.out) | exact HB.out)) hb)
                  clear HO522
                  clear HO525
                  clear BK516
                  clear BK517
                  clear HB
                  have HO522 := n0_
                  have HO525 := n1_
                  have HO528 := n2_
                  have BK516 := n3_
                  have BK517 := n4_
                  have HB := n5_
                  clear n0_ n1_ n2_ n3_ n4_ n5_
                  clear hb ho31
                  refine hK.out _ _ ⟨(blk_cell BK516.out 0).trans rfl, (blk_cell BK516.out 1).trans rfl⟩ (fun hHeld => ?_)
                  clear hK K
                  refine norm_ (a' := ?_) ?_ ?_
                  rotate_left
                  · show Act.put _ (some 31) _ = _
                    simp only [Act.put, List.setIfInBounds_toArray, List.set_cons_zero, List.set_cons_succ, i64_w, i32_w]
                    rfl
                  exact norm_ (by simp only [putAll, Act.put, List.setIfInBounds_toArray, List.set_cons_zero, List.set_cons_succ]) (hCont (v521, v524, v527) _ ⟨hHeld, (by (with_reducible repeat (first | apply Kd.R_alloc | apply Kd.R_drewN | apply Kd.R_drew)); exact Kd.R_mono HO522.out (fun _ hk => ⟨hk.1.2, hk.2⟩)), (by (with_reducible repeat (first | apply Kd.R_alloc | apply Kd.R_drewN | apply Kd.R_drew)); exact Kd.R_mono HO525.out (fun _ hk => ⟨hk.1.2, hk.2⟩)), (by (with_reducible repeat (first | apply Kd.R_alloc | apply Kd.R_drewN | apply Kd.R_drew)); exact Kd.R_mono HO528.out (fun _ hk => ⟨hk.1.2, hk.2⟩)), (by (with_reducible repeat (first | refine blk_drewN ?_ _ | refine blk_drew ?_ | refine blk_alloc ?_ _)); exact BK516.out), (by (with_reducible repeat (first | refine blk_drewN ?_ _ | refine blk_drew ?_ | refine blk_alloc ?_ _)); exact BK517.out), (by repeat (first | (with_reducible first | exact HB.out | apply below_alloc | apply pw_below_drewN | apply below_drew1 | refine below_set ?_ GE516.out | refine below_set ?_ GE517.out) | exact HB.out))⟩)
                · skip
                  refine Kd.R_lit_step Kd.string _ 9 ?hg (N := 31) ?hd (xs := ([a1] : List ByteArray)) (inner := [.string a1]) (ok := fun _ => True) (okp := fun _ => True) ?hr ?hp (fun _ hk => hk) trivial (Below.refl _ _) (Nat.le_refl _) (by simp) ?_; (case hd => rfl); (case hg => rfl); (case hr => first | (go_simp; done) | (go_simp; rfl)); (case hp => exact (Reps.one (show Kd.M Kd.string _ _ _ a1 [.string a1] from rfl) (Reps.none _ _)))
                  intro v527 w29 ho30 hb hg_ hnew_
                  clear hg_ hnew_
                  (first | rw [← Ny526.out] at ho30 | (simp only [Int.reduceToNat] at ho30; rw [← Ny526.out] at ho30))
                  have n0_ := Aside0.mk (Kd.R_elder' (by (with_reducible repeat (first | apply Kd.R_alloc | apply Kd.R_drewN | apply Kd.R_drew)); exact HO522.out) (Kd.R_base ho30) hb)
                  have n1_ := Aside0.mk (Kd.R_lower (Kd.R_new' ho30 (Kd.R_lt (by (with_reducible repeat (first | apply Kd.R_alloc | apply Kd.R_drewN | apply Kd.R_drew)); exact HO522.out))) (below_size (by repeat (first | (with_reducible first | exact HB.out | apply below_alloc | apply pw_below_drewN | apply below_drew1 | refine below_set ?_ GE516.out | refine below_set ?_ GE517.out) | exact HB.out))))
                  have n2_ := Aside0.mk (blk_below (g := gb516) (o := .cells #[.slice A0_0 l0_0.length c0_0, .slice A0_1 l0_1.length c0_1] 30 (0, 0)) (by (with_reducible repeat (first | refine blk_drewN ?_ _ | refine blk_drew ?_ | refine blk_alloc ?_ _)); exact BK516.out) hb)
                  have n3_ := Aside0.mk (blk_below (g := gb517) (o := .cells #[.slice none 0 0, .slice none 0 0] 30 (0, 0)) (by (with_reducible repeat (first | refine blk_drewN ?_ _ | refine blk_drew ?_ | refine blk_alloc ?_ _)); exact BK517.out) hb)
                  have n4_ := Aside0.mk (below_step (by repeat (first | (with_reducible first | exact HB.out | apply below_alloc | apply pw_below_drewN | apply below_drew1 | refine below_set ?_ GE516.out | refine below_set ?_ GE517.out) | exact HB.out)) hb)
                  clear HO522
                  clear BK516
                  clear BK517
                  clear HB
                  have HO522 := n0_
                  have HO528 := n1_
                  have BK516 := n2_
                  have BK517 := n3_
                  have HB := n4_
                  clear n0_ n1_ n2_ n3_ n4_
                  clear hb ho30
                  refine hK.out _ _ ⟨(blk_cell BK516.out 0).trans rfl, (blk_cell BK516.out 1).trans rfl⟩ (fun hHeld => ?_)
                  clear hK K
                  refine norm_ (a' := ?_) ?_ ?_
                  rotate_left
                  · show Act.put _ (some 31) _ = _
                    simp only [Act.put, List.setIfInBounds_toArray, List.set_cons_zero, List.set_cons_succ, i64_w, i32_w]
                    rfl
                  refine one_ (i := 5) (N := some 29) #[true, true, true, true, true, true, true, true, false, false, false, false] rfl rfl (one_of HT_.out (by kernel_rfl)) (by decide) (fun K hK => ?_)
                  refine goes_ Try.func67 (by kernel_rfl) rfl #[.slice A0_1 l0_1.length c0_1] (by rfl) rfl rfl (by (try simp only [List.map_toArray, List.map_cons, List.map_nil]); first | done | rfl | (simp only [List.length_drop, List.length_take]; rfl)) ?_
                  with_reducible refine (impl_copied.calls _ _ l0_1 t523 _ ?side1 ?side2 A23.out).mono ?_
                  (case side1 => repeat (first | exact (Kd.C_below HR0_1.out HB.out) | (with_reducible refine Kd.C_alloc ?_ _) | (with_reducible refine Kd.C_drewN ?_ _) | (with_reducible refine Kd.C_drew ?_)))
                  (case side2 => exact HC0_1.out)
                  rintro e w31 ⟨v524, rfl, ho0, hb⟩
                  refine ⟨_, rfl, ?_⟩
                  have n0_ := Aside0.mk (Kd.R_elder' (by (with_reducible repeat (first | apply Kd.R_alloc | apply Kd.R_drewN | apply Kd.R_drew)); exact HO522.out) (Kd.R_base ho0) hb)
                  have n1_ := Aside0.mk (Kd.R_elder' (by (with_reducible repeat (first | apply Kd.R_alloc | apply Kd.R_drewN | apply Kd.R_drew)); exact HO528.out) (Kd.R_base ho0) hb)
                  have n2_ := Aside0.mk (Kd.R_lower (Kd.R_new' (Kd.R_new' ho0 (Kd.R_lt (by (with_reducible repeat (first | apply Kd.R_alloc | apply Kd.R_drewN | apply Kd.R_drew)); exact HO522.out))) (Kd.R_lt (by (with_reducible repeat (first | apply Kd.R_alloc | apply Kd.R_drewN | apply Kd.R_drew)); exact HO528.out))) (below_size (by repeat (first | (with_reducible first | exact HB.out | apply below_alloc | apply pw_below_drewN | apply below_drew1 | refine below_set ?_ GE516.out | refine below_set ?_ GE517.out) | exact HB.out))))
                  have n3_ := Aside0.mk (blk_below (g := gb516) (o := .cells #[.slice A0_0 l0_0.length c0_0, .slice A0_1 l0_1.length c0_1] 30 (0, 0)) (by (with_reducible repeat (first | refine blk_drewN ?_ _ | refine blk_drew ?_ | refine blk_alloc ?_ _)); exact BK516.out) hb)
                  have n4_ := Aside0.mk (blk_below (g := gb517) (o := .cells #[.slice none 0 0, .slice none 0 0] 30 (0, 0)) (by (with_reducible repeat (first | refine blk_drewN ?_ _ | refine blk_drew ?_ | refine blk_alloc ?_ _)); exact BK517.out) hb)
                  have n5_ := Aside0.mk (below_step (by repeat (first | (with_reducible first | exact HB.out | apply below_alloc | apply pw_below_drewN | apply below_drew1 | refine below_set ?_ GE516.out | refine below_set ?_ GE517.out) | exact HB.out)) hb)
                  clear HO522
                  clear HO528
                  clear BK516
                  clear BK517
                  clear HB
                  have HO522 := n0_
                  have HO528 := n1_
                  have HO525 := n2_
                  have BK516 := n3_
                  have BK517 := n4_
                  have HB := n5_
                  clear n0_ n1_ n2_ n3_ n4_ n5_
                  (try clear hb)
                  (try clear hb2)
                  (try clear hk)
                  (try clear hi)
                  (try clear ho0)
                  refine hK.out _ _ ⟨(blk_cell BK516.out 0).trans rfl, (blk_cell BK516.out 1).trans rfl⟩ (fun hHeld => ?_)
                  clear hK K
                  refine norm_ (a' := ?_) ?_ ?_
                  rotate_left
                  · show Act.put _ (some 29) _ = _
                    simp only [Act.put, List.setIfInBounds_toArray, List.set_cons_zero, List.set_cons_succ, i64_w, i32_w]
                    rfl
                  exact norm_ (by simp only [putAll, Act.put, List.setIfInBounds_toArray, List.set_cons_zero, List.set_cons_succ]) (hCont (v521, v524, v527) _ ⟨hHeld, (by (with_reducible repeat (first | apply Kd.R_alloc | apply Kd.R_drewN | apply Kd.R_drew)); exact Kd.R_mono HO522.out (fun _ hk => ⟨hk.2, hk.1.2⟩)), (by (with_reducible repeat (first | apply Kd.R_alloc | apply Kd.R_drewN | apply Kd.R_drew)); exact Kd.R_mono HO525.out (fun _ hk => ⟨hk.1.2, hk.2⟩)), (by (with_reducible repeat (first | apply Kd.R_alloc | apply Kd.R_drewN | apply Kd.R_drew)); exact Kd.R_mono HO528.out (fun _ hk => ⟨hk.1.2, hk.2⟩)), (by (with_reducible repeat (first | refine blk_drewN ?_ _ | refine blk_drew ?_ | refine blk_alloc ?_ _)); exact BK516.out), (by (with_reducible repeat (first | refine blk_drewN ?_ _ | refine blk_drew ?_ | refine blk_alloc ?_ _)); exact BK517.out), (by repeat (first | (with_reducible first | exact HB.out | apply below_alloc | apply pw_below_drewN | apply below_drew1 | refine below_set ?_ GE516.out | refine below_set ?_ GE517.out) | exact HB.out))⟩)
              · skip
                refine Kd.R_lit_step Kd.string _ 9 ?hg (N := 31) ?hd (xs := ([a1] : List ByteArray)) (inner := [.string a1]) (ok := fun _ => True) (okp := fun _ => True) ?hr ?hp (fun _ hk => hk) trivial (Below.refl _ _) (Nat.le_refl _) (by simp) ?_; (case hd => rfl); (case hg => rfl); (case hr => first | (go_simp; done) | (go_simp; rfl)); (case hp => exact (Reps.one (show Kd.M Kd.string _ _ _ a1 [.string a1] from rfl) (Reps.none _ _)))
                intro v527 w28 ho29 hb hg_ hnew_
                clear hg_ hnew_
                (first | rw [← Ny526.out] at ho29 | (simp only [Int.reduceToNat] at ho29; rw [← Ny526.out] at ho29))
                have n0_ := Aside0.mk (Kd.R_lower ho29 (below_size (by repeat (first | (with_reducible first | exact HB.out | apply below_alloc | apply pw_below_drewN | apply below_drew1 | refine below_set ?_ GE516.out | refine below_set ?_ GE517.out) | exact HB.out))))
                have n1_ := Aside0.mk (blk_below (g := gb516) (o := .cells #[.slice A0_0 l0_0.length c0_0, .slice A0_1 l0_1.length c0_1] 30 (0, 0)) (by (with_reducible repeat (first | refine blk_drewN ?_ _ | refine blk_drew ?_ | refine blk_alloc ?_ _)); exact BK516.out) hb)
                have n2_ := Aside0.mk (blk_below (g := gb517) (o := .cells #[.slice none 0 0, .slice none 0 0] 30 (0, 0)) (by (with_reducible repeat (first | refine blk_drewN ?_ _ | refine blk_drew ?_ | refine blk_alloc ?_ _)); exact BK517.out) hb)
                have n3_ := Aside0.mk (below_step (by repeat (first | (with_reducible first | exact HB.out | apply below_alloc | apply pw_below_drewN | apply below_drew1 | refine below_set ?_ GE516.out | refine below_set ?_ GE517.out) | exact HB.out)) hb)
                clear BK516
                clear BK517
                clear HB
                have HO528 := n0_
                have BK516 := n1_
                have BK517 := n2_
                have HB := n3_
                clear n0_ n1_ n2_ n3_
                clear hb ho29
                refine hK.out _ _ ⟨(blk_cell BK516.out 0).trans rfl, (blk_cell BK516.out 1).trans rfl⟩ (fun hHeld => ?_)
                clear hK K
                refine norm_ (a' := ?_) ?_ ?_
                rotate_left
                · show Act.put _ (some 31) _ = _
                  simp only [Act.put, List.setIfInBounds_toArray, List.set_cons_zero, List.set_cons_succ, i64_w, i32_w]
                  rfl
                refine one_ (i := 2) (N := some 26) #[true, true, true, true, true, false, true, true, false, false, false, false] rfl rfl (one_of HT_.out (by kernel_rfl)) (by decide) (fun K hK => ?_)
                refine goes_ Try.func67 (by kernel_rfl) rfl #[.slice A0_0 l0_0.length c0_0] (by rfl) rfl rfl (by (try simp only [List.map_toArray, List.map_cons, List.map_nil]); first | done | rfl | (simp only [List.length_drop, List.length_take]; rfl)) ?_
                with_reducible refine (impl_copied.calls _ _ l0_0 t520 _ ?side1 ?side2 A22.out).mono ?_
                (case side1 => repeat (first | exact (Kd.C_below HR0_0.out HB.out) | (with_reducible refine Kd.C_alloc ?_ _) | (with_reducible refine Kd.C_drewN ?_ _) | (with_reducible refine Kd.C_drew ?_)))
                (case side2 => exact HC0_0.out)
                rintro e w30 ⟨v521, rfl, ho0, hb⟩
                refine ⟨_, rfl, ?_⟩
                have n0_ := Aside0.mk (Kd.R_elder' (by (with_reducible repeat (first | apply Kd.R_alloc | apply Kd.R_drewN | apply Kd.R_drew)); exact HO528.out) (Kd.R_base ho0) hb)
                have n1_ := Aside0.mk (Kd.R_lower (Kd.R_new' ho0 (Kd.R_lt (by (with_reducible repeat (first | apply Kd.R_alloc | apply Kd.R_drewN | apply Kd.R_drew)); exact HO528.out))) (below_size (by repeat (first | (with_reducible first | exact HB.out | apply below_alloc | apply pw_below_drewN | apply below_drew1 | refine below_set ?_ GE516.out | refine below_set ?_ GE517.out) | exact HB.out))))
                have n2_ := Aside0.mk (blk_below (g := gb516) (o := .cells #[.slice A0_0 l0_0.length c0_0, .slice A0_1 l0_1.length c0_1] 30 (0, 0)) (by (with_reducible repeat (first | refine blk_drewN ?_ _ | refine blk_drew ?_ | refine blk_alloc ?_ _)); exact BK516.out) hb)
                have n3_ := Aside0.mk (blk_below (g := gb517) (o := .cells #[.slice none 0 0, .slice none 0 0] 30 (0, 0)) (by (with_reducible repeat (first | refine blk_drewN ?_ _ | refine blk_drew ?_ | refine blk_alloc ?_ _)); exact BK517.out) hb)
                have n4_ := Aside0.mk (below_step (by repeat (first | (with_reducible first | exact HB.out | apply below_alloc | apply pw_below_drewN | apply below_drew1 | refine below_set ?_ GE516.out | refine below_set ?_ GE517.out) | exact HB.out)) hb)
                clear HO528
                clear BK516
                clear BK517
                clear HB
                have HO528 := n0_
                have HO522 := n1_
                have BK516 := n2_
                have BK517 := n3_
                have HB := n4_
                clear n0_ n1_ n2_ n3_ n4_
                (try clear hb)
                (try clear hb2)
                (try clear hk)
                (try clear hi)
                (try clear ho0)
                refine hK.out _ _ ⟨(blk_cell BK516.out 0).trans rfl, (blk_cell BK516.out 1).trans rfl⟩ (fun hHeld => ?_)
                clear hK K
                refine norm_ (a' := ?_) ?_ ?_
                rotate_left
                · show Act.put _ (some 26) _ = _
                  simp only [Act.put, List.setIfInBounds_toArray, List.set_cons_zero, List.set_cons_succ, i64_w, i32_w]
                  rfl
                refine one_ (i := 5) (N := some 29) #[true, true, true, true, true, true, true, true, false, false, false, false] rfl rfl (one_of HT_.out (by kernel_rfl)) (by decide) (fun K hK => ?_)
                refine goes_ Try.func67 (by kernel_rfl) rfl #[.slice A0_1 l0_1.length c0_1] (by rfl) rfl rfl (by (try simp only [List.map_toArray, List.map_cons, List.map_nil]); first | done | rfl | (simp only [List.length_drop, List.length_take]; rfl)) ?_
                with_reducible refine (impl_copied.calls _ _ l0_1 t523 _ ?side1 ?side2 A23.out).mono ?_
                (case side1 => repeat (first | exact (Kd.C_below HR0_1.out HB.out) | (with_reducible refine Kd.C_alloc ?_ _) | (with_reducible refine Kd.C_drewN ?_ _) | (with_reducible refine Kd.C_drew ?_)))
                (case side2 => exact HC0_1.out)
                rintro e w31 ⟨v524, rfl, ho0, hb⟩
                refine ⟨_, rfl, ?_⟩
                have n0_ := Aside0.mk (Kd.R_elder' (by (with_reducible repeat (first | apply Kd.R_alloc | apply Kd.R_drewN | apply Kd.R_drew)); exact HO528.out) (Kd.R_base ho0) hb)
                have n1_ := Aside0.mk (Kd.R_elder' (by (with_reducible repeat (first | apply Kd.R_alloc | apply Kd.R_drewN | apply Kd.R_drew)); exact HO522.out) (Kd.R_base ho0) hb)
                have n2_ := Aside0.mk (Kd.R_lower (Kd.R_new' (Kd.R_new' ho0 (Kd.R_lt (by (with_reducible repeat (first | apply Kd.R_alloc | apply Kd.R_drewN | apply Kd.R_drew)); exact HO528.out))) (Kd.R_lt (by (with_reducible repeat (first | apply Kd.R_alloc | apply Kd.R_drewN | apply Kd.R_drew)); exact HO522.out))) (below_size (by repeat (first | (with_reducible first | exact HB.out | apply below_alloc | apply pw_below_drewN | apply below_drew1 | refine below_set ?_ GE516.out | refine below_set ?_ GE517.out) | exact HB.out))))
                have n3_ := Aside0.mk (blk_below (g := gb516) (o := .cells #[.slice A0_0 l0_0.length c0_0, .slice A0_1 l0_1.length c0_1] 30 (0, 0)) (by (with_reducible repeat (first | refine blk_drewN ?_ _ | refine blk_drew ?_ | refine blk_alloc ?_ _)); exact BK516.out) hb)
                have n4_ := Aside0.mk (blk_below (g := gb517) (o := .cells #[.slice none 0 0, .slice none 0 0] 30 (0, 0)) (by (with_reducible repeat (first | refine blk_drewN ?_ _ | refine blk_drew ?_ | refine blk_alloc ?_ _)); exact BK517.out) hb)
                have n5_ := Aside0.mk (below_step (by repeat (first | (with_reducible first | exact HB.out | apply below_alloc | apply pw_below_drewN | apply below_drew1 | refine below_set ?_ GE516.out | refine below_set ?_ GE517.out) | exact HB.out)) hb)
                clear HO528
                clear HO522
                clear BK516
                clear BK517
                clear HB
                have HO528 := n0_
                have HO522 := n1_
                have HO525 := n2_
                have BK516 := n3_
                have BK517 := n4_
                have HB := n5_
                clear n0_ n1_ n2_ n3_ n4_ n5_
                (try clear hb)
                (try clear hb2)
                (try clear hk)
                (try clear hi)
                (try clear ho0)
                refine hK.out _ _ ⟨(blk_cell BK516.out 0).trans rfl, (blk_cell BK516.out 1).trans rfl⟩ (fun hHeld => ?_)
                clear hK K
                refine norm_ (a' := ?_) ?_ ?_
                rotate_left
                · show Act.put _ (some 29) _ = _
                  simp only [Act.put, List.setIfInBounds_toArray, List.set_cons_zero, List.set_cons_succ, i64_w, i32_w]
                  rfl
                exact norm_ (by simp only [putAll, Act.put, List.setIfInBounds_toArray, List.set_cons_zero, List.set_cons_succ]) (hCont (v521, v524, v527) _ ⟨hHeld, (by (with_reducible repeat (first | apply Kd.R_alloc | apply Kd.R_drewN | apply Kd.R_drew)); exact Kd.R_mono HO522.out (fun _ hk => ⟨hk.2, hk.1.2⟩)), (by (with_reducible repeat (first | apply Kd.R_alloc | apply Kd.R_drewN | apply Kd.R_drew)); exact Kd.R_mono HO525.out (fun _ hk => ⟨hk.2, hk.1.2⟩)), (by (with_reducible repeat (first | apply Kd.R_alloc | apply Kd.R_drewN | apply Kd.R_drew)); exact Kd.R_mono HO528.out (fun _ hk => ⟨hk.1.2, hk.2⟩)), (by (with_reducible repeat (first | refine blk_drewN ?_ _ | refine blk_drew ?_ | refine blk_alloc ?_ _)); exact BK516.out), (by (with_reducible repeat (first | refine blk_drewN ?_ _ | refine blk_drew ?_ | refine blk_alloc ?_ _)); exact BK517.out), (by repeat (first | (with_reducible first | exact HB.out | apply below_alloc | apply pw_below_drewN | apply below_drew1 | refine below_set ?_ GE516.out | refine below_set ?_ GE517.out) | exact HB.out))⟩)
            rintro ⟨v521, v524, v527⟩ w32 ⟨hS_, h0_, h1_, h2_, h3_, h4_, h5_⟩
            have n0_ : Aside0 (Kd.R Kd.string 9 w32 w.heap.size (fun k_ => some k_ ≠ (v524 : Value).ownBlock ∧ some k_ ≠ (v527 : Value).ownBlock) v521 t520) := ⟨h0_⟩
            have n1_ : Aside0 (Kd.R Kd.string 9 w32 w.heap.size (fun k_ => some k_ ≠ (v521 : Value).ownBlock ∧ some k_ ≠ (v527 : Value).ownBlock) v524 t523) := ⟨h1_⟩
            have n2_ : Aside0 (Kd.R Kd.string 9 w32 w.heap.size (fun k_ => some k_ ≠ (v521 : Value).ownBlock ∧ some k_ ≠ (v524 : Value).ownBlock) v527 y526) := ⟨h2_⟩
            have n3_ : Aside0 (w32.heap[gb516]? = some (.cells #[.slice A0_0 l0_0.length c0_0, .slice A0_1 l0_1.length c0_1] 30 (0, 0))) := ⟨h3_⟩
            have n4_ : Aside0 (w32.heap[gb517]? = some (.cells #[.slice none 0 0, .slice none 0 0] 30 (0, 0))) := ⟨h4_⟩
            have n5_ : Aside0 (Below w.heap.size w w32) := ⟨h5_⟩
            clear BK516
            clear BK517
            clear HB
            clear h0_ h1_ h2_ h3_ h4_ h5_
            have HO522 := n0_
            have HO525 := n1_
            have HO528 := n2_
            have BK516 := n3_
            have BK517 := n4_
            have HB := n5_
            clear n0_ n1_ n2_ n3_ n4_ n5_
            have hHeld : w32.cell? ⟨gb516, 0, none⟩ = some (.slice A0_0 l0_0.length c0_0) ∧ w32.cell? ⟨gb516, 1, none⟩ = some (.slice A0_1 l0_1.length c0_1) := hS_
            obtain ⟨Ao34, co34, eo34⟩ := Kd.R_slice HO528.out
            (first | subst eo34 | (injection eo34 with f1_ f2_ f3_; have f4_ := f1_.symm; have f5_ := f3_.symm; clear f1_ f2_ f3_; subst f4_; subst f5_))
            refine norm_ (a' := ?_) ?_ ?_
            rotate_left
            · simp only [putAll, Act.put, List.setIfInBounds_toArray, List.set_cons_zero, List.set_cons_succ]
              rfl
            refine one_ (i := 8) (N := some 32) #[true, true, true, true, true, true, true, true, true, false, false, false] rfl rfl (one_of HT_.out (by kernel_rfl)) (by decide) (fun K hK => ?_)
            refine Kd.R_append_rows_step Kd.string (w0 := w) w.heap.size (by rfl) (.tmp 29) (.tmp 31) 25 9 (.string ⟨#[]⟩) 16 rfl Try.underlying25 info9 rfl (by decide) (by omega) v524 t523 y526 _ _ _ (fun k_ => some k_ ≠ (v521 : Value).ownBlock ∧ some k_ ≠ (.slice Ao34 y526.length co34 : Value).ownBlock) (fun _ => False) rfl rfl ?aO ?aR (fun _ _ h => h) (fun _ h => h.elim) ?aF ?aB ?aS ?aL ?_
            (case aR => repeat (first | exact (Kd.R_reads' HO528.out).2.2 | (with_reducible refine Kd.C_alloc ?_ _) | (with_reducible refine Kd.C_drewN ?_ _) | (with_reducible refine Kd.C_drew ?_)))
            (case aB => exact (by repeat (first | (with_reducible first | exact HB.out | apply below_alloc | apply pw_below_drewN | apply below_drew1 | refine below_set ?_ GE516.out | refine below_set ?_ GE517.out) | exact HB.out)))
            (case aF => exact (fun k_ hk => ⟨Kd.fresh' (Kd.R_lt (by (with_reducible repeat (first | apply Kd.R_alloc | apply Kd.R_drewN | apply Kd.R_drew)); exact HO522.out)) k_ hk, Kd.fresh' (Kd.R_lt (by (with_reducible repeat (first | apply Kd.R_alloc | apply Kd.R_drewN | apply Kd.R_drew)); exact HO528.out)) k_ hk⟩))
            (case aO => exact (by (with_reducible repeat (first | apply Kd.R_alloc | apply Kd.R_drewN | apply Kd.R_drew)); exact HO525.out))
            (case aS => exact (below_size (by repeat (first | (with_reducible first | exact HB.out | apply below_alloc | apply pw_below_drewN | apply below_drew1 | refine below_set ?_ GE516.out | refine below_set ?_ GE517.out) | exact HB.out))))
            (case aL => have := LMc24.out; omega)
            intro v530 w33 ho hb hg hat
            rw [← Ny529.out] at ho
            have n0_ := Aside0.mk (blk_grown (g := gb516) (o := .cells #[.slice A0_0 l0_0.length c0_0, .slice A0_1 l0_1.length c0_1] 30 (0, 0)) (by (with_reducible repeat (first | refine blk_drewN ?_ _ | refine blk_drew ?_ | refine blk_alloc ?_ _)); exact BK516.out) hg (Kd.R_ne HO525.out BK516.out (by decide)))
            have n1_ := Aside0.mk (blk_grown (g := gb517) (o := .cells #[.slice none 0 0, .slice none 0 0] 30 (0, 0)) (by (with_reducible repeat (first | refine blk_drewN ?_ _ | refine blk_drew ?_ | refine blk_alloc ?_ _)); exact BK517.out) hg (Kd.R_ne HO525.out BK517.out (by decide)))
            have n2_ := Aside0.mk (Kd.R_after (ok := (fun k_ => some k_ ≠ (.slice Ao34 y526.length co34 : Value).ownBlock)) (by (with_reducible repeat (first | apply Kd.R_alloc | apply Kd.R_drewN | apply Kd.R_drew)); exact Kd.R_mono HO522.out (fun _ hk => ⟨hk.2, hk.1⟩)) hg hat)
            have n3_ := Aside0.mk (Kd.R_after (ok := (fun k_ => some k_ ≠ (v521 : Value).ownBlock)) (by (with_reducible repeat (first | apply Kd.R_alloc | apply Kd.R_drewN | apply Kd.R_drew)); exact HO528.out) hg hat)
            have n4_ := Aside0.mk (hb)
            have n5_ := Aside0.mk (ho)
            clear BK516
            clear BK517
            clear HO522
            clear HO528
            clear HB
            clear HO525
            have BK516 := n0_
            have BK517 := n1_
            have HO522 := n2_
            have HO528 := n3_
            have HB := n4_
            have HO531 := n5_
            clear n0_ n1_ n2_ n3_ n4_ n5_
            clear ho hb hg hat
            obtain ⟨Ao35, co35, eo35⟩ := Kd.R_slice HO531.out
            (first | subst eo35 | (injection eo35 with f1_ f2_ f3_; have f4_ := f1_.symm; have f5_ := f3_.symm; clear f1_ f2_ f3_; subst f4_; subst f5_))
            obtain ⟨Ao36, co36, eo36⟩ := Kd.R_slice HO522.out
            (first | subst eo36 | (injection eo36 with f1_ f2_ f3_; have f4_ := f1_.symm; have f5_ := f3_.symm; clear f1_ f2_ f3_; subst f4_; subst f5_))
            refine hK.out _ _ ⟨(blk_cell BK516.out 0).trans rfl, (blk_cell BK516.out 1).trans rfl⟩ (fun hHeld => ?_)
            clear hK K
            refine norm_ (a' := ?_) ?_ ?_
            rotate_left
            · show Act.put _ (some 32) _ = _
              simp only [Act.put, List.setIfInBounds_toArray, List.set_cons_zero, List.set_cons_succ, i64_w, i32_w]
              rfl
            refine pure_ (i := 9) (N := some 33) (v := ?_) (a' := ?_) #[true, true, true, true, true, true, true, true, true, true, false, false] rfl rfl (any_of HT_.out (by kernel_rfl)) (fun _ _ _ h => h) (Or.inl ⟨by rfl, ?_⟩) ?_ ?_
            rotate_left
            · intro w'
              go_simp
              with_reducible rfl
            rotate_left
            · simp only [Act.put, List.setIfInBounds_toArray, List.set_cons_zero, List.set_cons_succ, i64_w, i32_w]
              rfl
            refine one_ (i := 10) (N := none) #[true, true, true, true, true, true, true, true, true, true, true, false] rfl rfl (one_of HT_.out (by kernel_rfl)) (by decide) (fun K hK => ?_)
            have hs37 : w33.cell? ⟨gb517, 0, none⟩ = some (.slice none 0 0) := (blk_cell BK517.out 0).trans rfl
            have hfs37 := blk_frozen BK517.out 0
            have hns37_0 := NB516_517.out
            have hms37_0 := NB517_516.out
            have hs38 : w33.cell? ⟨gb517, 1, none⟩ = some (.slice none 0 0) := (blk_cell BK517.out 1).trans rfl
            have hfs38 := blk_frozen BK517.out 1
            have hns38_0 := NB516_517.out
            have hms38_0 := NB517_516.out
            refine skip_ (w1 := ?_) (by rfl) rfl ?_ ?_
            rotate_left
            · go_simp
              rfl
            refine hK.out _ _ ⟨((cell_far (p := ⟨gb517, _, none⟩) NB516_517.out _).trans (((cell_far (p := ⟨gb517, _, none⟩) NB516_517.out _).trans (hHeld.1)))), ((cell_far (p := ⟨gb517, _, none⟩) NB516_517.out _).trans (((cell_far (p := ⟨gb517, _, none⟩) NB516_517.out _).trans (hHeld.2))))⟩ (fun hHeld => ?_)
            clear hK K
            refine pure_ (i := 11) (N := some 5) (v := ?_) (a' := ?_) #[true, true, true, true, true, true, true, true, true, true, true, true] rfl rfl (any_of HT_.out (by kernel_rfl)) (fun _ _ _ h => h) (Or.inl ⟨by rfl, ?_⟩) ?_ ?_
            rotate_left
            · intro w'
              go_simp
              with_reducible rfl
            rotate_left
            · simp only [Act.put, List.setIfInBounds_toArray, List.set_cons_zero, List.set_cons_succ, i64_w, i32_w]
              rfl
            refine done_ (done_of HT_.out (by kernel_rfl)) ?_
            try go_wp2
            refine bodyPost_ret (results_ct rfl _ _ gb517 30 #[.slice Ao36 t520.length co36, .slice Ao35 y529.length co35] (0, 0) _ rfl (by (with_reducible repeat (first | refine blk_drewN ?_ _ | refine blk_drew ?_ | refine blk_alloc ?_ _)); refine blk_put (cs := #[.slice Ao36 t520.length co36, .slice none 0 0]) ?_ 1 _ rfl; (with_reducible repeat (first | refine blk_drewN ?_ _ | refine blk_drew ?_ | refine blk_alloc ?_ _)); refine blk_put (cs := #[.slice none 0 0, .slice none 0 0]) ?_ 0 _ rfl; (with_reducible repeat (first | refine blk_drewN ?_ _ | refine blk_drew ?_ | refine blk_alloc ?_ _)); exact BK517.out) Try.underlying30 rfl (by kernel_rfl)) rfl ?_
            exact ⟨_, _, by first | rfl | (simp [errW_none, errW_some] <;> rfl) | (simp [*, errW_none, errW_some] <;> rfl), by (with_reducible repeat (first | apply Kd.R_alloc | apply Kd.R_drewN | apply Kd.R_drew)); exact Kd.R_mono (Kd.R_far (p := ⟨gb517, 1, none⟩) (Kd.R_far (p := ⟨gb517, 0, none⟩) (Kd.R_types HO522.out BK517.out (by decide)) (fun _ hk => hk.2) (.slice Ao36 t520.length co36)) (fun _ hk => hk.2) (.slice Ao35 y529.length co35)) (fun _ hk => hk.1.2), by (with_reducible repeat (first | apply Kd.R_alloc | apply Kd.R_drewN | apply Kd.R_drew)); exact Kd.R_mono (Kd.R_far (p := ⟨gb517, 1, none⟩) (Kd.R_far (p := ⟨gb517, 0, none⟩) (Kd.R_types HO531.out BK517.out (by decide)) (fun _ hk => hk.2) (.slice Ao36 t520.length co36)) (fun _ hk => hk.2) (.slice Ao35 y529.length co35)) (fun _ hk => hk.1.1), by repeat (first | (with_reducible first | exact HB.out | apply below_alloc | apply pw_below_drewN | apply below_drew1 | refine below_set ?_ GE516.out | refine below_set ?_ GE517.out) | exact HB.out)⟩
          · rw [if_neg c24] at H
            exact absurd H (by simp)

end Go.Proofs.Ytpnblgbkjbpeoaa.P

/- Plain laws of logs: valid, Append, Sync, Crash of the program and of the reference come to one function each. -/
namespace Go.Proofs.Ytpnblgbkjbpeoaa.Q
open Go.RowKit Go.Proofs.Ytpnblgbkjbpeoaa.P Go.Proofs.YtpnblgbkjbpeoaaW.PrintWords Go.Proofs.YtpnblgbkjbpeoaaW.PrintLast Go.Proofs.YtpnblgbkjbpeoaaW.PrintMore
set_option linter.unusedVariables false

def fitB (s : ByteArray) : Bool := decide ((s.size : Int) ≤ 5000)
def logB (a b : List ByteArray) : Bool := if a.all fitB = true then (if b.all fitB = true then decide ((a.length : Int) + (b.length : Int) ≤ 4000) else false) else false
theorem all_drop (l : List ByteArray) (i : Nat) (h : i < l.length) : (l.drop i).all fitB = (fitB (rdOf ByteArray.empty l (i : Int)) && (l.drop (i + 1)).all fitB) := by
  rw [rd_drop ByteArray.empty l i h, List.all_cons]
theorem wlen {a b : List ByteArray} (ha : a.length ≤ 140737488351232) (hb : b.length ≤ 140737488351232) : wrap64 ((a.length : Int) + (b.length : Int)) = (a.length : Int) + (b.length : Int) := by unfold wrap64; omega
theorem sVL1 (a b : List ByteArray) (ha : a.length ≤ 140737488351232) (hb : b.length ≤ 140737488351232) (n : Nat) : ∀ (i : Nat), b.length - i = n → i ≤ b.length →
    Ev (fun k => spec_ValidLog.l1 k (i : Int) a b) (if (b.drop i).all fitB = true then decide ((a.length : Int) + (b.length : Int) ≤ 4000) else false) := by
  induction n with
  | zero =>
    intro i hn hi
    rw [List.drop_of_length_le (by omega)]
    refine Ev.step (f := fun _ => some (decide ((a.length : Int) + (b.length : Int) ≤ 4000))) (fun k => ?_) (Ev.now _)
    simp only [spec_ValidLog.l1]; rw [if_neg (by omega), wlen ha hb]
  | succ n ih =>
    intro i hn hi
    have hlt : i < b.length := by omega
    rw [all_drop b i hlt]
    by_cases c : fitB (rdOf ByteArray.empty b (i : Int)) = true
    · rw [c, Bool.true_and]
      refine Ev.step (fun k => ?_) (ih (i + 1) (by omega) (by omega))
      have c' := of_decide_eq_true c
      simp only [spec_ValidLog.l1]; rw [if_pos (by omega), if_pos (by omega), if_neg (by omega), wsucc hlt hb]
    · have c0 : fitB (rdOf ByteArray.empty b (i : Int)) = false := by simpa using c
      rw [c0, Bool.false_and]
      refine Ev.step (f := fun _ => some false) (fun k => ?_) (Ev.now _)
      have c' := of_decide_eq_false c0
      simp only [spec_ValidLog.l1]; rw [if_pos (by omega), if_pos (by omega), if_pos (by omega)]
theorem sVL0 (a b : List ByteArray) (ha : a.length ≤ 140737488351232) (hb : b.length ≤ 140737488351232) (n : Nat) : ∀ (i : Nat), a.length - i = n → i ≤ a.length →
    Ev (fun k => spec_ValidLog.l0 k (i : Int) a b) (if (a.drop i).all fitB = true then (if b.all fitB = true then decide ((a.length : Int) + (b.length : Int) ≤ 4000) else false) else false) := by
  induction n with
  | zero =>
    intro i hn hi
    rw [List.drop_of_length_le (by omega)]
    refine Ev.step (f := fun k => spec_ValidLog.l1 k ((0 : Nat) : Int) a b) (fun k => ?_) (sVL1 a b ha hb (b.length - 0) 0 rfl (by omega))
    simp only [spec_ValidLog.l0]; rw [if_neg (by omega)]; rfl
  | succ n ih =>
    intro i hn hi
    have hlt : i < a.length := by omega
    rw [all_drop a i hlt]
    by_cases c : fitB (rdOf ByteArray.empty a (i : Int)) = true
    · rw [c, Bool.true_and]
      refine Ev.step (fun k => ?_) (ih (i + 1) (by omega) (by omega))
      have c' := of_decide_eq_true c
      simp only [spec_ValidLog.l0]; rw [if_pos (by omega), if_pos (by omega), if_neg (by omega), wsucc hlt ha]
    · have c0 : fitB (rdOf ByteArray.empty a (i : Int)) = false := by simpa using c
      rw [c0, Bool.false_and]
      refine Ev.step (f := fun _ => some false) (fun k => ?_) (Ev.now _)
      have c' := of_decide_eq_false c0
      simp only [spec_ValidLog.l0]; rw [if_pos (by omega), if_pos (by omega), if_pos (by omega)]
theorem sVL_ev (a b : List ByteArray) (ha : a.length ≤ 140737488351232) (hb : b.length ≤ 140737488351232) : Ev (fun k => spec_ValidLog.f k a b) (logB a b) :=
  Ev.congr (fun k => by unfold spec_ValidLog.f; rfl) (sVL0 a b ha hb (a.length - 0) 0 rfl (by omega))
theorem iVL1 (o : List (List ByteArray)) (j : Int) (x a b : List ByteArray) (hx : x.length ≤ 140737488351232) (r : Bool) (hr : Ev (fun k => impl_ValidLog.l0 k o 2 (wrap64 (j + 1)) a b) r) (n : Nat) : ∀ (i : Nat), x.length - i = n → i ≤ x.length →
    Ev (fun k => impl_ValidLog.l1 k o 2 j x (x.length : Int) (i : Int) a b) (if (x.drop i).all fitB = true then r else false) := by
  induction n with
  | zero =>
    intro i hn hi
    rw [List.drop_of_length_le (by omega)]
    refine Ev.step (fun k => ?_) hr
    simp only [impl_ValidLog.l1]; rw [if_neg (by omega)]
  | succ n ih =>
    intro i hn hi
    have hlt : i < x.length := by omega
    rw [all_drop x i hlt]
    have hf : impl_entryFits.f (rdOf ByteArray.empty x (i : Int)) = some (fitB (rdOf ByteArray.empty x (i : Int))) := rfl
    by_cases c : fitB (rdOf ByteArray.empty x (i : Int)) = true
    · rw [c, Bool.true_and]
      refine Ev.step (fun k => ?_) (ih (i + 1) (by omega) (by omega))
      simp only [impl_ValidLog.l1]; rw [if_pos (by omega), if_pos (by omega), if_pos (by omega), hf, Option.bind_some, if_pos c, wsucc hlt hx]
    · have c0 : fitB (rdOf ByteArray.empty x (i : Int)) = false := by simpa using c
      rw [c0, Bool.false_and]
      refine Ev.step (f := fun _ => some false) (fun k => ?_) (Ev.now _)
      simp only [impl_ValidLog.l1]; rw [if_pos (by omega), if_pos (by omega), if_pos (by omega), hf, Option.bind_some, if_neg c]
theorem iVL_ev (a b : List ByteArray) (ha : a.length ≤ 140737488351232) (hb : b.length ≤ 140737488351232) : Ev (fun k => impl_ValidLog.f k a b) (logB a b) := by
  have h2 : Ev (fun k => impl_ValidLog.l0 k [a, b] 2 (wrap64 (1 + 1)) a b) (decide ((a.length : Int) + (b.length : Int) ≤ 4000)) := by
    refine Ev.step (f := fun _ => some (decide ((a.length : Int) + (b.length : Int) ≤ 4000))) (fun k => ?_) (Ev.now _)
    simp only [impl_ValidLog.l0]; rw [if_neg (by unfold wrap64; omega), wlen ha hb]
  have h1 : Ev (fun k => impl_ValidLog.l0 k [a, b] 2 (wrap64 (0 + 1)) a b) (if b.all fitB = true then decide ((a.length : Int) + (b.length : Int) ≤ 4000) else false) := by
    have := iVL1 [a, b] 1 b a b hb _ h2 (b.length - 0) 0 rfl (by omega)
    refine Ev.step (fun k => ?_) this
    have e : wrap64 (0 + 1) = 1 := by unfold wrap64; omega
    simp only [impl_ValidLog.l0]; rw [e, if_pos (by omega), if_pos (by omega), if_pos (by simp)]; rfl
  have h0 : Ev (fun k => impl_ValidLog.l0 k [a, b] 2 0 a b) (logB a b) := by
    have := iVL1 [a, b] 0 a a b ha _ h1 (a.length - 0) 0 rfl (by omega)
    refine Ev.step (fun k => ?_) this
    simp only [impl_ValidLog.l0]; rw [if_pos (by omega), if_pos (by omega), if_pos (by simp)]; rfl
  exact Ev.congr (fun k => by unfold impl_ValidLog.f; rfl) h0
theorem logB_le {a b : List ByteArray} (h : logB a b = true) : a.length + b.length ≤ 4000 := by
  unfold logB at h
  split at h
  · split at h
    · have := of_decide_eq_true h; omega
    · cases h
  · cases h
/-! ### Sync, Crash, Append -/
def syncL (a b : List ByteArray) : List ByteArray × List ByteArray := if logB a b = true then (a ++ b, []) else ([], [])
theorem sSync_ev (a b : List ByteArray) (ha : a.length ≤ 140737488351232) (hb : b.length ≤ 140737488351232) : Ev (fun k => spec_Sync.f k a b) (syncL a b) := by
  refine Ev.bind (sVL_ev a b ha hb) ?_
  unfold syncL
  by_cases c : logB a b = true
  · have := logB_le c
    rw [if_pos c]
    refine Ev.congr (fun k => ?_) (Ev.now _)
    rw [if_pos c]; simp only [Option.bind_some, List.nil_append, List.length_nil]
    rw [if_pos (by omega), if_pos (by omega)]
  · rw [if_neg c]
    refine Ev.congr (fun k => ?_) (Ev.now _)
    rw [if_neg c]
theorem iCopied (a : List ByteArray) (ha : a.length < 8796093022208) : impl_copied.f a = some a := by
  unfold impl_copied.f; rw [if_pos (by simpa using ha)]; rfl
theorem iSync_ev (a b : List ByteArray) (ha : a.length ≤ 140737488351232) (hb : b.length ≤ 140737488351232) : Ev (fun k => impl_Sync.f k a b) (syncL a b) := by
  refine Ev.bind (iVL_ev a b ha hb) ?_
  unfold syncL
  by_cases c : logB a b = true
  · have := logB_le c
    rw [if_pos c]
    refine Ev.congr (fun k => ?_) (Ev.now _)
    rw [if_pos c, iCopied a (by omega), Option.bind_some, if_pos (by omega)]
  · rw [if_neg c]
    refine Ev.congr (fun k => ?_) (Ev.now _)
    rw [if_neg c]
def crashL (a b : List ByteArray) (n : Int) : List ByteArray × List ByteArray := if logB a b = true then (a ++ b.take n.toNat, []) else ([], [])
theorem sCrash_ev (a b : List ByteArray) (n : Int) (ha : a.length ≤ 140737488351232) (hb : b.length ≤ 140737488351232) : Ev (fun k => spec_Crash.f k a b n) (crashL a b n) := by
  refine Ev.bind (sVL_ev a b ha hb) ?_
  unfold crashL
  by_cases c : logB a b = true
  · have hh := logB_le c
    rw [if_pos c]
    refine Ev.congr (fun k => ?_) (Ev.now _)
    have ht : ∀ m, (b.take m).length ≤ b.length := fun m => List.length_take_le' m b
    rw [if_pos c]; simp only [Option.bind_some, List.nil_append, List.length_nil]
    by_cases c1 : n < 0
    · rw [if_pos c1, if_neg (by omega), if_pos (by omega), if_pos (by omega), if_pos (by have := ht 0; omega)]
      have e : n.toNat = 0 := by omega
      rw [e]
    · rw [if_neg c1]
      by_cases c2 : n > (b.length : Int)
      · rw [if_pos c2, if_pos (by omega), if_pos (by omega), if_pos (by omega), if_pos (by have := ht ((b.length : Int)).toNat; omega)]
        rw [List.take_of_length_le (i := n.toNat) (by omega), List.take_of_length_le (by omega)]
      · rw [if_neg c2, if_pos (by omega), if_pos (by omega), if_pos (by omega), if_pos (by have := ht n.toNat; omega)]
  · rw [if_neg c]
    refine Ev.congr (fun k => ?_) (Ev.now _)
    rw [if_neg c]
theorem iCrash_ev (a b : List ByteArray) (n : Int) (ha : a.length ≤ 140737488351232) (hb : b.length ≤ 140737488351232) : Ev (fun k => impl_Crash.f k a b n) (crashL a b n) := by
  refine Ev.bind (iVL_ev a b ha hb) ?_
  unfold crashL
  by_cases c : logB a b = true
  · have hh := logB_le c
    rw [if_pos c]
    refine Ev.congr (fun k => ?_) (Ev.now _)
    have ht : ∀ m, (b.take m).length ≤ b.length := fun m => List.length_take_le' m b
    have e0 : 0 ≤ mx 0 (mn n (b.length : Int)) ∧ mx 0 (mn n (b.length : Int)) ≤ (b.length : Int) := by unfold mx mn; split <;> split <;> omega
    have e : b.take (mx 0 (mn n (b.length : Int))).toNat = b.take n.toNat := by
      by_cases c1 : n ≤ (b.length : Int)
      · have : (mx 0 (mn n (b.length : Int))).toNat = n.toNat := by unfold mx mn; split <;> split <;> omega
        rw [this]
      · have : (mx 0 (mn n (b.length : Int))).toNat = b.length := by unfold mx mn; split <;> split <;> omega
        rw [this, List.take_of_length_le (Nat.le_refl _), List.take_of_length_le (by omega)]
    rw [if_pos c, iCopied a (by omega), Option.bind_some, if_pos e0.1, if_pos e0.2, if_pos (by have := ht (mx 0 (mn n (b.length : Int))).toNat; omega), e]
  · rw [if_neg c]
    refine Ev.congr (fun k => ?_) (Ev.now _)
    rw [if_neg c]
def appL (a b : List ByteArray) (s : ByteArray) : List ByteArray × List ByteArray × Int :=
  if logB a b = true then (if fitB s = true then (if (a.length : Int) + (b.length : Int) ≥ 4000 then ([], [], 2) else (a, b ++ [s], 0)) else ([], [], 1)) else ([], [], 1)
theorem sApp_ev (a b : List ByteArray) (s : ByteArray) (ha : a.length ≤ 140737488351232) (hb : b.length ≤ 140737488351232) : Ev (fun k => spec_Append.f k a b s) (appL a b s) := by
  have hj1 : Ev (fun k => spec_Append.j0 k s true a b) (([], [], 1) : List ByteArray × List ByteArray × Int) := by
    refine Ev.step (f := fun _ => some (([], [], 1) : List ByteArray × List ByteArray × Int)) (fun k => ?_) (Ev.now _)
    simp only [spec_Append.j0]; rfl
  refine Ev.bind (sVL_ev a b ha hb) ?_
  unfold appL
  by_cases c : logB a b = true
  · have hh := logB_le c
    rw [if_pos c]
    by_cases c1 : fitB s = true
    · have c1' := of_decide_eq_true c1
      rw [if_pos c1]
      have e : decide ((s.size : Int) > 5000) = false := decide_eq_false (by omega)
      have e2 : spec_l2Log.f a b = some (a, b) := by
        unfold spec_l2Log.f; simp only [Option.bind_some, List.nil_append, List.length_nil]; rw [if_pos (by omega), if_pos (by omega)]
      refine Ev.congr (g := _) (f := fun k => spec_Append.j0 k s false a b) (fun k => by rw [if_pos c, e]) ?_
      by_cases c2 : (a.length : Int) + (b.length : Int) ≥ 4000
      · rw [if_pos c2]
        refine Ev.step (f := fun _ => some (([], [], 2) : List ByteArray × List ByteArray × Int)) (fun k => ?_) (Ev.now _)
        simp only [spec_Append.j0]; rw [if_neg (by simp), wlen ha hb, if_pos c2]
      · rw [if_neg c2]
        refine Ev.step (f := fun _ => some ((a, b ++ [s], 0) : List ByteArray × List ByteArray × Int)) (fun k => ?_) (Ev.now _)
        simp only [spec_Append.j0]; rw [if_neg (by simp), wlen ha hb, if_neg c2, e2, Option.bind_some, if_pos (by show b.length < _; omega)]
    · rw [if_neg c1]
      have c1' := of_decide_eq_false (by simpa using c1 : fitB s = false)
      have e : decide ((s.size : Int) > 5000) = true := decide_eq_true (by omega)
      exact Ev.congr (fun k => by rw [if_pos c, e]) hj1
  · rw [if_neg c]
    exact Ev.congr (fun k => by rw [if_neg c]) hj1
theorem iApp_ev (a b : List ByteArray) (s : ByteArray) (ha : a.length ≤ 140737488351232) (hb : b.length ≤ 140737488351232) : Ev (fun k => impl_Append.f k a b s) (appL a b s) := by
  have hj1 : Ev (fun k => impl_Append.j0 k s true a b) (([], [], 1) : List ByteArray × List ByteArray × Int) := by
    refine Ev.step (f := fun _ => some (([], [], 1) : List ByteArray × List ByteArray × Int)) (fun k => ?_) (Ev.now _)
    simp only [impl_Append.j0]; rfl
  have hf : impl_entryFits.f s = some (fitB s) := rfl
  refine Ev.bind (iVL_ev a b ha hb) ?_
  unfold appL
  by_cases c : logB a b = true
  · have hh := logB_le c
    rw [if_pos c]
    by_cases c1 : fitB s = true
    · rw [if_pos c1]
      refine Ev.congr (g := _) (f := fun k => impl_Append.j0 k s false a b) (fun k => by rw [if_pos c, hf, Option.bind_some, c1]; rfl) ?_
      by_cases c2 : (a.length : Int) + (b.length : Int) ≥ 4000
      · rw [if_pos c2]
        refine Ev.step (f := fun _ => some (([], [], 2) : List ByteArray × List ByteArray × Int)) (fun k => ?_) (Ev.now _)
        simp only [impl_Append.j0]; rw [if_neg (by simp), wlen ha hb, if_pos (by omega)]
      · rw [if_neg c2]
        refine Ev.step (f := fun _ => some ((a, b ++ [s], 0) : List ByteArray × List ByteArray × Int)) (fun k => ?_) (Ev.now _)
        simp only [impl_Append.j0]; rw [if_neg (by simp), wlen ha hb, if_neg (by omega), iCopied a (by omega), Option.bind_some, iCopied b (by omega), Option.bind_some, Option.bind_some, if_pos (by simp; omega)]
    · rw [if_neg c1]
      have c0 : fitB s = false := by simpa using c1
      exact Ev.congr (fun k => by rw [if_pos c, hf, Option.bind_some, c0]; rfl) hj1
  · rw [if_neg c]
    exact Ev.congr (fun k => by rw [if_neg c]) hj1
end Go.Proofs.Ytpnblgbkjbpeoaa.Q

/- What the exact laws of logs share. -/
namespace Go.Proofs.Ytpnblgbkjbpeoaa.Q
open Go.RowKit Go.Proofs.Ytpnblgbkjbpeoaa.P Go.Proofs.YtpnblgbkjbpeoaaW.PrintWords Go.Proofs.YtpnblgbkjbpeoaaW.PrintLast Go.Proofs.YtpnblgbkjbpeoaaW.PrintMore
set_option linter.unusedVariables false

theorem szLog_ev (a b : List ByteArray) (ha : a.length ≤ 140737488351232) (hb : b.length ≤ 140737488351232) (sa : ∀ x ∈ a, x.size ≤ 140737488351232) (sb : ∀ x ∈ b, x.size ≤ 140737488351232) :
    ∃ r, Ev (fun k => laws_szLog.f k a b 1048576) r ∧ (r < 0 ∨ (a.length ≤ 1048576 ∧ b.length ≤ 1048576)) := by
  have e1 := szS_ev a ha sa 1048576 (by omega) (by omega)
  by_cases c : szS a 1048576 < 0
  · exact ⟨-1, Ev.bind e1 (Ev.congr (fun k => if_pos c) (Ev.now _)), .inl (by omega)⟩
  · have h1 := szS_le (l := a) (a := 1048576) (by omega)
    have e2 := szS_ev b hb sb (szS a 1048576) (by omega) (by omega)
    by_cases c2 : szS b (szS a 1048576) < 0
    · exact ⟨-1, Ev.bind e1 (Ev.congr (fun k => if_neg c) (Ev.bind e2 (Ev.congr (fun k => if_pos c2) (Ev.now _)))), .inl (by omega)⟩
    · have h2 := szS_le (l := b) (a := szS a 1048576) (by omega)
      exact ⟨szS b (szS a 1048576), Ev.bind e1 (Ev.congr (fun k => if_neg c) (Ev.bind e2 (Ev.congr (fun k => if_neg c2) (Ev.now _)))), .inr ⟨by omega, by omega⟩⟩
theorem toLog_ev (a b : List ByteArray) (ha : a.length ≤ 1048576) (hb : b.length ≤ 1048576) : Ev (fun k => laws_toLog.f k a b) (a, b) :=
  Ev.bind (toS_ev a (by omega)) (Ev.bind (toS_ev b (by omega)) (Ev.now _))
theorem eqLog_ev (a b : List ByteArray) (ha : a.length ≤ 140737488351232) (hb : b.length ≤ 140737488351232) : Ev (fun k => laws_eqLog.f k a b a b) true :=
  Ev.bind (eqS_ev a ha) (Ev.congr (fun k => if_pos rfl) (Ev.bind (eqS_ev b hb) (Ev.congr (fun k => if_pos rfl) (Ev.now _))))
noncomputable def markLg (a b : List ByteArray) : Int × List ByteArray × List ByteArray := (1 + (a.length : Int) + (b.length : Int), marks 1 a.length, marks (1 + (a.length : Int)) b.length)
theorem markLog_ev (a b : List ByteArray) (ha : a.length ≤ 2199023255552) (hb : b.length ≤ 2199023255552) : Ev (fun k => laws_markLog.f k a b 1) (markLg a b) :=
  Ev.bind (markS_ev a 1 (by omega) (by omega) (by omega)) (Ev.bind (markS_ev b (1 + (a.length : Int)) (by omega) (by omega) (by omega)) (Ev.now _))
theorem heldLog_ev (a b : List ByteArray) (ha : a.length ≤ 2199023255552) (hb : b.length ≤ 2199023255552) : Ev (fun k => laws_heldLog.f k (markLg a b).2.1 (markLg a b).2.2 1) (markLg a b).1 :=
  Ev.bind (heldS_ev a.length 1 (by omega) (by omega) (by omega)) (Ev.congr (fun k => if_neg (by omega)) (Ev.bind (heldS_ev b.length (1 + (a.length : Int)) (by omega) (by omega) (by omega)) (Ev.congr (fun k => if_neg (by omega)) (Ev.now _))))
/-- The room that a log takes. -/
theorem zL_le {P : Program} {a b : List ByteArray} (hb : 0 < P.bytesOf 9) (h : ∀ n ∈ (a.length * P.bytesOf 9 :: a.flatMap fun s : ByteArray => [s.size]) ++ (b.length * P.bytesOf 9 :: b.flatMap fun s : ByteArray => [s.size]), n ≤ 140737488351232) :
    a.length ≤ 140737488351232 ∧ b.length ≤ 140737488351232 ∧ (∀ s ∈ a, s.size ≤ 140737488351232) ∧ ∀ s ∈ b, s.size ≤ 140737488351232 := by
  have h1 := zS_le hb fun n hn => h n (List.mem_append_left _ hn)
  have h2 := zS_le hb fun n hn => h n (List.mem_append_right _ hn)
  exact ⟨h1.1, h2.1, h1.2, h2.2⟩
end Go.Proofs.Ytpnblgbkjbpeoaa.Q

/- The exact law of Sync comes to true. -/
namespace Go.Proofs.Ytpnblgbkjbpeoaa.Q
open Go.RowKit Go.Proofs.Ytpnblgbkjbpeoaa.P Go.Proofs.YtpnblgbkjbpeoaaW.PrintWords Go.Proofs.YtpnblgbkjbpeoaaW.PrintLast Go.Proofs.YtpnblgbkjbpeoaaW.PrintMore
set_option linter.unusedVariables false

theorem sync_pure (a b : List ByteArray) (ha : a.length ≤ 140737488351232) (hb : b.length ≤ 140737488351232) (sa : ∀ x ∈ a, x.size ≤ 140737488351232) (sb : ∀ x ∈ b, x.size ≤ 140737488351232) : Ev (fun k => laws_FnExactSync.f k a b) true := by
  obtain ⟨r, hr, hc⟩ := szLog_ev a b ha hb sa sb
  refine Ev.bind hr ?_
  by_cases c : r < 0
  · exact Ev.congr (fun k => if_pos c) (Ev.now _)
  · obtain ⟨la, lb⟩ := hc.resolve_left c
    have h1 : (syncL a b).1.length ≤ 4000 ∧ (syncL a b).2.length ≤ 4000 := by
      unfold syncL; split
      · rename_i hv; have := logB_le hv; simp; omega
      · exact ⟨by simp, by simp⟩
    have es := sSync_ev a b ha hb
    have ei := iSync_ev a b ha hb
    generalize syncL a b = s at h1 es ei
    refine Ev.congr (fun k => if_neg c) (Ev.bind (toLog_ev a b la lb) (Ev.bind es (Ev.bind (toLog_ev a b la lb) (Ev.bind ei (Ev.bind (eqLog_ev s.1 s.2 (by omega) (by omega)) (Ev.congr (fun k => if_pos rfl) (Ev.bind (toLog_ev a b la lb) (Ev.bind (eqLog_ev a b ha hb) (Ev.congr (fun k => if_pos rfl) (Ev.bind (markLog_ev a b (by omega) (by omega)) (Ev.congr (fun k => if_neg (by show ¬ ((1 : Int) + (a.length : Int) + (b.length : Int) < 0); omega)) (Ev.bind (eqLog_ev s.1 s.2 (by omega) (by omega)) ?_))))))))))))
    refine Ev.step (fun k => by simp only [laws_FnExactSync.j0]; rw [if_neg (by simp)]) ?_
    refine Ev.bind (markLog_ev s.1 s.2 (by omega) (by omega)) (Ev.bind (heldLog_ev s.1 s.2 (by omega) (by omega)) (Ev.congr (fun k => by rw [if_neg (by show ¬ ((1 : Int) + (s.1.length : Int) + (s.2.length : Int) < 0); omega), if_pos rfl]) ?_))
    refine Ev.bind (toLog_ev a b la lb) (Ev.bind ei (Ev.bind (eqLog_ev s.1 s.2 (by omega) (by omega)) (Ev.congr (fun k => if_pos rfl) (Ev.bind (heldLog_ev s.1 s.2 (by omega) (by omega)) (Ev.congr (fun k => by rw [if_neg (by show ¬ ((1 : Int) + (s.1.length : Int) + (s.2.length : Int) < 0); omega), if_pos rfl]) (Ev.now _))))))
theorem sync_pure_all (a b : List ByteArray) (hz : ∀ n ∈ (a.length * Try.prog.bytesOf 9 :: a.flatMap fun s : ByteArray => [s.size]) ++ (b.length * Try.prog.bytesOf 9 :: b.flatMap fun s : ByteArray => [s.size]), n ≤ 140737488351232) : Ev (fun k => laws_FnExactSync.f k a b ) true :=
  have h := zL_le (P := Try.prog) (of_decide_eq_true (by kernel_rfl)) hz
  sync_pure a b h.1 h.2.1 h.2.2.1 h.2.2.2 
end Go.Proofs.Ytpnblgbkjbpeoaa.Q
