/- Part 3 of the proof of FnLogSaid: what it leans on. -/
import Derived.Test.YtpnblgbkjbpeoaaM1
import Derived.Test.YtpnblgbkjbpeoaaM2

namespace Go.Proofs.Ytpnblgbkjbpeoaa.P
open Go.RowKit Go.Proofs.YtpnblgbkjbpeoaaW.PrintWords Go.Proofs.YtpnblgbkjbpeoaaW.PrintLast Go.Proofs.YtpnblgbkjbpeoaaW.PrintMore
attribute [local go_sem] max2_int min2_int max_two min_two max_three min_three max_four min_four   -- for this text's walks alone
set_option linter.unusedVariables false
set_option linter.unusedSimpArgs false
/-! ### spec_l2Draw: function 70 -/
mutual
def spec_l2Draw.l0 : Nat → Int → List Int → Int → List ByteArray → Option (List ByteArray × List ByteArray × Int)
 | 0, _, _, _, _ => none
 | k + 1, x4, x1000, x1001, x615000 => if x4 > 0 then ((spec_l1Text.f k x1000 x1001).bind fun bt617 => (if x615000.length < 8796093022208 then (spec_l2Draw.l0 k (wrap64 (x4 - 1)) x1000 bt617.2 (x615000 ++ [bt617.1])) else (none))) else ((spec_l1Rd_pick.f k x1000 x1001 6).bind fun bt622 => (spec_l2Draw.l1 k bt622.1 x1000 bt622.2 x615000 ([] : List ByteArray)))
def spec_l2Draw.l1 : Nat → Int → List Int → Int → List ByteArray → List ByteArray → Option (List ByteArray × List ByteArray × Int)
 | 0, _, _, _, _, _ => none
 | k + 1, x5, x1000, x1001, x615000, x615001 => if x5 > 0 then ((spec_l1Text.f k x1000 x1001).bind fun bt624 => (if x615001.length < 8796093022208 then (spec_l2Draw.l1 k (wrap64 (x5 - 1)) x1000 bt624.2 x615000 (x615001 ++ [bt624.1])) else (none))) else ((spec_l1Rd_pick.f k x1000 x1001 14).bind fun bt629 => (if bt629.1 = 0 then ((spec_l1Rd_pick.f k x1000 bt629.2 2).bind fun bt631 => ((spec_l1Many.f k (⟨#[101]⟩ : ByteArray) (wrap64 (5000 + bt631.1))).bind fun t633 => (if x615001.length < 8796093022208 then (spec_l2Draw.j2 k bt629.1 x1000 bt631.2 x615000 (x615001 ++ [t633])) else (none)))) else (spec_l2Draw.j2 k bt629.1 x1000 bt629.2 x615000 x615001)))
def spec_l2Draw.j2 : Nat → Int → List Int → Int → List ByteArray → List ByteArray → Option (List ByteArray × List ByteArray × Int)
 | 0, _, _, _, _, _ => none
 | k + 1, x6, x1000, x1001, x615000, x615001 => if x6 = 1 then ((spec_l1Rd_pick.f k x1000 x1001 3).bind fun bt637 => (spec_l2Draw.l2 k (wrap64 ((wrap64 (4000 + bt637.1)) - 1)) x1000 bt637.2 x615000 x615001)) else (some (x615000, x615001, x1001))
def spec_l2Draw.l2 : Nat → Int → List Int → Int → List ByteArray → List ByteArray → Option (List ByteArray × List ByteArray × Int)
 | 0, _, _, _, _, _ => none
 | k + 1, x7, x1000, x1001, x615000, x615001 => if (wrap64 ((x615000.length : Int) + (x615001.length : Int))) < x7 then (if x615000.length < 8796093022208 then (spec_l2Draw.l2 k x7 x1000 x1001 (x615000 ++ [(⟨#[102]⟩ : ByteArray)]) x615001) else (none)) else (some (x615000, x615001, x1001))
end
def spec_l2Draw.f (k : Nat) (s0_0 : List Int) (s0_1 : Int) : Option (List ByteArray × List ByteArray × Int) := (spec_l1Rd_pick.f k s0_0 s0_1 6).bind fun bt615 => (spec_l2Draw.l0 k bt615.1 s0_0 bt615.2 ([] : List ByteArray))
def spec_l2Draw.T5 : Bool × List (List Nat × List Nat) := (true, [([], []), ([0], [0]), ([], []), ([2], [2]), ([3], [3]), ([1, 4, 3], [1, 4]), ([0, 1, 2, 3, 4, 5], []), ([6, 5, 5, 0, 1, 2, 3, 4, 5], [5, 6])])
def spec_l2Draw.B5 : List Nat := [0, 1, 0, 4, 12, 31, 63, 127]
theorem spec_l2Draw.tab5 : rtab .any (opsOf Try.f70 5) = spec_l2Draw.T5 := by kernel_rfl
theorem spec_l2Draw.bits5 : waitsOk spec_l2Draw.T5.2 spec_l2Draw.B5 = true := by kernel_rfl
def spec_l2Draw.T9 : Bool × List (List Nat × List Nat) := (true, [([], []), ([0], [0]), ([], []), ([2], [2]), ([3], [3]), ([1, 4, 3], [1, 4]), ([0, 1, 2, 3, 4, 5], []), ([6, 5, 5, 0, 1, 2, 3, 4, 5], [5, 6])])
def spec_l2Draw.B9 : List Nat := [0, 1, 0, 4, 12, 31, 63, 127]
theorem spec_l2Draw.tab9 : rtab .any (opsOf Try.f70 9) = spec_l2Draw.T9 := by kernel_rfl
theorem spec_l2Draw.bits9 : waitsOk spec_l2Draw.T9.2 spec_l2Draw.B9 = true := by kernel_rfl
def spec_l2Draw.T12 : Bool × List (List Nat × List Nat) := (true, [([], []), ([0], [0]), ([], []), ([2], [2]), ([3], [3]), ([4, 3], [4]), ([5], [5]), ([1, 6, 5], [1, 6]), ([0, 1, 2, 3, 4, 5, 6, 7], []), ([8, 7, 7, 0, 1, 2, 3, 4, 5, 6, 7], [7, 8])])
def spec_l2Draw.B12 : List Nat := [0, 1, 0, 4, 12, 28, 60, 127, 255, 511]
theorem spec_l2Draw.tab12 : rtab .any (opsOf Try.f70 12) = spec_l2Draw.T12 := by kernel_rfl
theorem spec_l2Draw.bits12 : waitsOk spec_l2Draw.T12.2 spec_l2Draw.B12 = true := by kernel_rfl
set_option maxHeartbeats 8000000 in
set_option maxRecDepth 100000 in
theorem spec_l2Draw.calls (k : Nat) (g : Nat) (s0_0 : List Int) (s0_1 : Int) (r1 : List ByteArray) (r2 : List ByteArray) (r3 : Int) (w0 w : World) (hI : IsS104 w0 w g s0_0 s0_1) (hB : Below w0.heap.size w0 w) (h : spec_l2Draw.f k s0_0 s0_1 = some (r1, r2, r3)) :
  Calls Try.prog 70 #[.pointer (some ⟨g, 0, none⟩)] w fun e w' => ∃ v0_ v1_ : Value, e = .returned (.agg #[v0_, v1_]) ∧ Kd.R Kd.string 9 w' w.heap.size (fun k_ => some k_ ≠ (v1_ : Value).ownBlock) v0_ r1 ∧ Kd.R Kd.string 9 w' w.heap.size (fun k_ => some k_ ≠ (v0_ : Value).ownBlock) v1_ r2 ∧ IsS104 w0 w' g s0_0 r3 ∧ Below w0.heap.size w0 w' ∧ KeepBut w w' g none := by
 have hu30 := Try.underlying30
 have HI0 := Aside0.mk hI
 have HK := Aside0.mk (KeepBut.refl w g none)
 have HL := Aside0.mk hB.size
 clear hI
 have HW0 := Aside0.mk hB.size
 have HB := Aside0.mk hB
 clear hB
 have H : ((spec_l1Rd_pick.f k s0_0 s0_1 6).bind fun bt615 => (spec_l2Draw.l0 k bt615.1 s0_0 bt615.2 ([] : List ByteArray))) = some (r1, r2, r3) := h
 clear h
 replace H := Option.bind_eq_some_iff.mp H
 obtain ⟨⟨t615, t616⟩, A20, H⟩ := H
 replace H : (spec_l2Draw.l0 k t615 s0_0 t616 ([] : List ByteArray)) = some (r1, r2, r3) := H
 have A2 := Aside0.mk A20
 clear A20
 have H' := Aside0.mk H
 clear H
 go_enter Try.func70, Try.ntmps70
 go_wp2_with (first | ((with_reducible refine gate_dst (N := 2) rfl ?_); refine box_event ?hg (N := 2) ?hd (cs := #[.slice none 0 0, .slice none 0 0]) (t := 30) ?hr ?_; (case hd => rfl); (case hg => rfl); (case hr => first | (go_simp; done) | (go_simp; rfl)); intro gb613 hg w3 hbox hb; have n0_ := Aside0.mk (IsS104.below (by repeat (first | (with_reducible first | exact HI0.out | apply IsS104.alloc | apply IsS104.drewN | apply IsS104.drew | apply IsS104.set_1) | exact HI0.out)) hb); have n1_ := Aside0.mk (KeepBut.trans (kee__) (KeepBut.of_below hb g none) (.inl rfl)); have n2_ := Aside0.mk (below_step (by repeat (first | (with_reducible first | exact HB.out | apply below_alloc | apply pw_below_drewN | apply below_drew1 | refine below_set ?_ (IsS104.ge HI0.out)) | exact HB.out)) hb); have n3_ := Aside0.mk (hbox); have n4_ := Aside0.mk ((by rw [hg]; exact (keep_size (w := w) (g := g) (row := none) (kee__)) : w.heap.size ≤ gb613)); have n5_ := Aside0.mk ((Nat.le_trans HW0.out (by rw [hg]; exact (keep_size (w := w) (g := g) (row := none) (kee__)) : w.heap.size ≤ gb613) : w0.heap.size ≤ gb613)); have n6_ := Aside0.mk ((by rw [hg]; exact Nat.ne_of_lt (IsS104.lt (show IsS104 w0 _ g s0_0 s0_1 from by repeat (first | (with_reducible first | exact HI0.out | apply IsS104.alloc | apply IsS104.drewN | apply IsS104.drew | apply IsS104.set_1) | exact HI0.out))) : g ≠ gb613)); have n7_ := Aside0.mk ((by rw [hg]; exact Nat.ne_of_gt (IsS104.lt (show IsS104 w0 _ g s0_0 s0_1 from by repeat (first | (with_reducible first | exact HI0.out | apply IsS104.alloc | apply IsS104.drewN | apply IsS104.drew | apply IsS104.set_1) | exact HI0.out))) : gb613 ≠ g)); clear HI0; clear HK; clear HB; have HI0 := n0_; have HK := n1_; have HB := n2_; have BK613 := n3_; have GW613 := n4_; have GE613 := n5_; have NB0_613 := n6_; have NB613_0 := n7_; clear n0_ n1_ n2_ n3_ n4_ n5_ n6_ n7_; clear hb hbox hg) | ((with_reducible refine gate_dst (N := 3) rfl ?_); refine box_event ?hg (N := 3) ?hd (cs := #[.slice none 0 0, .slice none 0 0]) (t := 30) ?hr ?_; (case hd => rfl); (case hg => rfl); (case hr => first | (go_simp; done) | (go_simp; rfl)); intro gb614 hg w4 hbox hb; have n0_ := Aside0.mk (IsS104.below (by repeat (first | (with_reducible first | exact HI0.out | apply IsS104.alloc | apply IsS104.drewN | apply IsS104.drew | apply IsS104.set_1 | refine IsS104.far ?_ NB0_613.out _) | exact HI0.out)) hb); have n1_ := Aside0.mk (blb__ BK613.out hb); have n2_ := Aside0.mk (KeepBut.trans (by repeat (first | (with_reducible first | exact HK.out | apply KeepBut.set_ | apply keep_drewN | apply keep_drew | apply keep_alloc | refine keep_far ?_ GW613.out _) | exact HK.out)) (KeepBut.of_below hb g none) (.inl rfl)); have n3_ := Aside0.mk (below_step (by repeat (first | (with_reducible first | exact HB.out | apply below_alloc | apply pw_below_drewN | apply below_drew1 | refine below_set ?_ (IsS104.ge HI0.out) | refine below_set ?_ GE613.out) | exact HB.out)) hb); have n4_ := Aside0.mk (hbox); have n5_ := Aside0.mk ((by rw [hg]; exact (keep_size (w := w) (g := g) (row := none) (by repeat (first | (with_reducible first | exact HK.out | apply KeepBut.set_ | apply keep_drewN | apply keep_drew | apply keep_alloc | refine keep_far ?_ GW613.out _) | exact HK.out))) : w.heap.size ≤ gb614)); have n6_ := Aside0.mk ((Nat.le_trans HW0.out (by rw [hg]; exact (keep_size (w := w) (g := g) (row := none) (by repeat (first | (with_reducible first | exact HK.out | apply KeepBut.set_ | apply keep_drewN | apply keep_drew | apply keep_alloc | refine keep_far ?_ GW613.out _) | exact HK.out))) : w.heap.size ≤ gb614) : w0.heap.size ≤ gb614)); have n7_ := Aside0.mk ((nl__ hg BK613.out : gb613 ≠ gb614)); have n8_ := Aside0.mk ((ng__ hg BK613.out : gb614 ≠ gb613)); have n9_ := Aside0.mk ((by rw [hg]; exact Nat.ne_of_lt (IsS104.lt (show IsS104 w0 _ g s0_0 s0_1 from by repeat (first | (with_reducible first | exact HI0.out | apply IsS104.alloc | apply IsS104.drewN | apply IsS104.drew | apply IsS104.set_1 | refine IsS104.far ?_ NB0_613.out _) | exact HI0.out))) : g ≠ gb614)); have n10_ := Aside0.mk ((by rw [hg]; exact Nat.ne_of_gt (IsS104.lt (show IsS104 w0 _ g s0_0 s0_1 from by repeat (first | (with_reducible first | exact HI0.out | apply IsS104.alloc | apply IsS104.drewN | apply IsS104.drew | apply IsS104.set_1 | refine IsS104.far ?_ NB0_613.out _) | exact HI0.out))) : gb614 ≠ g)); clear HI0; clear BK613; clear HK; clear HB; have HI0 := n0_; have BK613 := n1_; have HK := n2_; have HB := n3_; have BK614 := n4_; have GW614 := n5_; have GE614 := n6_; have NB613_614 := n7_; have NB614_613 := n8_; have NB0_614 := n9_; have NB614_0 := n10_; clear n0_ n1_ n2_ n3_ n4_ n5_ n6_ n7_ n8_ n9_ n10_; clear hb hbox hg; have hnb5 := NB614_613.out; have hnc5 := NB613_614.out; have hnb6 := NB614_0.out; have hnc6 := NB0_614.out; have hcz7_0 : w4.cell? ⟨gb614, 0, none⟩ = some (.slice none 0 0) := (blk_cell BK614.out 0).trans rfl; have hcz7_1 : w4.cell? ⟨gb614, 1, none⟩ = some (.slice none 0 0) := (blk_cell BK614.out 1).trans rfl; have hfz7_0 := blk_frozen BK614.out 0; have hfz7_1 := blk_frozen BK614.out 1) | ((with_reducible refine gate_callee (f := 71) rfl ?_); refine goesL_ (some 10) rfl rfl Try.func71 (by kernel_rfl) rfl #[.pointer (some ⟨g, 0, none⟩), .int .i64 6] rfl (ar__) ?_; (with_reducible refine (spec_l1Rd_pick.calls k g s0_0 s0_1 6 t615 t616 w0 _ ?side1 ?side2 A2.out).mono ?_); (case side1 => repeat (first | (with_reducible first | exact HI0.out | apply IsS104.alloc | apply IsS104.drewN | apply IsS104.drew | apply IsS104.set_1 | refine IsS104.far ?_ NB0_613.out _ | refine IsS104.far ?_ NB0_614.out _) | exact HI0.out)); (case side2 => repeat (first | (with_reducible first | exact HB.out | apply below_alloc | apply pw_below_drewN | apply below_drew1 | refine below_set ?_ (IsS104.ge HI0.out) | refine below_set ?_ GE613.out | refine below_set ?_ GE614.out) | exact HB.out)); rintro e w8 ⟨rfl, hi, hb, hk⟩; refine ⟨_, rfl, ?_⟩; have n0_ := Aside0.mk (KeepBut.blk hk (g' := gb613) (o := .cells #[.slice none 0 0, .slice none 0 0] 30 (0, 0)) (by (with_reducible repeat (first | refine blk_drewN ?_ _ | refine blk_drew ?_ | refine blk_alloc ?_ _)); refine blk_far ?_ NB613_614.out _; (with_reducible repeat (first | refine blk_drewN ?_ _ | refine blk_drew ?_ | refine blk_alloc ?_ _)); refine blk_far ?_ NB613_614.out _; (with_reducible repeat (first | refine blk_drewN ?_ _ | refine blk_drew ?_ | refine blk_alloc ?_ _)); exact BK613.out) NB613_0.out (by simp)); have n1_ := Aside0.mk (KeepBut.blk hk (g' := gb614) (o := .cells #[.slice none 0 0, .slice none 0 0] 30 (0, 0)) (by (with_reducible repeat (first | refine blk_drewN ?_ _ | refine blk_drew ?_ | refine blk_alloc ?_ _)); refine blk_put (cs := #[.slice none 0 0, .slice none 0 0]) ?_ 1 _ rfl; (with_reducible repeat (first | refine blk_drewN ?_ _ | refine blk_drew ?_ | refine blk_alloc ?_ _)); refine blk_put (cs := #[.slice none 0 0, .slice none 0 0]) ?_ 0 _ rfl; (with_reducible repeat (first | refine blk_drewN ?_ _ | refine blk_drew ?_ | refine blk_alloc ?_ _)); exact BK614.out) NB614_0.out (by simp)); have n2_ := Aside0.mk (KeepBut.trans (by repeat (first | (with_reducible first | exact HK.out | apply KeepBut.set_ | apply keep_drewN | apply keep_drew | apply keep_alloc | refine keep_far ?_ GW613.out _ | refine keep_far ?_ GW614.out _) | exact HK.out)) hk (.inl rfl)); have n3_ := Aside0.mk (hb); have n4_ := Aside0.mk (hi); clear BK613; clear BK614; clear HK; clear HB; clear HI0; have BK613 := n0_; have BK614 := n1_; have HK := n2_; have HB := n3_; have HI0 := n4_; clear n0_ n1_ n2_ n3_ n4_; (try clear hb); (try clear hb2); (try clear hk); (try clear hi)))
 go_loopg [4] k (fun kq v4 w' => ∃ (x4_1 : Int) (x1001_1 : Int) (x615000_1 : List ByteArray) (u615000 : Value), v4 = .int .i64 x4_1 ∧ Aside0 (spec_l2Draw.l0 kq x4_1 s0_0 x1001_1 x615000_1 = some (r1, r2, r3)) ∧ Aside0 (kq ≤ k) ∧ Aside0 (Kd.R Kd.string 9 w' w.heap.size (fun _ => True) u615000 x615000_1) ∧ Aside0 (w'.heap[gb613]? = some (.cells #[(.slice none 0 0), (.slice none 0 0)] 30 (0, 0))) ∧ Aside0 (w'.heap[gb614]? = some (.cells #[u615000, (.slice none 0 0)] 30 (0, 0))) ∧ Aside0 (IsS104 w0 w' g s0_0 x1001_1) ∧ Aside0 (KeepBut w w' g none) ∧ Aside0 (Below w0.heap.size w0 w'))
 case atStart => exact ⟨(t615), (t616), (([] : List ByteArray)), (.slice none 0 0), (rf__), H', ⟨Nat.le_refl _⟩, ⟨by first | exact Kd.R_nil _ _ _ _ _ | exact Kd.N_nil _ _ _ _ _ | exact Kd.V_nil _ _ _ _ _ | exact Kd.Q_nil _ _ _ _ _ | exact Kd.S_nil _ _ _ _ _⟩, ⟨blk__ BK613.out⟩, ⟨blk__ BK614.out⟩, ⟨by repeat (first | (with_reducible first | exact HI0.out | apply IsS104.alloc | apply IsS104.drewN | apply IsS104.drew | apply IsS104.set_1 | refine IsS104.far ?_ NB0_613.out _ | refine IsS104.far ?_ NB0_614.out _) | exact HI0.out)⟩, ⟨by repeat (first | (with_reducible first | exact HK.out | apply KeepBut.set_ | apply keep_drewN | apply keep_drew | apply keep_alloc | refine keep_far ?_ GW613.out _ | refine keep_far ?_ GW614.out _) | exact HK.out)⟩, ⟨by repeat (first | (with_reducible first | exact HB.out | apply below_alloc | apply pw_below_drewN | apply below_drew1 | refine below_set ?_ (IsS104.ge HI0.out) | refine below_set ?_ GE613.out | refine below_set ?_ GE614.out) | exact HB.out)⟩⟩
 case round =>
  clear H'
  try clear p2
  try clear c5
  try clear c6
  try clear c7
  try clear hcz7_0
  try clear hcz7_1
  try clear hfz7_0
  try clear hfz7_1
  obtain ⟨x4_1, x1001_1, x615000_1, u615000, rfl, HA, HK1, HO_615000, BK613, BK614, HI0, HK, HB⟩ := hrel
  cases gk with
  | zero => exact absurd HA.out (by simp [spec_l2Draw.l0])
  | succ k1 =>
   have H := HA.out
   clear HA
   simp only [spec_l2Draw.l0] at H
   by_cases c9 : x4_1 > 0
   ·rw [if_pos c9] at H
    have c9b0 : decide (0 < x4_1) = true := decide_eq_true c9
    clear c9
    replace H := Option.bind_eq_some_iff.mp H
    obtain ⟨⟨t617, t618⟩, A100, H⟩ := H
    replace H : (if x615000_1.length < 8796093022208 then (spec_l2Draw.l0 k1 (wrap64 (x4_1 - 1)) s0_0 t618 (x615000_1 ++ [t617])) else (none)) = some (r1, r2, r3) := H
    have A10 := Aside0.mk A100
    clear A100
    by_cases c11 : x615000_1.length < 8796093022208
    ·rw [if_pos c11] at H
     have LMc11 := Aside0.mk c11
     clear c11
     obtain ⟨y619, hy619⟩ : ∃ y_ : List ByteArray, y_ = (x615000_1 ++ [t617]) := ⟨_, rfl⟩
     replace H : (spec_l2Draw.l0 k1 (wrap64 (x4_1 - 1)) s0_0 t618 y619) = some (r1, r2, r3) := by first | (rw [hy619]; with_reducible exact H) | (have H2_ := (Option.bind_some _ _).symm.trans H; rw [hy619]; with_reducible exact H2_) | (have H2_ := (Option.bind_some _ _).symm.trans H; with_reducible exact H2_) | with_reducible exact H | (rw [hy619]; exact H) | exact H
     have Ny619 := Aside0.mk hy619
     clear hy619
     have H' := Aside0.mk H
     clear H
     try go_wp2
     have n0_ := Aside0.mk (Kd.R_drew HO_615000.out)
     have n1_ := Aside0.mk (blk_drew BK613.out)
     have n2_ := Aside0.mk (blk_drew BK614.out)
     have n3_ := Aside0.mk (IsS104.drew HI0.out)
     have n4_ := Aside0.mk (keep_drew HK.out)
     have n5_ := Aside0.mk (below_drew1 HB.out)
     clear HO_615000
     clear BK613
     clear BK614
     clear HI0
     clear HK
     clear HB
     have HO_615000 := n0_
     have BK613 := n1_
     have BK614 := n2_
     have HI0 := n3_
     have HK := n4_
     have HB := n5_
     clear n0_ n1_ n2_ n3_ n4_ n5_
     refine start_ (n := 8) (S := fun w' => w'.cell? ⟨gb614, 0, none⟩ = some (u615000) ∧ w'.cell? ⟨gb614, 1, none⟩ = some (.slice none 0 0)) (ds := [7]) #[false, false, false, false, false, false, false, false] (by kernel_rfl) rfl rfl ⟨(blk_cell BK614.out 0).trans rfl, (blk_cell BK614.out 1).trans rfl⟩ (fun hHeld => ?_); refine with_tabW spec_l2Draw.tab5 spec_l2Draw.bits5 (fun HT_ HW_ => ?_)
     generalize wr.drew = w12 at HO_615000 BK613 BK614 HI0 HK HB hHeld ⊢
     refine pu__ (i := 0) (N := some 15) #[true, false, false, false, false, false, false, false] HT_.out ?_
     refine pu__ (i := 2) (N := some 17) #[true, false, true, false, false, false, false, false] HT_.out ?_
     refine take_ (i := 1) (N := some 16) (v := ?_) (a' := ?_) #[true, true, true, false, false, false, false, false] rfl rfl (take_ofW HT_.out HW_.out (by kernel_rfl)) (fun _ _ _ h => h) (Or.inl ⟨by rfl, ?_⟩) hHeld ?_ ?_
     rotate_left
     ·rintro w' ⟨s0, s1⟩
      go_simp
      with_reducible rfl
     rotate_left
     ·simp only [Act.put, List.setIfInBounds_toArray, List.set_cons_zero, List.set_cons_succ, i64_w, i32_w]
      rfl
     refine one_ (i := 3) (N := some 18) #[true, true, true, true, false, false, false, false] rfl rfl (one_of HT_.out (by kernel_rfl)) (by decide) (fun K hK => ?_)
     refine goes_ Try.func73 (by kernel_rfl) rfl #[.pointer (some ⟨g, 0, none⟩)] (by rfl) rfl rfl (ar__) ?_
     with_reducible refine (spec_l1Text.calls k1 g s0_0 x1001_1 t617 t618 w0 _ ?side1 ?side2 A10.out).mono ?_
     (case side1 => repeat (first | (with_reducible first | exact HI0.out | apply IsS104.alloc | apply IsS104.drewN | apply IsS104.drew | apply IsS104.set_1 | refine IsS104.far ?_ NB0_613.out _ | refine IsS104.far ?_ NB0_614.out _) | exact HI0.out))
     (case side2 => repeat (first | (with_reducible first | exact HB.out | apply below_alloc | apply pw_below_drewN | apply below_drew1 | refine below_set ?_ (IsS104.ge HI0.out) | refine below_set ?_ GE613.out | refine below_set ?_ GE614.out) | exact HB.out))
     rintro e w13 ⟨rfl, hi, hb, hk⟩
     refine ⟨_, rfl, ?_⟩
     have n0_ := Aside0.mk (Kd.R_mono (Kd.R_keep (IsS104.apart (show IsS104 w0 _ g s0_0 x1001_1 from by repeat (first | (with_reducible first | exact HI0.out | apply IsS104.alloc | apply IsS104.drewN | apply IsS104.drew | apply IsS104.set_1 | refine IsS104.far ?_ NB0_613.out _ | refine IsS104.far ?_ NB0_614.out _) | exact HI0.out)) (rr__ HO_615000.out) (by decide)) hk (fun _ h => h.2)) (fun _ h => h.1))
     have n1_ := Aside0.mk (KeepBut.blk hk (g' := gb613) (o := .cells #[.slice none 0 0, .slice none 0 0] 30 (0, 0)) (blk__ BK613.out) NB613_0.out (by simp))
     have n2_ := Aside0.mk (KeepBut.blk hk (g' := gb614) (o := .cells #[u615000, .slice none 0 0] 30 (0, 0)) (blk__ BK614.out) NB614_0.out (by simp))
     have n3_ := Aside0.mk (KeepBut.trans (by repeat (first | (with_reducible first | exact HK.out | apply KeepBut.set_ | apply keep_drewN | apply keep_drew | apply keep_alloc | refine keep_far ?_ GW613.out _ | refine keep_far ?_ GW614.out _) | exact HK.out)) hk (.inl rfl))
     have n4_ := Aside0.mk (hb)
     have n5_ := Aside0.mk (hi)
     clear HO_615000
     clear BK613
     clear BK614
     clear HK
     clear HB
     clear HI0
     have HO_615000 := n0_
     have BK613 := n1_
     have BK614 := n2_
     have HK := n3_
     have HB := n4_
     have HI0 := n5_
     clear n0_ n1_ n2_ n3_ n4_ n5_
     (try clear hb)
     (try clear hb2)
     (try clear hk)
     (try clear hi)
     refine hK.out _ _ ⟨(blk_cell BK614.out 0).trans rfl, (blk_cell BK614.out 1).trans rfl⟩ (fun hHeld => ?_)
     clear hK K
     refine na__ 18 ?_
     refine one_ (i := 4) (N := some 19) #[true, true, true, true, true, false, false, false] rfl rfl (one_of HT_.out (by kernel_rfl)) (by decide) (fun K hK => ?_)
     refine value_ (w1 := ?_) (v := ?_) (by rfl) rfl ?_ ?_
     rotate_left 2
     ·go_simp
      constructor
      ·rfl
      ·rfl
     refine hK.out _ _ ⟨(blk_cell (blk_alloc BK614.out _) 0).trans rfl, (blk_cell (blk_alloc BK614.out _) 1).trans rfl⟩ (fun hHeld => ?_)
     clear hK K
     refine na__ 19 ?_
     refine one_ (i := 5) (N := some 20) #[true, true, true, true, true, true, false, false] rfl rfl (one_of HT_.out (by kernel_rfl)) (by decide) (fun K hK => ?_)
     refine Kd.R_append_step Kd.string w.heap.size (by rfl) (.tmp 16) (.tmp 19) 25 9 (.string ⟨#[]⟩) 16 rfl Try.underlying25 info9 rfl (by decide) (by omega) u615000 x615000_1 t617 [.string t617] (fun _ => True) (fun _ => False) rfl rfl ?aP (fun _ hk => hk.elim) ?aF ?aO (Below.refl _ _) ?aS ?aL ?_
     (case aP => exact rfl)
     (case aF => exact (fun _ _ => trivial))
     (case aO => exact (rr__ HO_615000.out))
     (case aS => exact (keep_size (w := w) (g := g) (row := none) (by repeat (first | (with_reducible first | exact HK.out | apply KeepBut.set_ | apply keep_drewN | apply keep_drew | apply keep_alloc | refine keep_far ?_ GW613.out _ | refine keep_far ?_ GW614.out _) | exact HK.out))))
     (case aL => have := LMc11.out; omega)
     intro v620 w14 ho hb hg hat
     rw [← Ny619.out] at ho
     have n0_ := Aside0.mk (blk_grown (g := gb613) (o := .cells #[.slice none 0 0, .slice none 0 0] 30 (0, 0)) (blk__ BK613.out) hg (Kd.R_ne HO_615000.out BK613.out (by decide)))
     have n1_ := Aside0.mk (blk_grown (g := gb614) (o := .cells #[u615000, .slice none 0 0] 30 (0, 0)) (blk__ BK614.out) hg (Kd.R_ne HO_615000.out BK614.out (by decide)))
     have n2_ := Aside0.mk (IsS104.grown (by repeat (first | (with_reducible first | exact HI0.out | apply IsS104.alloc | apply IsS104.drewN | apply IsS104.drew | apply IsS104.set_1 | refine IsS104.far ?_ NB0_613.out _ | refine IsS104.far ?_ NB0_614.out _) | exact HI0.out)) hg (IsS104.own_ne HI0.out HO_615000.out (by decide)))
     have n3_ := Aside0.mk (below_weaken (by repeat (first | (with_reducible first | exact HB.out | apply below_alloc | apply pw_below_drewN | apply below_drew1 | refine below_set ?_ (IsS104.ge HI0.out) | refine below_set ?_ GE613.out | refine below_set ?_ GE614.out) | exact HB.out)) HL.out hb)
     have n4_ := Aside0.mk (KeepBut.trans (by repeat (first | (with_reducible first | exact HK.out | apply KeepBut.set_ | apply keep_drewN | apply keep_drew | apply keep_alloc | refine keep_far ?_ GW613.out _ | refine keep_far ?_ GW614.out _) | exact HK.out)) (KeepBut.of_grown hg g) (Kd.R_base2 HO_615000.out))
     have n5_ := Aside0.mk (ho)
     clear BK613
     clear BK614
     clear HI0
     clear HB
     clear HK
     clear HO_615000
     have BK613 := n0_
     have BK614 := n1_
     have HI0 := n2_
     have HB := n3_
     have HK := n4_
     have HO621 := n5_
     clear n0_ n1_ n2_ n3_ n4_ n5_
     clear ho hb hg hat
     obtain ⟨Ao15, co15, eo15⟩ := Kd.R_slice HO621.out
     (first | subst eo15 | (injection eo15 with f1_ f2_ f3_; have f4_ := f1_.symm; have f5_ := f3_.symm; clear f1_ f2_ f3_; subst f4_; subst f5_))
     refine hK.out _ _ ⟨(blk_cell BK614.out 0).trans rfl, (blk_cell BK614.out 1).trans rfl⟩ (fun hHeld => ?_)
     clear hK K
     refine na__ 20 ?_
     refine pu__ (i := 6) (N := some 21) #[true, true, true, true, true, true, true, false] HT_.out ?_
     refine last_ (i := 7) (N := none) #[true, true, true, true, true, true, true, true] rfl rfl (one_of HT_.out (by kernel_rfl)) (by decide) (fun K hK => ?_)
     have hs16 : w14.cell? ⟨gb614, 0, none⟩ = some (u615000) := (blk_cell BK614.out 0).trans rfl
     have hfs16 := blk_frozen BK614.out 0
     have hns16_0 := NB613_614.out
     have hms16_0 := NB614_613.out
     refine skip_ (w1 := ?_) (by rfl) rfl ?_ ?_
     rotate_left
     ·go_simp
      rfl
     refine hK.out _ _ ?_
     clear hK K
     refine done_ (done_of HT_.out (by kernel_rfl)) ?_
     try go_wp2
     go_roundg k1
     case measure => have := HK1.out; omega
     case rel => exact ⟨(wrap64 (x4_1 - 1)), (t618), (y619), (.slice Ao15 y619.length co15), (rf__), H', ⟨by have := HK1.out; omega⟩, ⟨by (with_reducible repeat (first | apply Kd.R_alloc | apply Kd.R_drewN | apply Kd.R_drew)); exact Kd.R_mono (Kd.R_far (p := ⟨gb614, 0, none⟩) (Kd.R_types HO621.out BK614.out (by decide)) h2__ (.slice Ao15 y619.length co15)) (fun _ hk => trivial)⟩, ⟨by (with_reducible repeat (first | refine blk_drewN ?_ _ | refine blk_drew ?_ | refine blk_alloc ?_ _)); refine blk_far ?_ NB613_614.out _; (with_reducible repeat (first | refine blk_drewN ?_ _ | refine blk_drew ?_ | refine blk_alloc ?_ _)); exact BK613.out⟩, ⟨by (with_reducible repeat (first | refine blk_drewN ?_ _ | refine blk_drew ?_ | refine blk_alloc ?_ _)); refine blk_put (cs := #[u615000, .slice none 0 0]) ?_ 0 _ rfl; (with_reducible repeat (first | refine blk_drewN ?_ _ | refine blk_drew ?_ | refine blk_alloc ?_ _)); exact BK614.out⟩, ⟨by repeat (first | (with_reducible first | exact HI0.out | apply IsS104.alloc | apply IsS104.drewN | apply IsS104.drew | apply IsS104.set_1 | refine IsS104.far ?_ NB0_613.out _ | refine IsS104.far ?_ NB0_614.out _) | exact HI0.out)⟩, ⟨by repeat (first | (with_reducible first | exact HK.out | apply KeepBut.set_ | apply keep_drewN | apply keep_drew | apply keep_alloc | refine keep_far ?_ GW613.out _ | refine keep_far ?_ GW614.out _) | exact HK.out)⟩, ⟨by repeat (first | (with_reducible first | exact HB.out | apply below_alloc | apply pw_below_drewN | apply below_drew1 | refine below_set ?_ (IsS104.ge HI0.out) | refine below_set ?_ GE613.out | refine below_set ?_ GE614.out) | exact HB.out)⟩⟩
    ·rw [if_neg c11] at H
     exact absurd H (by simp)
   ·rw [if_neg c9] at H
    have c9b0 : decide (0 < x4_1) = false := decide_eq_false c9
    clear c9
    replace H := Option.bind_eq_some_iff.mp H
    obtain ⟨⟨t622, t623⟩, A170, H⟩ := H
    replace H : (spec_l2Draw.l1 k1 t622 s0_0 t623 x615000_1 ([] : List ByteArray)) = some (r1, r2, r3) := H
    have A17 := Aside0.mk A170
    clear A170
    have H' := Aside0.mk H
    clear H
    go_wp2_with (first | ((with_reducible refine gate_callee (f := 71) rfl ?_); refine goesL_ (some 23) rfl rfl Try.func71 (by kernel_rfl) rfl #[.pointer (some ⟨g, 0, none⟩), .int .i64 6] rfl (ar__) ?_; (with_reducible refine (spec_l1Rd_pick.calls k1 g s0_0 x1001_1 6 t622 t623 w0 _ ?side1 ?side2 A17.out).mono ?_); (case side1 => repeat (first | (with_reducible first | exact HI0.out | apply IsS104.alloc | apply IsS104.drewN | apply IsS104.drew | apply IsS104.set_1 | refine IsS104.far ?_ NB0_613.out _ | refine IsS104.far ?_ NB0_614.out _) | exact HI0.out)); (case side2 => repeat (first | (with_reducible first | exact HB.out | apply below_alloc | apply pw_below_drewN | apply below_drew1 | refine below_set ?_ (IsS104.ge HI0.out) | refine below_set ?_ GE613.out | refine below_set ?_ GE614.out) | exact HB.out)); rintro e w18 ⟨rfl, hi, hb, hk⟩; refine ⟨_, rfl, ?_⟩; have n0_ := Aside0.mk (Kd.R_mono (Kd.R_keep (IsS104.apart (show IsS104 w0 _ g s0_0 x1001_1 from by repeat (first | (with_reducible first | exact HI0.out | apply IsS104.alloc | apply IsS104.drewN | apply IsS104.drew | apply IsS104.set_1 | refine IsS104.far ?_ NB0_613.out _ | refine IsS104.far ?_ NB0_614.out _) | exact HI0.out)) (rr__ HO_615000.out) (by decide)) hk (fun _ h => h.2)) (fun _ h => h.1)); have n1_ := Aside0.mk (KeepBut.blk hk (g' := gb613) (o := .cells #[.slice none 0 0, .slice none 0 0] 30 (0, 0)) (blk__ BK613.out) NB613_0.out (by simp)); have n2_ := Aside0.mk (KeepBut.blk hk (g' := gb614) (o := .cells #[u615000, .slice none 0 0] 30 (0, 0)) (blk__ BK614.out) NB614_0.out (by simp)); have n3_ := Aside0.mk (KeepBut.trans (by repeat (first | (with_reducible first | exact HK.out | apply KeepBut.set_ | apply keep_drewN | apply keep_drew | apply keep_alloc | refine keep_far ?_ GW613.out _ | refine keep_far ?_ GW614.out _) | exact HK.out)) hk (.inl rfl)); have n4_ := Aside0.mk (hb); have n5_ := Aside0.mk (hi); clear HO_615000; clear BK613; clear BK614; clear HK; clear HB; clear HI0; have HO_615000 := n0_; have BK613 := n1_; have BK614 := n2_; have HK := n3_; have HB := n4_; have HI0 := n5_; clear n0_ n1_ n2_ n3_ n4_ n5_; (try clear hb); (try clear hb2); (try clear hk); (try clear hi)))
    go_loopg [5] k1 (fun kq v5 w' => ∃ (x5_2 : Int) (x1001_2 : Int) (x615001_2 : List ByteArray) (u615001 : Value), v5 = .int .i64 x5_2 ∧ Aside0 (spec_l2Draw.l1 kq x5_2 s0_0 x1001_2 x615000_1 x615001_2 = some (r1, r2, r3)) ∧ Aside0 (kq ≤ k1) ∧ Aside0 (Kd.R Kd.string 9 w' w.heap.size (fun k_ => some k_ ≠ (u615001 : Value).ownBlock) u615000 x615000_1) ∧ Aside0 (Kd.R Kd.string 9 w' w.heap.size (fun k_ => some k_ ≠ (u615000 : Value).ownBlock) u615001 x615001_2) ∧ Aside0 (w'.heap[gb613]? = some (.cells #[(.slice none 0 0), (.slice none 0 0)] 30 (0, 0))) ∧ Aside0 (w'.heap[gb614]? = some (.cells #[u615000, u615001] 30 (0, 0))) ∧ Aside0 (IsS104 w0 w' g s0_0 x1001_2) ∧ Aside0 (KeepBut w w' g none) ∧ Aside0 (Below w0.heap.size w0 w'))
    case atStart => exact ⟨(t622), (t623), (([] : List ByteArray)), (.slice none 0 0), (rf__), H', ⟨Nat.le_refl _⟩, ⟨by (with_reducible repeat (first | apply Kd.R_alloc | apply Kd.R_drewN | apply Kd.R_drew)); exact Kd.R_mono HO_615000.out (fun _ hk => (by simp [Value.ownBlock]))⟩, ⟨by first | exact Kd.R_nil _ _ _ _ _ | exact Kd.N_nil _ _ _ _ _ | exact Kd.V_nil _ _ _ _ _ | exact Kd.Q_nil _ _ _ _ _ | exact Kd.S_nil _ _ _ _ _⟩, ⟨blk__ BK613.out⟩, ⟨blk__ BK614.out⟩, ⟨by repeat (first | (with_reducible first | exact HI0.out | apply IsS104.alloc | apply IsS104.drewN | apply IsS104.drew | apply IsS104.set_1 | refine IsS104.far ?_ NB0_613.out _ | refine IsS104.far ?_ NB0_614.out _) | exact HI0.out)⟩, ⟨by repeat (first | (with_reducible first | exact HK.out | apply KeepBut.set_ | apply keep_drewN | apply keep_drew | apply keep_alloc | refine keep_far ?_ GW613.out _ | refine keep_far ?_ GW614.out _) | exact HK.out)⟩, ⟨by repeat (first | (with_reducible first | exact HB.out | apply below_alloc | apply pw_below_drewN | apply below_drew1 | refine below_set ?_ (IsS104.ge HI0.out) | refine below_set ?_ GE613.out | refine below_set ?_ GE614.out) | exact HB.out)⟩⟩
    case round =>
     clear H'
     try clear c1
     try clear p2
     try clear c5
     try clear c6
     try clear p6
     try clear c7
     try clear c9
     try clear c9b0
     try clear c11
     try clear hcz7_0
     try clear hcz7_1
     try clear hfz7_0
     try clear hfz7_1
     try clear p2
     obtain ⟨x5_2, x1001_2, x615001_2, u615001, rfl, HA, HK2, HO_615000, HO_615001, BK613, BK614, HI0, HK, HB⟩ := hrel
     cases gk with
     | zero => exact absurd HA.out (by simp [spec_l2Draw.l1])
     | succ k2 =>
      have H := HA.out
      clear HA
      simp only [spec_l2Draw.l1] at H
      by_cases c19 : x5_2 > 0
      ·rw [if_pos c19] at H
       have c19b0 : decide (0 < x5_2) = true := decide_eq_true c19
       clear c19
       replace H := Option.bind_eq_some_iff.mp H
       obtain ⟨⟨t624, t625⟩, A200, H⟩ := H
       replace H : (if x615001_2.length < 8796093022208 then (spec_l2Draw.l1 k2 (wrap64 (x5_2 - 1)) s0_0 t625 x615000_1 (x615001_2 ++ [t624])) else (none)) = some (r1, r2, r3) := H
       have A20 := Aside0.mk A200
       clear A200
       by_cases c21 : x615001_2.length < 8796093022208
       ·rw [if_pos c21] at H
        have LMc21 := Aside0.mk c21
        clear c21
        obtain ⟨y626, hy626⟩ : ∃ y_ : List ByteArray, y_ = (x615001_2 ++ [t624]) := ⟨_, rfl⟩
        replace H : (spec_l2Draw.l1 k2 (wrap64 (x5_2 - 1)) s0_0 t625 x615000_1 y626) = some (r1, r2, r3) := by first | (rw [hy626]; with_reducible exact H) | (have H2_ := (Option.bind_some _ _).symm.trans H; rw [hy626]; with_reducible exact H2_) | (have H2_ := (Option.bind_some _ _).symm.trans H; with_reducible exact H2_) | with_reducible exact H | (rw [hy626]; exact H) | exact H
        have Ny626 := Aside0.mk hy626
        clear hy626
        have H' := Aside0.mk H
        clear H
        try go_wp2
        have n0_ := Aside0.mk (Kd.R_drew HO_615000.out)
        have n1_ := Aside0.mk (Kd.R_drew HO_615001.out)
        have n2_ := Aside0.mk (blk_drew BK613.out)
        have n3_ := Aside0.mk (blk_drew BK614.out)
        have n4_ := Aside0.mk (IsS104.drew HI0.out)
        have n5_ := Aside0.mk (keep_drew HK.out)
        have n6_ := Aside0.mk (below_drew1 HB.out)
        clear HO_615000
        clear HO_615001
        clear BK613
        clear BK614
        clear HI0
        clear HK
        clear HB
        have HO_615000 := n0_
        have HO_615001 := n1_
        have BK613 := n2_
        have BK614 := n3_
        have HI0 := n4_
        have HK := n5_
        have HB := n6_
        clear n0_ n1_ n2_ n3_ n4_ n5_ n6_
        refine start_ (n := 8) (S := fun w' => w'.cell? ⟨gb614, 0, none⟩ = some (u615000) ∧ w'.cell? ⟨gb614, 1, none⟩ = some (u615001)) (ds := [7]) #[false, false, false, false, false, false, false, false] (by kernel_rfl) rfl rfl ⟨(blk_cell BK614.out 0).trans rfl, (blk_cell BK614.out 1).trans rfl⟩ (fun hHeld => ?_); refine with_tabW spec_l2Draw.tab9 spec_l2Draw.bits9 (fun HT_ HW_ => ?_)
        generalize wr.drew = w22 at HO_615000 HO_615001 BK613 BK614 HI0 HK HB hHeld ⊢
        refine pu__ (i := 0) (N := some 28) #[true, false, false, false, false, false, false, false] HT_.out ?_
        refine pu__ (i := 2) (N := some 30) #[true, false, true, false, false, false, false, false] HT_.out ?_
        refine take_ (i := 1) (N := some 29) (v := ?_) (a' := ?_) #[true, true, true, false, false, false, false, false] rfl rfl (take_ofW HT_.out HW_.out (by kernel_rfl)) (fun _ _ _ h => h) (Or.inl ⟨by rfl, ?_⟩) hHeld ?_ ?_
        rotate_left
        ·rintro w' ⟨s0, s1⟩
         go_simp
         with_reducible rfl
        rotate_left
        ·simp only [Act.put, List.setIfInBounds_toArray, List.set_cons_zero, List.set_cons_succ, i64_w, i32_w]
         rfl
        refine one_ (i := 3) (N := some 31) #[true, true, true, true, false, false, false, false] rfl rfl (one_of HT_.out (by kernel_rfl)) (by decide) (fun K hK => ?_)
        refine goes_ Try.func73 (by kernel_rfl) rfl #[.pointer (some ⟨g, 0, none⟩)] (by rfl) rfl rfl (ar__) ?_
        with_reducible refine (spec_l1Text.calls k2 g s0_0 x1001_2 t624 t625 w0 _ ?side1 ?side2 A20.out).mono ?_
        (case side1 => repeat (first | (with_reducible first | exact HI0.out | apply IsS104.alloc | apply IsS104.drewN | apply IsS104.drew | apply IsS104.set_1 | refine IsS104.far ?_ NB0_613.out _ | refine IsS104.far ?_ NB0_614.out _) | exact HI0.out))
        (case side2 => repeat (first | (with_reducible first | exact HB.out | apply below_alloc | apply pw_below_drewN | apply below_drew1 | refine below_set ?_ (IsS104.ge HI0.out) | refine below_set ?_ GE613.out | refine below_set ?_ GE614.out) | exact HB.out))
        rintro e w23 ⟨rfl, hi, hb, hk⟩
        refine ⟨_, rfl, ?_⟩
        have n0_ := Aside0.mk (Kd.R_mono (Kd.R_keep (IsS104.apart (show IsS104 w0 _ g s0_0 x1001_2 from by repeat (first | (with_reducible first | exact HI0.out | apply IsS104.alloc | apply IsS104.drewN | apply IsS104.drew | apply IsS104.set_1 | refine IsS104.far ?_ NB0_613.out _ | refine IsS104.far ?_ NB0_614.out _) | exact HI0.out)) (rr__ HO_615000.out) (by decide)) hk (fun _ h => h.2)) (fun _ h => h.1))
        have n1_ := Aside0.mk (Kd.R_mono (Kd.R_keep (IsS104.apart (show IsS104 w0 _ g s0_0 x1001_2 from by repeat (first | (with_reducible first | exact HI0.out | apply IsS104.alloc | apply IsS104.drewN | apply IsS104.drew | apply IsS104.set_1 | refine IsS104.far ?_ NB0_613.out _ | refine IsS104.far ?_ NB0_614.out _) | exact HI0.out)) (rr__ HO_615001.out) (by decide)) hk (fun _ h => h.2)) (fun _ h => h.1))
        have n2_ := Aside0.mk (KeepBut.blk hk (g' := gb613) (o := .cells #[.slice none 0 0, .slice none 0 0] 30 (0, 0)) (blk__ BK613.out) NB613_0.out (by simp))
        have n3_ := Aside0.mk (KeepBut.blk hk (g' := gb614) (o := .cells #[u615000, u615001] 30 (0, 0)) (blk__ BK614.out) NB614_0.out (by simp))
        have n4_ := Aside0.mk (KeepBut.trans (by repeat (first | (with_reducible first | exact HK.out | apply KeepBut.set_ | apply keep_drewN | apply keep_drew | apply keep_alloc | refine keep_far ?_ GW613.out _ | refine keep_far ?_ GW614.out _) | exact HK.out)) hk (.inl rfl))
        have n5_ := Aside0.mk (hb)
        have n6_ := Aside0.mk (hi)
        clear HO_615000
        clear HO_615001
        clear BK613
        clear BK614
        clear HK
        clear HB
        clear HI0
        have HO_615000 := n0_
        have HO_615001 := n1_
        have BK613 := n2_
        have BK614 := n3_
        have HK := n4_
        have HB := n5_
        have HI0 := n6_
        clear n0_ n1_ n2_ n3_ n4_ n5_ n6_
        (try clear hb)
        (try clear hb2)
        (try clear hk)
        (try clear hi)
        refine hK.out _ _ ⟨(blk_cell BK614.out 0).trans rfl, (blk_cell BK614.out 1).trans rfl⟩ (fun hHeld => ?_)
        clear hK K
        refine na__ 31 ?_
        refine one_ (i := 4) (N := some 32) #[true, true, true, true, true, false, false, false] rfl rfl (one_of HT_.out (by kernel_rfl)) (by decide) (fun K hK => ?_)
        refine value_ (w1 := ?_) (v := ?_) (by rfl) rfl ?_ ?_
        rotate_left 2
        ·go_simp
         constructor
         ·rfl
         ·rfl
        refine hK.out _ _ ⟨(blk_cell (blk_alloc BK614.out _) 0).trans rfl, (blk_cell (blk_alloc BK614.out _) 1).trans rfl⟩ (fun hHeld => ?_)
        clear hK K
        refine na__ 32 ?_
        refine one_ (i := 5) (N := some 33) #[true, true, true, true, true, true, false, false] rfl rfl (one_of HT_.out (by kernel_rfl)) (by decide) (fun K hK => ?_)
        refine Kd.R_append_step Kd.string w.heap.size (by rfl) (.tmp 29) (.tmp 32) 25 9 (.string ⟨#[]⟩) 16 rfl Try.underlying25 info9 rfl (by decide) (by omega) u615001 x615001_2 t624 [.string t624] (fun k_ => some k_ ≠ (u615000 : Value).ownBlock) (fun _ => False) rfl rfl ?aP (fun _ hk => hk.elim) ?aF ?aO (Below.refl _ _) ?aS ?aL ?_
        (case aP => exact rfl)
        (case aF => exact (fun k_ hk => Kd.fresh' (Kd.R_lt (rr__ HO_615000.out)) k_ hk))
        (case aO => exact (rr__ HO_615001.out))
        (case aS => exact (keep_size (w := w) (g := g) (row := none) (by repeat (first | (with_reducible first | exact HK.out | apply KeepBut.set_ | apply keep_drewN | apply keep_drew | apply keep_alloc | refine keep_far ?_ GW613.out _ | refine keep_far ?_ GW614.out _) | exact HK.out))))
        (case aL => have := LMc21.out; omega)
        intro v627 w24 ho hb hg hat
        rw [← Ny626.out] at ho
        have n0_ := Aside0.mk (Kd.R_after (ok := (fun _ => True)) (by (with_reducible repeat (first | apply Kd.R_alloc | apply Kd.R_drewN | apply Kd.R_drew)); exact Kd.R_mono HO_615000.out (fun _ hk => ⟨trivial, hk⟩)) hg hat)
        have n1_ := Aside0.mk (blk_grown (g := gb613) (o := .cells #[.slice none 0 0, .slice none 0 0] 30 (0, 0)) (blk__ BK613.out) hg (Kd.R_ne HO_615001.out BK613.out (by decide)))
        have n2_ := Aside0.mk (blk_grown (g := gb614) (o := .cells #[u615000, u615001] 30 (0, 0)) (blk__ BK614.out) hg (Kd.R_ne HO_615001.out BK614.out (by decide)))
        have n3_ := Aside0.mk (IsS104.grown (by repeat (first | (with_reducible first | exact HI0.out | apply IsS104.alloc | apply IsS104.drewN | apply IsS104.drew | apply IsS104.set_1 | refine IsS104.far ?_ NB0_613.out _ | refine IsS104.far ?_ NB0_614.out _) | exact HI0.out)) hg (IsS104.own_ne HI0.out HO_615001.out (by decide)))
        have n4_ := Aside0.mk (below_weaken (by repeat (first | (with_reducible first | exact HB.out | apply below_alloc | apply pw_below_drewN | apply below_drew1 | refine below_set ?_ (IsS104.ge HI0.out) | refine below_set ?_ GE613.out | refine below_set ?_ GE614.out) | exact HB.out)) HL.out hb)
        have n5_ := Aside0.mk (KeepBut.trans (by repeat (first | (with_reducible first | exact HK.out | apply KeepBut.set_ | apply keep_drewN | apply keep_drew | apply keep_alloc | refine keep_far ?_ GW613.out _ | refine keep_far ?_ GW614.out _) | exact HK.out)) (KeepBut.of_grown hg g) (Kd.R_base2 HO_615001.out))
        have n6_ := Aside0.mk (ho)
        clear HO_615000
        clear BK613
        clear BK614
        clear HI0
        clear HB
        clear HK
        clear HO_615001
        have HO_615000 := n0_
        have BK613 := n1_
        have BK614 := n2_
        have HI0 := n3_
        have HB := n4_
        have HK := n5_
        have HO628 := n6_
        clear n0_ n1_ n2_ n3_ n4_ n5_ n6_
        clear ho hb hg hat
        obtain ⟨Ao25, co25, eo25⟩ := Kd.R_slice HO628.out
        (first | subst eo25 | (injection eo25 with f1_ f2_ f3_; have f4_ := f1_.symm; have f5_ := f3_.symm; clear f1_ f2_ f3_; subst f4_; subst f5_))
        refine hK.out _ _ ⟨(blk_cell BK614.out 0).trans rfl, (blk_cell BK614.out 1).trans rfl⟩ (fun hHeld => ?_)
        clear hK K
        refine na__ 33 ?_
        refine pu__ (i := 6) (N := some 34) #[true, true, true, true, true, true, true, false] HT_.out ?_
        refine last_ (i := 7) (N := none) #[true, true, true, true, true, true, true, true] rfl rfl (one_of HT_.out (by kernel_rfl)) (by decide) (fun K hK => ?_)
        have hs26 : w24.cell? ⟨gb614, 1, none⟩ = some (u615001) := (blk_cell BK614.out 1).trans rfl
        have hfs26 := blk_frozen BK614.out 1
        have hns26_0 := NB613_614.out
        have hms26_0 := NB614_613.out
        refine skip_ (w1 := ?_) (by rfl) rfl ?_ ?_
        rotate_left
        ·go_simp
         rfl
        refine hK.out _ _ ?_
        clear hK K
        refine done_ (done_of HT_.out (by kernel_rfl)) ?_
        try go_wp2
        go_roundg k2
        case measure => have := HK1.out; have := HK2.out; omega
        case rel => exact ⟨(wrap64 (x5_2 - 1)), (t625), (y626), (.slice Ao25 y626.length co25), (rf__), H', ⟨by have := HK1.out; have := HK2.out; omega⟩, ⟨by (with_reducible repeat (first | apply Kd.R_alloc | apply Kd.R_drewN | apply Kd.R_drew)); exact Kd.R_mono (Kd.R_far (p := ⟨gb614, 1, none⟩) (Kd.R_types HO_615000.out BK614.out (by decide)) h2__ (.slice Ao25 y626.length co25)) (fun _ hk => hk.1.2)⟩, ⟨by (with_reducible repeat (first | apply Kd.R_alloc | apply Kd.R_drewN | apply Kd.R_drew)); exact Kd.R_mono (Kd.R_far (p := ⟨gb614, 1, none⟩) (Kd.R_types HO628.out BK614.out (by decide)) h2__ (.slice Ao25 y626.length co25)) (fun _ hk => hk.1)⟩, ⟨by (with_reducible repeat (first | refine blk_drewN ?_ _ | refine blk_drew ?_ | refine blk_alloc ?_ _)); refine blk_far ?_ NB613_614.out _; (with_reducible repeat (first | refine blk_drewN ?_ _ | refine blk_drew ?_ | refine blk_alloc ?_ _)); exact BK613.out⟩, ⟨by (with_reducible repeat (first | refine blk_drewN ?_ _ | refine blk_drew ?_ | refine blk_alloc ?_ _)); refine blk_put (cs := #[u615000, u615001]) ?_ 1 _ rfl; (with_reducible repeat (first | refine blk_drewN ?_ _ | refine blk_drew ?_ | refine blk_alloc ?_ _)); exact BK614.out⟩, ⟨by repeat (first | (with_reducible first | exact HI0.out | apply IsS104.alloc | apply IsS104.drewN | apply IsS104.drew | apply IsS104.set_1 | refine IsS104.far ?_ NB0_613.out _ | refine IsS104.far ?_ NB0_614.out _) | exact HI0.out)⟩, ⟨by repeat (first | (with_reducible first | exact HK.out | apply KeepBut.set_ | apply keep_drewN | apply keep_drew | apply keep_alloc | refine keep_far ?_ GW613.out _ | refine keep_far ?_ GW614.out _) | exact HK.out)⟩, ⟨by repeat (first | (with_reducible first | exact HB.out | apply below_alloc | apply pw_below_drewN | apply below_drew1 | refine below_set ?_ (IsS104.ge HI0.out) | refine below_set ?_ GE613.out | refine below_set ?_ GE614.out) | exact HB.out)⟩⟩
       ·rw [if_neg c21] at H
        exact absurd H (by simp)
      ·rw [if_neg c19] at H
       have c19b0 : decide (0 < x5_2) = false := decide_eq_false c19
       clear c19
       replace H := Option.bind_eq_some_iff.mp H
       obtain ⟨⟨t629, t630⟩, A270, H⟩ := H
       replace H : (if t629 = 0 then ((spec_l1Rd_pick.f k2 s0_0 t630 2).bind fun bt631 => ((spec_l1Many.f k2 (⟨#[101]⟩ : ByteArray) (wrap64 (5000 + bt631.1))).bind fun t633 => (if x615001_2.length < 8796093022208 then (spec_l2Draw.j2 k2 t629 s0_0 bt631.2 x615000_1 (x615001_2 ++ [t633])) else (none)))) else (spec_l2Draw.j2 k2 t629 s0_0 t630 x615000_1 x615001_2)) = some (r1, r2, r3) := H
       have A27 := Aside0.mk A270
       clear A270
       have HC28 := Aside0.mk H
       clear H
       go_upto_if 38 with (first | ((with_reducible refine gate_callee (f := 71) rfl ?_); refine goesL_ (some 36) rfl rfl Try.func71 (by kernel_rfl) rfl #[.pointer (some ⟨g, 0, none⟩), .int .i64 14] rfl (ar__) ?_; (with_reducible refine (spec_l1Rd_pick.calls k2 g s0_0 x1001_2 14 t629 t630 w0 _ ?side1 ?side2 A27.out).mono ?_); (case side1 => repeat (first | (with_reducible first | exact HI0.out | apply IsS104.alloc | apply IsS104.drewN | apply IsS104.drew | apply IsS104.set_1 | refine IsS104.far ?_ NB0_613.out _ | refine IsS104.far ?_ NB0_614.out _) | exact HI0.out)); (case side2 => repeat (first | (with_reducible first | exact HB.out | apply below_alloc | apply pw_below_drewN | apply below_drew1 | refine below_set ?_ (IsS104.ge HI0.out) | refine below_set ?_ GE613.out | refine below_set ?_ GE614.out) | exact HB.out)); rintro e w29 ⟨rfl, hi, hb, hk⟩; refine ⟨_, rfl, ?_⟩; have n0_ := Aside0.mk (Kd.R_mono (Kd.R_keep (IsS104.apart (show IsS104 w0 _ g s0_0 x1001_2 from by repeat (first | (with_reducible first | exact HI0.out | apply IsS104.alloc | apply IsS104.drewN | apply IsS104.drew | apply IsS104.set_1 | refine IsS104.far ?_ NB0_613.out _ | refine IsS104.far ?_ NB0_614.out _) | exact HI0.out)) (rr__ HO_615000.out) (by decide)) hk (fun _ h => h.2)) (fun _ h => h.1)); have n1_ := Aside0.mk (Kd.R_mono (Kd.R_keep (IsS104.apart (show IsS104 w0 _ g s0_0 x1001_2 from by repeat (first | (with_reducible first | exact HI0.out | apply IsS104.alloc | apply IsS104.drewN | apply IsS104.drew | apply IsS104.set_1 | refine IsS104.far ?_ NB0_613.out _ | refine IsS104.far ?_ NB0_614.out _) | exact HI0.out)) (rr__ HO_615001.out) (by decide)) hk (fun _ h => h.2)) (fun _ h => h.1)); have n2_ := Aside0.mk (KeepBut.blk hk (g' := gb613) (o := .cells #[.slice none 0 0, .slice none 0 0] 30 (0, 0)) (blk__ BK613.out) NB613_0.out (by simp)); have n3_ := Aside0.mk (KeepBut.blk hk (g' := gb614) (o := .cells #[u615000, u615001] 30 (0, 0)) (blk__ BK614.out) NB614_0.out (by simp)); have n4_ := Aside0.mk (KeepBut.trans (by repeat (first | (with_reducible first | exact HK.out | apply KeepBut.set_ | apply keep_drewN | apply keep_drew | apply keep_alloc | refine keep_far ?_ GW613.out _ | refine keep_far ?_ GW614.out _) | exact HK.out)) hk (.inl rfl)); have n5_ := Aside0.mk (hb); have n6_ := Aside0.mk (hi); clear HO_615000; clear HO_615001; clear BK613; clear BK614; clear HK; clear HB; clear HI0; have HO_615000 := n0_; have HO_615001 := n1_; have BK613 := n2_; have BK614 := n3_; have HK := n4_; have HB := n5_; have HI0 := n6_; clear n0_ n1_ n2_ n3_ n4_ n5_ n6_; (try clear hb); (try clear hb2); (try clear hk); (try clear hi)))
       (try simp only [Act.put, List.setIfInBounds_toArray, List.set_cons_zero, List.set_cons_succ])
       go_cut [] (fun wc => ∃ (kq : Nat) (x1001_27 : Int) (x615001_27 : List ByteArray) (u615001 : Value), Aside0 (spec_l2Draw.j2 kq t629 s0_0 x1001_27 x615000_1 x615001_27 = some (r1, r2, r3)) ∧ Aside0 (kq ≤ k2) ∧ Aside0 (Kd.R Kd.string 9 wc w.heap.size (fun k_ => some k_ ≠ (u615001 : Value).ownBlock) u615000 x615000_1) ∧ Aside0 (Kd.R Kd.string 9 wc w.heap.size (fun k_ => some k_ ≠ (u615000 : Value).ownBlock) u615001 x615001_27) ∧ Aside0 (wc.heap[gb613]? = some (.cells #[(.slice none 0 0), (.slice none 0 0)] 30 (0, 0))) ∧ Aside0 (wc.heap[gb614]? = some (.cells #[u615000, u615001] 30 (0, 0))) ∧ Aside0 (IsS104 w0 wc g s0_0 x1001_27) ∧ Aside0 (KeepBut w wc g none) ∧ Aside0 (Below w0.heap.size w0 wc))
       case first =>
        have H := HC28.out
        clear HC28
        by_cases c30 : t629 = 0
        ·rw [if_pos c30] at H
         have c30b0 : (t629 == 0) = true := beq_iff_eq.mpr c30
         have c30b1 : (t629 != 0) = false := bne_eq_false_iff_eq.mpr c30
         clear c30
         (first | rw [c30b0] | (simp only [i64_w, i32_w]; rw [c30b0]) | skip)
         replace H := Option.bind_eq_some_iff.mp H
         obtain ⟨⟨t631, t632⟩, A310, H⟩ := H
         replace H : ((spec_l1Many.f k2 (⟨#[101]⟩ : ByteArray) (wrap64 (5000 + t631))).bind fun t633 => (if x615001_2.length < 8796093022208 then (spec_l2Draw.j2 k2 t629 s0_0 t632 x615000_1 (x615001_2 ++ [t633])) else (none))) = some (r1, r2, r3) := H
         have A31 := Aside0.mk A310
         clear A310
         replace H := Option.bind_eq_some_iff.mp H
         obtain ⟨t633, A320, H⟩ := H
         replace H : (if x615001_2.length < 8796093022208 then (spec_l2Draw.j2 k2 t629 s0_0 t632 x615000_1 (x615001_2 ++ [t633])) else (none)) = some (r1, r2, r3) := H
         have A32 := Aside0.mk A320
         clear A320
         by_cases c33 : x615001_2.length < 8796093022208
         ·rw [if_pos c33] at H
          have LMc33 := Aside0.mk c33
          clear c33
          obtain ⟨y634, hy634⟩ : ∃ y_ : List ByteArray, y_ = (x615001_2 ++ [t633]) := ⟨_, rfl⟩
          replace H : (spec_l2Draw.j2 k2 t629 s0_0 t632 x615000_1 y634) = some (r1, r2, r3) := by first | (rw [hy634]; with_reducible exact H) | (have H2_ := (Option.bind_some _ _).symm.trans H; rw [hy634]; with_reducible exact H2_) | (have H2_ := (Option.bind_some _ _).symm.trans H; with_reducible exact H2_) | with_reducible exact H | (rw [hy634]; exact H) | exact H
          have Ny634 := Aside0.mk hy634
          clear hy634
          have H' := Aside0.mk H
          clear H
          try go_wp2
          have n0_ := Aside0.mk (Kd.R_drew HO_615000.out)
          have n1_ := Aside0.mk (Kd.R_drew HO_615001.out)
          have n2_ := Aside0.mk (blk_drew BK613.out)
          have n3_ := Aside0.mk (blk_drew BK614.out)
          have n4_ := Aside0.mk (IsS104.drew HI0.out)
          have n5_ := Aside0.mk (keep_drew HK.out)
          have n6_ := Aside0.mk (below_drew1 HB.out)
          clear HO_615000
          clear HO_615001
          clear BK613
          clear BK614
          clear HI0
          clear HK
          clear HB
          have HO_615000 := n0_
          have HO_615001 := n1_
          have BK613 := n2_
          have BK614 := n3_
          have HI0 := n4_
          have HK := n5_
          have HB := n6_
          clear n0_ n1_ n2_ n3_ n4_ n5_ n6_
          refine start_ (n := 10) (S := fun w' => w'.cell? ⟨gb614, 0, none⟩ = some (u615000) ∧ w'.cell? ⟨gb614, 1, none⟩ = some (u615001)) (ds := [9]) #[false, false, false, false, false, false, false, false, false, false] (by kernel_rfl) rfl rfl ⟨(blk_cell BK614.out 0).trans rfl, (blk_cell BK614.out 1).trans rfl⟩ (fun hHeld => ?_); refine with_tabW spec_l2Draw.tab12 spec_l2Draw.bits12 (fun HT_ HW_ => ?_)
          generalize w29.drew = w34 at HO_615000 HO_615001 BK613 BK614 HI0 HK HB hHeld ⊢
          refine pu__ (i := 0) (N := some 39) #[true, false, false, false, false, false, false, false, false, false] HT_.out ?_
          refine pu__ (i := 2) (N := some 41) #[true, false, true, false, false, false, false, false, false, false] HT_.out ?_
          refine take_ (i := 1) (N := some 40) (v := ?_) (a' := ?_) #[true, true, true, false, false, false, false, false, false, false] rfl rfl (take_ofW HT_.out HW_.out (by kernel_rfl)) (fun _ _ _ h => h) (Or.inl ⟨by rfl, ?_⟩) hHeld ?_ ?_
          rotate_left
          ·rintro w' ⟨s0, s1⟩
           go_simp
           with_reducible rfl
          rotate_left
          ·simp only [Act.put, List.setIfInBounds_toArray, List.set_cons_zero, List.set_cons_succ, i64_w, i32_w]
           rfl
          refine one_ (i := 3) (N := some 42) #[true, true, true, true, false, false, false, false, false, false] rfl rfl (one_of HT_.out (by kernel_rfl)) (by decide) (fun K hK => ?_)
          refine goes_ Try.func71 (by kernel_rfl) rfl #[.pointer (some ⟨g, 0, none⟩), .int .i64 2] (by rfl) rfl rfl (ar__) ?_
          with_reducible refine (spec_l1Rd_pick.calls k2 g s0_0 t630 2 t631 t632 w0 _ ?side1 ?side2 A31.out).mono ?_
          (case side1 => repeat (first | (with_reducible first | exact HI0.out | apply IsS104.alloc | apply IsS104.drewN | apply IsS104.drew | apply IsS104.set_1 | refine IsS104.far ?_ NB0_613.out _ | refine IsS104.far ?_ NB0_614.out _) | exact HI0.out))
          (case side2 => repeat (first | (with_reducible first | exact HB.out | apply below_alloc | apply pw_below_drewN | apply below_drew1 | refine below_set ?_ (IsS104.ge HI0.out) | refine below_set ?_ GE613.out | refine below_set ?_ GE614.out) | exact HB.out))
          rintro e w35 ⟨rfl, hi, hb, hk⟩
          refine ⟨_, rfl, ?_⟩
          have n0_ := Aside0.mk (Kd.R_mono (Kd.R_keep (IsS104.apart (show IsS104 w0 _ g s0_0 t630 from by repeat (first | (with_reducible first | exact HI0.out | apply IsS104.alloc | apply IsS104.drewN | apply IsS104.drew | apply IsS104.set_1 | refine IsS104.far ?_ NB0_613.out _ | refine IsS104.far ?_ NB0_614.out _) | exact HI0.out)) (rr__ HO_615000.out) (by decide)) hk (fun _ h => h.2)) (fun _ h => h.1))
          have n1_ := Aside0.mk (Kd.R_mono (Kd.R_keep (IsS104.apart (show IsS104 w0 _ g s0_0 t630 from by repeat (first | (with_reducible first | exact HI0.out | apply IsS104.alloc | apply IsS104.drewN | apply IsS104.drew | apply IsS104.set_1 | refine IsS104.far ?_ NB0_613.out _ | refine IsS104.far ?_ NB0_614.out _) | exact HI0.out)) (rr__ HO_615001.out) (by decide)) hk (fun _ h => h.2)) (fun _ h => h.1))
          have n2_ := Aside0.mk (KeepBut.blk hk (g' := gb613) (o := .cells #[.slice none 0 0, .slice none 0 0] 30 (0, 0)) (blk__ BK613.out) NB613_0.out (by simp))
          have n3_ := Aside0.mk (KeepBut.blk hk (g' := gb614) (o := .cells #[u615000, u615001] 30 (0, 0)) (blk__ BK614.out) NB614_0.out (by simp))
          have n4_ := Aside0.mk (KeepBut.trans (by repeat (first | (with_reducible first | exact HK.out | apply KeepBut.set_ | apply keep_drewN | apply keep_drew | apply keep_alloc | refine keep_far ?_ GW613.out _ | refine keep_far ?_ GW614.out _) | exact HK.out)) hk (.inl rfl))
          have n5_ := Aside0.mk (hb)
          have n6_ := Aside0.mk (hi)
          clear HO_615000
          clear HO_615001
          clear BK613
          clear BK614
          clear HK
          clear HB
          clear HI0
          have HO_615000 := n0_
          have HO_615001 := n1_
          have BK613 := n2_
          have BK614 := n3_
          have HK := n4_
          have HB := n5_
          have HI0 := n6_
          clear n0_ n1_ n2_ n3_ n4_ n5_ n6_
          (try clear hb)
          (try clear hb2)
          (try clear hk)
          (try clear hi)
          refine hK.out _ _ ⟨(blk_cell BK614.out 0).trans rfl, (blk_cell BK614.out 1).trans rfl⟩ (fun hHeld => ?_)
          clear hK K
          refine na__ 42 ?_
          refine pu__ (i := 4) (N := some 43) #[true, true, true, true, true, false, false, false, false, false] HT_.out ?_
          refine one_ (i := 5) (N := some 44) #[true, true, true, true, true, true, false, false, false, false] rfl rfl (one_of HT_.out (by kernel_rfl)) (by decide) (fun K hK => ?_)
          refine goes_ Try.func72 (by kernel_rfl) rfl #[.string (⟨#[101]⟩ : ByteArray), .int .i64 (wrap64 (5000 + t631))] (by rfl) rfl rfl (ar__) ?_
          with_reducible refine (spec_l1Many.calls k2 (⟨#[101]⟩ : ByteArray) (wrap64 (5000 + t631)) t633 _ A32.out).mono ?_
          rintro e w' ⟨rfl, ⟨nd, rfl⟩⟩
          refine ⟨_, rfl, ?_⟩
          refine hK.out _ _ ⟨(blk_cell BK614.out 0).trans rfl, (blk_cell BK614.out 1).trans rfl⟩ (fun hHeld => ?_)
          clear hK K
          refine na__ 44 ?_
          refine one_ (i := 6) (N := some 45) #[true, true, true, true, true, true, true, false, false, false] rfl rfl (one_of HT_.out (by kernel_rfl)) (by decide) (fun K hK => ?_)
          refine value_ (w1 := ?_) (v := ?_) (by rfl) rfl ?_ ?_
          rotate_left 2
          ·go_simp
           constructor
           ·rfl
           ·rfl
          refine hK.out _ _ ⟨(blk_cell (blk_alloc BK614.out _) 0).trans rfl, (blk_cell (blk_alloc BK614.out _) 1).trans rfl⟩ (fun hHeld => ?_)
          clear hK K
          refine na__ 45 ?_
          refine one_ (i := 7) (N := some 46) #[true, true, true, true, true, true, true, true, false, false] rfl rfl (one_of HT_.out (by kernel_rfl)) (by decide) (fun K hK => ?_)
          refine Kd.R_append_step Kd.string w.heap.size (by rfl) (.tmp 40) (.tmp 45) 25 9 (.string ⟨#[]⟩) 16 rfl Try.underlying25 info9 rfl (by decide) (by omega) u615001 x615001_2 t633 [.string t633] (fun k_ => some k_ ≠ (u615000 : Value).ownBlock) (fun _ => False) rfl rfl ?aP (fun _ hk => hk.elim) ?aF ?aO (Below.refl _ _) ?aS ?aL ?_
          (case aP => exact rfl)
          (case aF => exact (fun k_ hk => Kd.fresh' (Kd.R_lt (rr__ HO_615000.out)) k_ hk))
          (case aO => exact (rr__ HO_615001.out))
          (case aS => exact (keep_size (w := w) (g := g) (row := none) (by repeat (first | (with_reducible first | exact HK.out | apply KeepBut.set_ | apply keep_drewN | apply keep_drew | apply keep_alloc | refine keep_far ?_ GW613.out _ | refine keep_far ?_ GW614.out _) | exact HK.out))))
          (case aL => have := LMc33.out; omega)
          intro v635 w36 ho hb hg hat
          rw [← Ny634.out] at ho
          have n0_ := Aside0.mk (Kd.R_after (ok := (fun _ => True)) (by (with_reducible repeat (first | apply Kd.R_alloc | apply Kd.R_drewN | apply Kd.R_drew)); exact Kd.R_mono HO_615000.out (fun _ hk => ⟨trivial, hk⟩)) hg hat)
          have n1_ := Aside0.mk (blk_grown (g := gb613) (o := .cells #[.slice none 0 0, .slice none 0 0] 30 (0, 0)) (blk__ BK613.out) hg (Kd.R_ne HO_615001.out BK613.out (by decide)))
          have n2_ := Aside0.mk (blk_grown (g := gb614) (o := .cells #[u615000, u615001] 30 (0, 0)) (blk__ BK614.out) hg (Kd.R_ne HO_615001.out BK614.out (by decide)))
          have n3_ := Aside0.mk (IsS104.grown (by repeat (first | (with_reducible first | exact HI0.out | apply IsS104.alloc | apply IsS104.drewN | apply IsS104.drew | apply IsS104.set_1 | refine IsS104.far ?_ NB0_613.out _ | refine IsS104.far ?_ NB0_614.out _) | exact HI0.out)) hg (IsS104.own_ne HI0.out HO_615001.out (by decide)))
          have n4_ := Aside0.mk (below_weaken (by repeat (first | (with_reducible first | exact HB.out | apply below_alloc | apply pw_below_drewN | apply below_drew1 | refine below_set ?_ (IsS104.ge HI0.out) | refine below_set ?_ GE613.out | refine below_set ?_ GE614.out) | exact HB.out)) HL.out hb)
          have n5_ := Aside0.mk (KeepBut.trans (by repeat (first | (with_reducible first | exact HK.out | apply KeepBut.set_ | apply keep_drewN | apply keep_drew | apply keep_alloc | refine keep_far ?_ GW613.out _ | refine keep_far ?_ GW614.out _) | exact HK.out)) (KeepBut.of_grown hg g) (Kd.R_base2 HO_615001.out))
          have n6_ := Aside0.mk (ho)
          clear HO_615000
          clear BK613
          clear BK614
          clear HI0
          clear HB
          clear HK
          clear HO_615001
          have HO_615000 := n0_
          have BK613 := n1_
          have BK614 := n2_
          have HI0 := n3_
          have HB := n4_
          have HK := n5_
          have HO636 := n6_
          clear n0_ n1_ n2_ n3_ n4_ n5_ n6_
          clear ho hb hg hat
          obtain ⟨Ao37, co37, eo37⟩ := Kd.R_slice HO636.out
          (first | subst eo37 | (injection eo37 with f1_ f2_ f3_; have f4_ := f1_.symm; have f5_ := f3_.symm; clear f1_ f2_ f3_; subst f4_; subst f5_))
          refine hK.out _ _ ⟨(blk_cell BK614.out 0).trans rfl, (blk_cell BK614.out 1).trans rfl⟩ (fun hHeld => ?_)
          clear hK K
          refine na__ 46 ?_
          refine pu__ (i := 8) (N := some 47) #[true, true, true, true, true, true, true, true, true, false] HT_.out ?_
          refine last_ (i := 9) (N := none) #[true, true, true, true, true, true, true, true, true, true] rfl rfl (one_of HT_.out (by kernel_rfl)) (by decide) (fun K hK => ?_)
          have hs38 : w36.cell? ⟨gb614, 1, none⟩ = some (u615001) := (blk_cell BK614.out 1).trans rfl
          have hfs38 := blk_frozen BK614.out 1
          have hns38_0 := NB613_614.out
          have hms38_0 := NB614_613.out
          refine skip_ (w1 := ?_) (by rfl) rfl ?_ ?_
          rotate_left
          ·go_simp
           rfl
          refine hK.out _ _ ?_
          clear hK K
          refine done_ (done_of HT_.out (by kernel_rfl)) ?_
          try go_wp2
          go_meet
          case rel => exact ⟨_, (t632), (y634), (.slice Ao37 y634.length co37), H', ⟨by have := HK1.out; have := HK2.out; first | omega | exact Nat.le_refl _⟩, ⟨by (with_reducible repeat (first | apply Kd.R_alloc | apply Kd.R_drewN | apply Kd.R_drew)); exact Kd.R_mono (Kd.R_far (p := ⟨gb614, 1, none⟩) (Kd.R_types HO_615000.out BK614.out (by decide)) h2__ (.slice Ao37 y634.length co37)) (fun _ hk => hk.1.2)⟩, ⟨by (with_reducible repeat (first | apply Kd.R_alloc | apply Kd.R_drewN | apply Kd.R_drew)); exact Kd.R_mono (Kd.R_far (p := ⟨gb614, 1, none⟩) (Kd.R_types HO636.out BK614.out (by decide)) h2__ (.slice Ao37 y634.length co37)) (fun _ hk => hk.1)⟩, ⟨by (with_reducible repeat (first | refine blk_drewN ?_ _ | refine blk_drew ?_ | refine blk_alloc ?_ _)); refine blk_far ?_ NB613_614.out _; (with_reducible repeat (first | refine blk_drewN ?_ _ | refine blk_drew ?_ | refine blk_alloc ?_ _)); exact BK613.out⟩, ⟨by (with_reducible repeat (first | refine blk_drewN ?_ _ | refine blk_drew ?_ | refine blk_alloc ?_ _)); refine blk_put (cs := #[u615000, u615001]) ?_ 1 _ rfl; (with_reducible repeat (first | refine blk_drewN ?_ _ | refine blk_drew ?_ | refine blk_alloc ?_ _)); exact BK614.out⟩, ⟨by repeat (first | (with_reducible first | exact HI0.out | apply IsS104.alloc | apply IsS104.drewN | apply IsS104.drew | apply IsS104.set_1 | refine IsS104.far ?_ NB0_613.out _ | refine IsS104.far ?_ NB0_614.out _) | exact HI0.out)⟩, ⟨by repeat (first | (with_reducible first | exact HK.out | apply KeepBut.set_ | apply keep_drewN | apply keep_drew | apply keep_alloc | refine keep_far ?_ GW613.out _ | refine keep_far ?_ GW614.out _) | exact HK.out)⟩, ⟨by repeat (first | (with_reducible first | exact HB.out | apply below_alloc | apply pw_below_drewN | apply below_drew1 | refine below_set ?_ (IsS104.ge HI0.out) | refine below_set ?_ GE613.out | refine below_set ?_ GE614.out) | exact HB.out)⟩⟩
         ·rw [if_neg c33] at H
          exact absurd H (by simp)
        ·rw [if_neg c30] at H
         have c30b0 : (t629 == 0) = false := beq_eq_false_iff_ne.mpr c30
         have c30b1 : (t629 != 0) = true := bne_iff_ne.mpr c30
         (first | rw [c30b0] | (simp only [i64_w, i32_w]; rw [c30b0]) | skip)
         have H' := Aside0.mk H
         clear H
         go_wp2
         go_meet
         case rel => exact ⟨_, (t630), (x615001_2), (u615001), H', ⟨by have := HK1.out; have := HK2.out; first | omega | exact Nat.le_refl _⟩, ⟨rr__ HO_615000.out⟩, ⟨rr__ HO_615001.out⟩, ⟨blk__ BK613.out⟩, ⟨blk__ BK614.out⟩, ⟨by repeat (first | (with_reducible first | exact HI0.out | apply IsS104.alloc | apply IsS104.drewN | apply IsS104.drew | apply IsS104.set_1 | refine IsS104.far ?_ NB0_613.out _ | refine IsS104.far ?_ NB0_614.out _) | exact HI0.out)⟩, ⟨by repeat (first | (with_reducible first | exact HK.out | apply KeepBut.set_ | apply keep_drewN | apply keep_drew | apply keep_alloc | refine keep_far ?_ GW613.out _ | refine keep_far ?_ GW614.out _) | exact HK.out)⟩, ⟨by repeat (first | (with_reducible first | exact HB.out | apply below_alloc | apply pw_below_drewN | apply below_drew1 | refine below_set ?_ (IsS104.ge HI0.out) | refine below_set ?_ GE613.out | refine below_set ?_ GE614.out) | exact HB.out)⟩⟩
       case rest =>
        clear HC28
        try clear c1
        try clear c2
        try clear p2
        try clear c3
        try clear c5
        try clear c6
        try clear p6
        try clear c7
        try clear c9
        try clear c9b0
        try clear c11
        try clear c19
        try clear c19b0
        try clear c21
        try clear c30
        try clear c30b0
        try clear c30b1
        try clear c33
        try clear hcz7_0
        try clear hcz7_1
        try clear hfz7_0
        try clear hfz7_1
        try clear p2
        try clear p6
        obtain ⟨kq, x1001_27, x615001_27, u615001, HA, HJ27, HO_615000, HO_615001, BK613, BK614, HI0, HK, HB⟩ := hcut
        cases kq with
        | zero => exact absurd HA.out (by simp [spec_l2Draw.j2])
        | succ kj27 =>
         have H := HA.out
         clear HA
         simp only [spec_l2Draw.j2] at H
         by_cases c39 : t629 = 1
         ·rw [if_pos c39] at H
          have c39b0 : (t629 == 1) = true := beq_iff_eq.mpr c39
          have c39b1 : (t629 != 1) = false := bne_eq_false_iff_eq.mpr c39
          clear c39
          replace H := Option.bind_eq_some_iff.mp H
          obtain ⟨⟨t637, t638⟩, A400, H⟩ := H
          replace H : (spec_l2Draw.l2 kj27 (wrap64 ((wrap64 (4000 + t637)) - 1)) s0_0 t638 x615000_1 x615001_27) = some (r1, r2, r3) := H
          have A40 := Aside0.mk A400
          clear A400
          have H' := Aside0.mk H
          clear H
          go_wp2_with (first | ((with_reducible refine gate_callee (f := 71) rfl ?_); refine goesL_ (some 51) rfl rfl Try.func71 (by kernel_rfl) rfl #[.pointer (some ⟨g, 0, none⟩), .int .i64 3] rfl (ar__) ?_; (with_reducible refine (spec_l1Rd_pick.calls kj27 g s0_0 x1001_27 3 t637 t638 w0 _ ?side1 ?side2 A40.out).mono ?_); (case side1 => repeat (first | (with_reducible first | exact HI0.out | apply IsS104.alloc | apply IsS104.drewN | apply IsS104.drew | apply IsS104.set_1 | refine IsS104.far ?_ NB0_613.out _ | refine IsS104.far ?_ NB0_614.out _) | exact HI0.out)); (case side2 => repeat (first | (with_reducible first | exact HB.out | apply below_alloc | apply pw_below_drewN | apply below_drew1 | refine below_set ?_ (IsS104.ge HI0.out) | refine below_set ?_ GE613.out | refine below_set ?_ GE614.out) | exact HB.out)); rintro e w41 ⟨rfl, hi, hb, hk⟩; refine ⟨_, rfl, ?_⟩; have n0_ := Aside0.mk (Kd.R_mono (Kd.R_keep (IsS104.apart (show IsS104 w0 _ g s0_0 x1001_27 from by repeat (first | (with_reducible first | exact HI0.out | apply IsS104.alloc | apply IsS104.drewN | apply IsS104.drew | apply IsS104.set_1 | refine IsS104.far ?_ NB0_613.out _ | refine IsS104.far ?_ NB0_614.out _) | exact HI0.out)) (rr__ HO_615000.out) (by decide)) hk (fun _ h => h.2)) (fun _ h => h.1)); have n1_ := Aside0.mk (Kd.R_mono (Kd.R_keep (IsS104.apart (show IsS104 w0 _ g s0_0 x1001_27 from by repeat (first | (with_reducible first | exact HI0.out | apply IsS104.alloc | apply IsS104.drewN | apply IsS104.drew | apply IsS104.set_1 | refine IsS104.far ?_ NB0_613.out _ | refine IsS104.far ?_ NB0_614.out _) | exact HI0.out)) (rr__ HO_615001.out) (by decide)) hk (fun _ h => h.2)) (fun _ h => h.1)); have n2_ := Aside0.mk (KeepBut.blk hk (g' := gb613) (o := .cells #[.slice none 0 0, .slice none 0 0] 30 (0, 0)) (blk__ BK613.out) NB613_0.out (by simp)); have n3_ := Aside0.mk (KeepBut.blk hk (g' := gb614) (o := .cells #[u615000, u615001] 30 (0, 0)) (blk__ BK614.out) NB614_0.out (by simp)); have n4_ := Aside0.mk (KeepBut.trans (by repeat (first | (with_reducible first | exact HK.out | apply KeepBut.set_ | apply keep_drewN | apply keep_drew | apply keep_alloc | refine keep_far ?_ GW613.out _ | refine keep_far ?_ GW614.out _) | exact HK.out)) hk (.inl rfl)); have n5_ := Aside0.mk (hb); have n6_ := Aside0.mk (hi); clear HO_615000; clear HO_615001; clear BK613; clear BK614; clear HK; clear HB; clear HI0; have HO_615000 := n0_; have HO_615001 := n1_; have BK613 := n2_; have BK614 := n3_; have HK := n4_; have HB := n5_; have HI0 := n6_; clear n0_ n1_ n2_ n3_ n4_ n5_ n6_; (try clear hb); (try clear hb2); (try clear hk); (try clear hi)))
          go_loopg [] kj27 (fun kq w' => ∃ (x615000_4 : List ByteArray) (u615000 : Value), Aside0 (spec_l2Draw.l2 kq (wrap64 ((wrap64 (4000 + t637)) - 1)) s0_0 t638 x615000_4 x615001_27 = some (r1, r2, r3)) ∧ Aside0 (kq ≤ kj27) ∧ Aside0 (Kd.R Kd.string 9 w' w.heap.size (fun k_ => some k_ ≠ (u615001 : Value).ownBlock) u615000 x615000_4) ∧ Aside0 (Kd.R Kd.string 9 w' w.heap.size (fun k_ => some k_ ≠ (u615000 : Value).ownBlock) u615001 x615001_27) ∧ Aside0 (w'.heap[gb613]? = some (.cells #[(.slice none 0 0), (.slice none 0 0)] 30 (0, 0))) ∧ Aside0 (w'.heap[gb614]? = some (.cells #[u615000, u615001] 30 (0, 0))) ∧ Aside0 (IsS104 w0 w' g s0_0 t638) ∧ Aside0 (KeepBut w w' g none) ∧ Aside0 (Below w0.heap.size w0 w'))
          case atStart => exact ⟨(x615000_1), (u615000), H', ⟨Nat.le_refl _⟩, ⟨rr__ HO_615000.out⟩, ⟨rr__ HO_615001.out⟩, ⟨blk__ BK613.out⟩, ⟨blk__ BK614.out⟩, ⟨by repeat (first | (with_reducible first | exact HI0.out | apply IsS104.alloc | apply IsS104.drewN | apply IsS104.drew | apply IsS104.set_1 | refine IsS104.far ?_ NB0_613.out _ | refine IsS104.far ?_ NB0_614.out _) | exact HI0.out)⟩, ⟨by repeat (first | (with_reducible first | exact HK.out | apply KeepBut.set_ | apply keep_drewN | apply keep_drew | apply keep_alloc | refine keep_far ?_ GW613.out _ | refine keep_far ?_ GW614.out _) | exact HK.out)⟩, ⟨by repeat (first | (with_reducible first | exact HB.out | apply below_alloc | apply pw_below_drewN | apply below_drew1 | refine below_set ?_ (IsS104.ge HI0.out) | refine below_set ?_ GE613.out | refine below_set ?_ GE614.out) | exact HB.out)⟩⟩
          case round =>
           clear H'
           try clear c1
           try clear c2
           try clear p2
           try clear c3
           try clear c5
           try clear c6
           try clear p6
           try clear c7
           try clear c9
           try clear c9b0
           try clear c11
           try clear c19
           try clear c19b0
           try clear c21
           try clear c30
           try clear c30b0
           try clear c30b1
           try clear c33
           try clear c39
           try clear c39b0
           try clear c39b1
           try clear hcz7_0
           try clear hcz7_1
           try clear hfz7_0
           try clear hfz7_1
           try clear p2
           try clear p6
           obtain ⟨x615000_4, u615000, HA, HK4, HO_615000, HO_615001, BK613, BK614, HI0, HK, HB⟩ := hrel
           cases gk with
           | zero => exact absurd HA.out (by simp [spec_l2Draw.l2])
           | succ k4 =>
            have H := HA.out
            clear HA
            simp only [spec_l2Draw.l2] at H
            by_cases c42 : (wrap64 ((x615000_4.length : Int) + (x615001_27.length : Int))) < (wrap64 ((wrap64 (4000 + t637)) - 1))
            ·rw [if_pos c42] at H
             have c42b0 : decide ((wrap64 ((x615000_4.length : Int) + (x615001_27.length : Int))) < (wrap64 ((wrap64 (4000 + t637)) - 1))) = true := decide_eq_true c42
             clear c42
             by_cases c43 : x615000_4.length < 8796093022208
             ·rw [if_pos c43] at H
              have LMc43 := Aside0.mk c43
              clear c43
              obtain ⟨y639, hy639⟩ : ∃ y_ : List ByteArray, y_ = (x615000_4 ++ [(⟨#[102]⟩ : ByteArray)]) := ⟨_, rfl⟩
              replace H : (spec_l2Draw.l2 k4 (wrap64 ((wrap64 (4000 + t637)) - 1)) s0_0 t638 y639 x615001_27) = some (r1, r2, r3) := by first | (rw [hy639]; with_reducible exact H) | (have H2_ := (Option.bind_some _ _).symm.trans H; rw [hy639]; with_reducible exact H2_) | (have H2_ := (Option.bind_some _ _).symm.trans H; with_reducible exact H2_) | with_reducible exact H | (rw [hy639]; exact H) | exact H
              have Ny639 := Aside0.mk hy639
              clear hy639
              have H' := Aside0.mk H
              clear H
              have hnb44 := NB614_613.out
              have hnc44 := NB613_614.out
              have hnb45 := NB614_0.out
              have hnc45 := NB0_614.out
              have hcz46_0 : wr.cell? ⟨gb614, 0, none⟩ = some (u615000) := (blk_cell BK614.out 0).trans rfl
              have hcz46_1 : wr.cell? ⟨gb614, 1, none⟩ = some (u615001) := (blk_cell BK614.out 1).trans rfl
              have hfz46_0 := blk_frozen BK614.out 0
              have hfz46_1 := blk_frozen BK614.out 1
              obtain ⟨Ao47, co47, eo47⟩ := Kd.R_slice HO_615000.out
              subst eo47
              obtain ⟨Ao48, co48, eo48⟩ := Kd.R_slice HO_615001.out
              subst eo48
              go_wp2_with (first | ((with_reducible refine gate_builtin (b := .append) (xs := #[.tmp 64, .tmp 65]) rfl ?_); at_builtin; refine Kd.R_append Kd.string w.heap.size rfl (.tmp 64) (.tmp 65) 25 9 (.string ⟨#[]⟩) 16 rfl Try.underlying25 info9 rfl (by decide) (by omega) (.slice Ao47 x615000_4.length co47) x615000_4 (⟨#[102]⟩ : ByteArray) [.string (⟨#[102]⟩ : ByteArray)] (fun k_ => some k_ ≠ (ob__ Ao48 x615001_27.length co48)) (fun _ => False) rfl rfl ?aP (fun _ hk => hk.elim) ?aF ?aO (Below.refl _ _) ?aS ?aL ?_; (case aP => exact rfl); (case aF => exact (fun k_ hk => Kd.fresh' (Kd.R_lt (rr__ HO_615001.out)) k_ hk)); (case aO => exact (rr__ HO_615000.out)); (case aS => exact (keep_size (w := w) (g := g) (row := none) (by repeat (first | (with_reducible first | exact HK.out | apply KeepBut.set_ | apply keep_drewN | apply keep_drew | apply keep_alloc | refine keep_far ?_ GW613.out _ | refine keep_far ?_ GW614.out _) | exact HK.out)))); (case aL => have := LMc43.out; omega); intro v640 w49 ho hb hg hat; rw [← Ny639.out] at ho; have n0_ := Aside0.mk (Kd.R_after (ok := (fun _ => True)) (by (with_reducible repeat (first | apply Kd.R_alloc | apply Kd.R_drewN | apply Kd.R_drew)); exact Kd.R_mono HO_615001.out (fun _ hk => ⟨trivial, hk⟩)) hg hat); have n1_ := Aside0.mk (blk_grown (g := gb613) (o := .cells #[.slice none 0 0, .slice none 0 0] 30 (0, 0)) (blk__ BK613.out) hg (Kd.R_ne HO_615000.out BK613.out (by decide))); have n2_ := Aside0.mk (blk_grown (g := gb614) (o := .cells #[.slice Ao47 x615000_4.length co47, .slice Ao48 x615001_27.length co48] 30 (0, 0)) (blk__ BK614.out) hg (Kd.R_ne HO_615000.out BK614.out (by decide))); have n3_ := Aside0.mk (IsS104.grown (by repeat (first | (with_reducible first | exact HI0.out | apply IsS104.alloc | apply IsS104.drewN | apply IsS104.drew | apply IsS104.set_1 | refine IsS104.far ?_ NB0_613.out _ | refine IsS104.far ?_ NB0_614.out _) | exact HI0.out)) hg (IsS104.own_ne HI0.out HO_615000.out (by decide))); have n4_ := Aside0.mk (below_weaken (by repeat (first | (with_reducible first | exact HB.out | apply below_alloc | apply pw_below_drewN | apply below_drew1 | refine below_set ?_ (IsS104.ge HI0.out) | refine below_set ?_ GE613.out | refine below_set ?_ GE614.out) | exact HB.out)) HL.out hb); have n5_ := Aside0.mk (KeepBut.trans (by repeat (first | (with_reducible first | exact HK.out | apply KeepBut.set_ | apply keep_drewN | apply keep_drew | apply keep_alloc | refine keep_far ?_ GW613.out _ | refine keep_far ?_ GW614.out _) | exact HK.out)) (KeepBut.of_grown hg g) (Kd.R_base2 HO_615000.out)); have n6_ := Aside0.mk (ho); clear HO_615001; clear BK613; clear BK614; clear HI0; clear HB; clear HK; clear HO_615000; have HO_615001 := n0_; have BK613 := n1_; have BK614 := n2_; have HI0 := n3_; have HB := n4_; have HK := n5_; have HO641 := n6_; clear n0_ n1_ n2_ n3_ n4_ n5_ n6_; clear ho hb hg hat; obtain ⟨Ao50, co50, eo50⟩ := Kd.R_slice HO641.out; subst eo50; have hcz51_0 : w49.cell? ⟨gb614, 0, none⟩ = some (.slice Ao47 x615000_4.length co47) := (blk_cell BK614.out 0).trans rfl; have hcz51_1 : w49.cell? ⟨gb614, 1, none⟩ = some (.slice Ao48 x615001_27.length co48) := (blk_cell BK614.out 1).trans rfl; have hfz51_0 := blk_frozen BK614.out 0; have hfz51_1 := blk_frozen BK614.out 1))
              go_roundg k4
              case measure => have := HK1.out; have := HK2.out; have := HJ27.out; have := HK4.out; omega
              case rel => exact ⟨(y639), (.slice Ao50 y639.length co50), H', ⟨by have := HK1.out; have := HK2.out; have := HJ27.out; have := HK4.out; omega⟩, ⟨by (with_reducible repeat (first | apply Kd.R_alloc | apply Kd.R_drewN | apply Kd.R_drew)); exact Kd.R_mono (Kd.R_far (p := ⟨gb614, 0, none⟩) (Kd.R_types HO641.out BK614.out (by decide)) h2__ (.slice Ao50 y639.length co50)) (fun _ hk => hk.1)⟩, ⟨by (with_reducible repeat (first | apply Kd.R_alloc | apply Kd.R_drewN | apply Kd.R_drew)); exact Kd.R_mono (Kd.R_far (p := ⟨gb614, 0, none⟩) (Kd.R_types HO_615001.out BK614.out (by decide)) h2__ (.slice Ao50 y639.length co50)) (fun _ hk => hk.1.2)⟩, ⟨by (with_reducible repeat (first | refine blk_drewN ?_ _ | refine blk_drew ?_ | refine blk_alloc ?_ _)); refine blk_far ?_ NB613_614.out _; (with_reducible repeat (first | refine blk_drewN ?_ _ | refine blk_drew ?_ | refine blk_alloc ?_ _)); exact BK613.out⟩, ⟨by (with_reducible repeat (first | refine blk_drewN ?_ _ | refine blk_drew ?_ | refine blk_alloc ?_ _)); refine blk_put (cs := #[.slice Ao47 x615000_4.length co47, .slice Ao48 x615001_27.length co48]) ?_ 0 _ rfl; (with_reducible repeat (first | refine blk_drewN ?_ _ | refine blk_drew ?_ | refine blk_alloc ?_ _)); exact BK614.out⟩, ⟨by repeat (first | (with_reducible first | exact HI0.out | apply IsS104.alloc | apply IsS104.drewN | apply IsS104.drew | apply IsS104.set_1 | refine IsS104.far ?_ NB0_613.out _ | refine IsS104.far ?_ NB0_614.out _) | exact HI0.out)⟩, ⟨by repeat (first | (with_reducible first | exact HK.out | apply KeepBut.set_ | apply keep_drewN | apply keep_drew | apply keep_alloc | refine keep_far ?_ GW613.out _ | refine keep_far ?_ GW614.out _) | exact HK.out)⟩, ⟨by repeat (first | (with_reducible first | exact HB.out | apply below_alloc | apply pw_below_drewN | apply below_drew1 | refine below_set ?_ (IsS104.ge HI0.out) | refine below_set ?_ GE613.out | refine below_set ?_ GE614.out) | exact HB.out)⟩⟩
             ·rw [if_neg c43] at H
              exact absurd H (by simp)
            ·rw [if_neg c42] at H
             have c42b0 : decide ((wrap64 ((x615000_4.length : Int) + (x615001_27.length : Int))) < (wrap64 ((wrap64 (4000 + t637)) - 1))) = false := decide_eq_false c42
             clear c42
             simp only [Option.some.injEq, Prod.mk.injEq] at H
             obtain ⟨rfl, rfl, rfl⟩ := H
             have hnb52 := NB614_613.out
             have hnc52 := NB613_614.out
             have hnb53 := NB614_0.out
             have hnc53 := NB0_614.out
             have hcz54_0 : wr.cell? ⟨gb614, 0, none⟩ = some (u615000) := (blk_cell BK614.out 0).trans rfl
             have hcz54_1 : wr.cell? ⟨gb614, 1, none⟩ = some (u615001) := (blk_cell BK614.out 1).trans rfl
             have hfz54_0 := blk_frozen BK614.out 0
             have hfz54_1 := blk_frozen BK614.out 1
             obtain ⟨Ao55, co55, eo55⟩ := Kd.R_slice HO_615000.out
             subst eo55
             obtain ⟨Ao56, co56, eo56⟩ := Kd.R_slice HO_615001.out
             subst eo56
             have hnb57 := NB613_0.out
             have hnc57 := NB0_613.out
             have hcz58_0 : wr.cell? ⟨gb613, 0, none⟩ = some (.slice none 0 0) := (blk_cell BK613.out 0).trans rfl
             have hcz58_1 : wr.cell? ⟨gb613, 1, none⟩ = some (.slice none 0 0) := (blk_cell BK613.out 1).trans rfl
             have hfz58_0 := blk_frozen BK613.out 0
             have hfz58_1 := blk_frozen BK613.out 1
             go_wp2
             refine bodyPost_ret (results_cell_row rfl _ _ gb613 30 #[.slice Ao55 x615000_4.length co55, .slice Ao56 x615001_27.length co56] (0, 0) _ rfl (by (with_reducible repeat (first | refine blk_drewN ?_ _ | refine blk_drew ?_ | refine blk_alloc ?_ _)); refine blk_put (cs := #[.slice Ao55 x615000_4.length co55, .slice none 0 0]) ?_ 1 _ rfl; (with_reducible repeat (first | refine blk_drewN ?_ _ | refine blk_drew ?_ | refine blk_alloc ?_ _)); refine blk_put (cs := #[.slice none 0 0, .slice none 0 0]) ?_ 0 _ rfl; (with_reducible repeat (first | refine blk_drewN ?_ _ | refine blk_drew ?_ | refine blk_alloc ?_ _)); exact BK613.out) Try.underlying30 rfl (by kernel_rfl)) rfl ?_
             exact ⟨_, _, by first | rfl | (simp [errW_none, errW_some] <;> rfl) | (simp [*, errW_none, errW_some] <;> rfl), by (with_reducible repeat (first | apply Kd.R_alloc | apply Kd.R_drewN | apply Kd.R_drew)); exact Kd.R_mono (Kd.R_far (p := ⟨gb613, 1, none⟩) (Kd.R_far (p := ⟨gb613, 0, none⟩) (Kd.R_types HO_615000.out BK613.out (by decide)) h2__ (.slice Ao55 x615000_4.length co55)) h2__ (.slice Ao56 x615001_27.length co56)) (fun _ hk => hk.1), by (with_reducible repeat (first | apply Kd.R_alloc | apply Kd.R_drewN | apply Kd.R_drew)); exact Kd.R_mono (Kd.R_far (p := ⟨gb613, 1, none⟩) (Kd.R_far (p := ⟨gb613, 0, none⟩) (Kd.R_types HO_615001.out BK613.out (by decide)) h2__ (.slice Ao55 x615000_4.length co55)) h2__ (.slice Ao56 x615001_27.length co56)) (fun _ hk => hk.1), by repeat (first | (with_reducible first | exact HI0.out | apply IsS104.alloc | apply IsS104.drewN | apply IsS104.drew | apply IsS104.set_1 | refine IsS104.far ?_ NB0_613.out _ | refine IsS104.far ?_ NB0_614.out _) | exact HI0.out), by repeat (first | (with_reducible first | exact HB.out | apply below_alloc | apply pw_below_drewN | apply below_drew1 | refine below_set ?_ (IsS104.ge HI0.out) | refine below_set ?_ GE613.out | refine below_set ?_ GE614.out) | exact HB.out), by repeat (first | (with_reducible first | exact HK.out | apply KeepBut.set_ | apply keep_drewN | apply keep_drew | apply keep_alloc | refine keep_far ?_ GW613.out _ | refine keep_far ?_ GW614.out _) | exact HK.out)⟩
         ·rw [if_neg c39] at H
          have c39b0 : (t629 == 1) = false := beq_eq_false_iff_ne.mpr c39
          have c39b1 : (t629 != 1) = true := bne_iff_ne.mpr c39
          simp only [Option.some.injEq, Prod.mk.injEq] at H
          obtain ⟨rfl, rfl, rfl⟩ := H
          have hnb59 := NB614_613.out
          have hnc59 := NB613_614.out
          have hnb60 := NB614_0.out
          have hnc60 := NB0_614.out
          have hcz61_0 : wc.cell? ⟨gb614, 0, none⟩ = some (u615000) := (blk_cell BK614.out 0).trans rfl
          have hcz61_1 : wc.cell? ⟨gb614, 1, none⟩ = some (u615001) := (blk_cell BK614.out 1).trans rfl
          have hfz61_0 := blk_frozen BK614.out 0
          have hfz61_1 := blk_frozen BK614.out 1
          obtain ⟨Ao62, co62, eo62⟩ := Kd.R_slice HO_615000.out
          subst eo62
          have hnb63 := NB613_0.out
          have hnc63 := NB0_613.out
          have hcz64_0 : wc.cell? ⟨gb613, 0, none⟩ = some (.slice none 0 0) := (blk_cell BK613.out 0).trans rfl
          have hcz64_1 : wc.cell? ⟨gb613, 1, none⟩ = some (.slice none 0 0) := (blk_cell BK613.out 1).trans rfl
          have hfz64_0 := blk_frozen BK613.out 0
          have hfz64_1 := blk_frozen BK613.out 1
          obtain ⟨Ao65, co65, eo65⟩ := Kd.R_slice HO_615001.out
          subst eo65
          go_wp2
          refine bodyPost_ret (results_cell_row rfl _ _ gb613 30 #[.slice Ao62 x615000_1.length co62, .slice Ao65 x615001_27.length co65] (0, 0) _ rfl (by (with_reducible repeat (first | refine blk_drewN ?_ _ | refine blk_drew ?_ | refine blk_alloc ?_ _)); refine blk_put (cs := #[.slice Ao62 x615000_1.length co62, .slice none 0 0]) ?_ 1 _ rfl; (with_reducible repeat (first | refine blk_drewN ?_ _ | refine blk_drew ?_ | refine blk_alloc ?_ _)); refine blk_put (cs := #[.slice none 0 0, .slice none 0 0]) ?_ 0 _ rfl; (with_reducible repeat (first | refine blk_drewN ?_ _ | refine blk_drew ?_ | refine blk_alloc ?_ _)); exact BK613.out) Try.underlying30 rfl (by kernel_rfl)) rfl ?_
          exact ⟨_, _, by first | rfl | (simp [errW_none, errW_some] <;> rfl) | (simp [*, errW_none, errW_some] <;> rfl), by (with_reducible repeat (first | apply Kd.R_alloc | apply Kd.R_drewN | apply Kd.R_drew)); exact Kd.R_mono (Kd.R_far (p := ⟨gb613, 1, none⟩) (Kd.R_far (p := ⟨gb613, 0, none⟩) (Kd.R_types HO_615000.out BK613.out (by decide)) h2__ (.slice Ao62 x615000_1.length co62)) h2__ (.slice Ao65 x615001_27.length co65)) (fun _ hk => hk.1), by (with_reducible repeat (first | apply Kd.R_alloc | apply Kd.R_drewN | apply Kd.R_drew)); exact Kd.R_mono (Kd.R_far (p := ⟨gb613, 1, none⟩) (Kd.R_far (p := ⟨gb613, 0, none⟩) (Kd.R_types HO_615001.out BK613.out (by decide)) h2__ (.slice Ao62 x615000_1.length co62)) h2__ (.slice Ao65 x615001_27.length co65)) (fun _ hk => hk.1), by repeat (first | (with_reducible first | exact HI0.out | apply IsS104.alloc | apply IsS104.drewN | apply IsS104.drew | apply IsS104.set_1 | refine IsS104.far ?_ NB0_613.out _ | refine IsS104.far ?_ NB0_614.out _) | exact HI0.out), by repeat (first | (with_reducible first | exact HB.out | apply below_alloc | apply pw_below_drewN | apply below_drew1 | refine below_set ?_ (IsS104.ge HI0.out) | refine below_set ?_ GE613.out | refine below_set ?_ GE614.out) | exact HB.out), by repeat (first | (with_reducible first | exact HK.out | apply KeepBut.set_ | apply keep_drewN | apply keep_drew | apply keep_alloc | refine keep_far ?_ GW613.out _ | refine keep_far ?_ GW614.out _) | exact HK.out)⟩
end Go.Proofs.Ytpnblgbkjbpeoaa.P

namespace Go.Proofs.Ytpnblgbkjbpeoaa.P
open Go.RowKit Go.Proofs.YtpnblgbkjbpeoaaW.PrintWords Go.Proofs.YtpnblgbkjbpeoaaW.PrintLast Go.Proofs.YtpnblgbkjbpeoaaW.PrintMore
attribute [local go_sem] max2_int min2_int max_two min_two max_three min_three max_four min_four   -- for this text's walks alone
set_option linter.unusedVariables false
set_option linter.unusedSimpArgs false
/-! ### spec_DrawAppend: function 39 -/
def spec_DrawAppend.f (k : Nat) (l0 : List Int) : Option (List ByteArray × List ByteArray × ByteArray) := (spec_l1Open.f l0).bind fun bt643 => ((spec_l2Draw.f k bt643.1 bt643.2).bind fun bt646 => ((spec_l1Rd_pick.f k bt643.1 bt646.2.2 10).bind fun bt654 => (if bt654.1 = 0 then ((spec_l1Rd_pick.f k bt643.1 bt654.2 2).bind fun bt656 => ((spec_l1Many.f k (⟨#[101]⟩ : ByteArray) (wrap64 (5000 + bt656.1))).bind fun t658 => (some (bt646.1, bt646.2.1, t658)))) else ((spec_l1Text.f k bt643.1 bt654.2).bind fun bt659 => (some (bt646.1, bt646.2.1, bt659.1))))))
set_option maxHeartbeats 8000000 in
set_option maxRecDepth 100000 in
theorem spec_DrawAppend.calls (k : Nat) (A0 : Option Addr) (c0 : Nat) (l0 : List Int) (r1 : List ByteArray) (r2 : List ByteArray) (r3 : ByteArray) (w : World) (hr0 : Kd.C (Kd.int .u8) w A0 l0.length l0) (hc0 : l0.length ≤ c0) (h : spec_DrawAppend.f k l0 = some (r1, r2, r3)) :
  Calls Try.prog 39 #[.slice A0 l0.length c0] w fun e w' => ∃ v0_ v1_ : Value, e = .returned (.tuple #[.agg #[v0_, v1_], .string r3]) ∧ Kd.R Kd.string 9 w' w.heap.size (fun k_ => some k_ ≠ (v1_ : Value).ownBlock) v0_ r1 ∧ Kd.R Kd.string 9 w' w.heap.size (fun k_ => some k_ ≠ (v0_ : Value).ownBlock) v1_ r2 ∧ Below w.heap.size w w' := by
 have hu30 := Try.underlying30
 have HR0 := Aside0.mk hr0
 have HC0 := Aside0.mk hc0
 clear hr0 hc0
 have HB := Aside0.mk (Below.refl w.heap.size w)
 have H : ((spec_l1Open.f l0).bind fun bt643 => ((spec_l2Draw.f k bt643.1 bt643.2).bind fun bt646 => ((spec_l1Rd_pick.f k bt643.1 bt646.2.2 10).bind fun bt654 => (if bt654.1 = 0 then ((spec_l1Rd_pick.f k bt643.1 bt654.2 2).bind fun bt656 => ((spec_l1Many.f k (⟨#[101]⟩ : ByteArray) (wrap64 (5000 + bt656.1))).bind fun t658 => (some (bt646.1, bt646.2.1, t658)))) else ((spec_l1Text.f k bt643.1 bt654.2).bind fun bt659 => (some (bt646.1, bt646.2.1, bt659.1))))))) = some (r1, r2, r3) := h
 clear h
 replace H := Option.bind_eq_some_iff.mp H
 obtain ⟨⟨t643, t644⟩, A20, H⟩ := H
 replace H : ((spec_l2Draw.f k t643 t644).bind fun bt646 => ((spec_l1Rd_pick.f k t643 bt646.2.2 10).bind fun bt654 => (if bt654.1 = 0 then ((spec_l1Rd_pick.f k t643 bt654.2 2).bind fun bt656 => ((spec_l1Many.f k (⟨#[101]⟩ : ByteArray) (wrap64 (5000 + bt656.1))).bind fun t658 => (some (bt646.1, bt646.2.1, t658)))) else ((spec_l1Text.f k t643 bt654.2).bind fun bt659 => (some (bt646.1, bt646.2.1, bt659.1)))))) = some (r1, r2, r3) := H
 have A2 := Aside0.mk A20
 clear A20
 replace H := Option.bind_eq_some_iff.mp H
 obtain ⟨⟨t646, t649, t652⟩, A30, H⟩ := H
 replace H : ((spec_l1Rd_pick.f k t643 t652 10).bind fun bt654 => (if bt654.1 = 0 then ((spec_l1Rd_pick.f k t643 bt654.2 2).bind fun bt656 => ((spec_l1Many.f k (⟨#[101]⟩ : ByteArray) (wrap64 (5000 + bt656.1))).bind fun t658 => (some (t646, t649, t658)))) else ((spec_l1Text.f k t643 bt654.2).bind fun bt659 => (some (t646, t649, bt659.1))))) = some (r1, r2, r3) := H
 have A3 := Aside0.mk A30
 clear A30
 replace H := Option.bind_eq_some_iff.mp H
 obtain ⟨⟨t654, t655⟩, A40, H⟩ := H
 replace H : (if t654 = 0 then ((spec_l1Rd_pick.f k t643 t655 2).bind fun bt656 => ((spec_l1Many.f k (⟨#[101]⟩ : ByteArray) (wrap64 (5000 + bt656.1))).bind fun t658 => (some (t646, t649, t658)))) else ((spec_l1Text.f k t643 t655).bind fun bt659 => (some (t646, t649, bt659.1)))) = some (r1, r2, r3) := H
 have A4 := Aside0.mk A40
 clear A40
 by_cases c5 : t654 = 0
 ·rw [if_pos c5] at H
  have c5b0 : (t654 == 0) = true := beq_iff_eq.mpr c5
  have c5b1 : (t654 != 0) = false := bne_eq_false_iff_eq.mpr c5
  clear c5
  replace H := Option.bind_eq_some_iff.mp H
  obtain ⟨⟨t656, t657⟩, A60, H⟩ := H
  replace H : ((spec_l1Many.f k (⟨#[101]⟩ : ByteArray) (wrap64 (5000 + t656))).bind fun t658 => (some (t646, t649, t658))) = some (r1, r2, r3) := H
  have A6 := Aside0.mk A60
  clear A60
  replace H := Option.bind_eq_some_iff.mp H
  obtain ⟨t658, A70, H⟩ := H
  replace H : (some (t646, t649, t658)) = some (r1, r2, r3) := H
  have A7 := Aside0.mk A70
  clear A70
  simp only [Option.some.injEq, Prod.mk.injEq] at H
  obtain ⟨rfl, rfl, rfl⟩ := H
  go_enter Try.func39, Try.ntmps39
  try go_wp2_with (first | ((with_reducible refine gate_dst (N := 2) rfl ?_); refine box_event ?hg (N := 2) ?hd (cs := #[.slice none 0 0, .slice none 0 0]) (t := 30) ?hr ?_; (case hd => rfl); (case hg => rfl); (case hr => first | (go_simp; done) | (go_simp; rfl)); intro gb642 hg w8 hbox hb; have n0_ := Aside0.mk (below_step (bel__) hb); have n1_ := Aside0.mk (hbox); have n2_ := Aside0.mk ((by rw [hg]; exact (below_size (bel__)) : w.heap.size ≤ gb642)); have n3_ := Aside0.mk ((by rw [hg]; exact (below_size (bel__)) : w.heap.size ≤ gb642)); clear HB; have HB := n0_; have BK642 := n1_; have GW642 := n2_; have GE642 := n3_; clear n0_ n1_ n2_ n3_; clear hb hbox hg) | ((with_reducible refine gate_callee (f := 69) rfl ?_); refine goesL_ (some 7) rfl rfl Try.func69 (by kernel_rfl) rfl #[.slice A0 l0.length c0] rfl (ar__) ?_; (with_reducible refine (spec_l1Open.calls _ _ l0 t643 t644 w _ ?side1 ?side2 ?side3 A2.out).mono ?_); (case side1 => repeat (first | (with_reducible first | exact HB.out | apply below_alloc | apply pw_below_drewN | apply below_drew1 | refine below_set ?_ GE642.out) | exact HB.out)); (case side2 => exact HR0.out); (case side3 => exact HC0.out); rintro e w9 ⟨g645, rfl, hi, hb, hb2⟩; refine ⟨_, rfl, ?_⟩; have n0_ := Aside0.mk (blb__ BK642.out hb2); have n1_ := Aside0.mk (hb); have n2_ := Aside0.mk (hi); have n3_ := Aside0.mk (IsS104.ne_blk hi (blb__ BK642.out hb2) (by decide)); have n4_ := Aside0.mk (Ne.symm (IsS104.ne_blk hi (blb__ BK642.out hb2) (by decide))); clear BK642; clear HB; have BK642 := n0_; have HB := n1_; have HI645 := n2_; have NB645_642 := n3_; have NB642_645 := n4_; clear n0_ n1_ n2_ n3_ n4_; (try clear hb); (try clear hb2); (try clear hk); (try clear hi)) | ((with_reducible refine gate_callee (f := 70) rfl ?_); refine goesL_ (some 9) rfl rfl Try.func70 (by kernel_rfl) rfl #[.pointer (some ⟨g645, 0, none⟩)] rfl (ar__) ?_; (with_reducible refine (spec_l2Draw.calls k g645 t643 t644 t646 t649 t652 w _ ?side1 ?side2 A3.out).mono ?_); (case side1 => repeat (first | (with_reducible first | exact HI645.out | apply IsS104.alloc | apply IsS104.drewN | apply IsS104.drew | apply IsS104.set_1 | refine IsS104.far ?_ NB645_642.out _) | exact HI645.out)); (case side2 => repeat (first | (with_reducible first | exact HB.out | apply below_alloc | apply pw_below_drewN | apply below_drew1 | refine below_set ?_ (IsS104.ge HI645.out) | refine below_set ?_ GE642.out) | exact HB.out)); rintro e w10 ⟨v647, v650, rfl, ho0, ho1, hi, hb, hk⟩; refine ⟨_, rfl, ?_⟩; have n0_ := Aside0.mk (KeepBut.blk hk (g' := gb642) (o := .cells #[.slice none 0 0, .slice none 0 0] 30 (0, 0)) (blk__ BK642.out) NB642_645.out (by simp)); have n1_ := Aside0.mk (Kd.R_lower ho0 (below_size (by repeat (first | (with_reducible first | exact HB.out | apply below_alloc | apply pw_below_drewN | apply below_drew1 | refine below_set ?_ (IsS104.ge HI645.out) | refine below_set ?_ GE642.out) | exact HB.out)))); have n2_ := Aside0.mk (Kd.R_lower ho1 (below_size (by repeat (first | (with_reducible first | exact HB.out | apply below_alloc | apply pw_below_drewN | apply below_drew1 | refine below_set ?_ (IsS104.ge HI645.out) | refine below_set ?_ GE642.out) | exact HB.out)))); have n3_ := Aside0.mk (hb); have n4_ := Aside0.mk (hi); clear BK642; clear HB; clear HI645; have BK642 := n0_; have HO648 := n1_; have HO651 := n2_; have HB := n3_; have HI645 := n4_; clear n0_ n1_ n2_ n3_ n4_; (try clear hb); (try clear hb2); (try clear hk); (try clear hi); (try clear ho0); (try clear ho1)) | ((with_reducible refine gate_dst (N := 5) rfl ?_); refine box_event ?hg (N := 5) ?hd (cs := #[.slice none 0 0, .slice none 0 0]) (t := 30) ?hr ?_; (case hd => rfl); (case hg => rfl); (case hr => first | (go_simp; done) | (go_simp; rfl)); intro gb653 hg w11 hbox hb; have n0_ := Aside0.mk (Kd.R_below (rr__ HO648.out) hb); have n1_ := Aside0.mk (Kd.R_below (rr__ HO651.out) hb); have n2_ := Aside0.mk (blb__ BK642.out hb); have n3_ := Aside0.mk (IsS104.below (by repeat (first | (with_reducible first | exact HI645.out | apply IsS104.alloc | apply IsS104.drewN | apply IsS104.drew | apply IsS104.set_1 | refine IsS104.far ?_ NB645_642.out _) | exact HI645.out)) hb); have n4_ := Aside0.mk (below_step (by repeat (first | (with_reducible first | exact HB.out | apply below_alloc | apply pw_below_drewN | apply below_drew1 | refine below_set ?_ (IsS104.ge HI645.out) | refine below_set ?_ GE642.out) | exact HB.out)) hb); have n5_ := Aside0.mk (hbox); have n6_ := Aside0.mk ((by rw [hg]; exact (below_size (by repeat (first | (with_reducible first | exact HB.out | apply below_alloc | apply pw_below_drewN | apply below_drew1 | refine below_set ?_ (IsS104.ge HI645.out) | refine below_set ?_ GE642.out) | exact HB.out))) : w.heap.size ≤ gb653)); have n7_ := Aside0.mk ((by rw [hg]; exact (below_size (by repeat (first | (with_reducible first | exact HB.out | apply below_alloc | apply pw_below_drewN | apply below_drew1 | refine below_set ?_ (IsS104.ge HI645.out) | refine below_set ?_ GE642.out) | exact HB.out))) : w.heap.size ≤ gb653)); have n8_ := Aside0.mk ((nl__ hg BK642.out : gb642 ≠ gb653)); have n9_ := Aside0.mk ((ng__ hg BK642.out : gb653 ≠ gb642)); have n10_ := Aside0.mk ((by rw [hg]; exact Nat.ne_of_lt (IsS104.lt (show IsS104 w _ g645 t643 t652 from by repeat (first | (with_reducible first | exact HI645.out | apply IsS104.alloc | apply IsS104.drewN | apply IsS104.drew | apply IsS104.set_1 | refine IsS104.far ?_ NB645_642.out _) | exact HI645.out))) : g645 ≠ gb653)); have n11_ := Aside0.mk ((by rw [hg]; exact Nat.ne_of_gt (IsS104.lt (show IsS104 w _ g645 t643 t652 from by repeat (first | (with_reducible first | exact HI645.out | apply IsS104.alloc | apply IsS104.drewN | apply IsS104.drew | apply IsS104.set_1 | refine IsS104.far ?_ NB645_642.out _) | exact HI645.out))) : gb653 ≠ g645)); clear HO648; clear HO651; clear BK642; clear HI645; clear HB; have HO648 := n0_; have HO651 := n1_; have BK642 := n2_; have HI645 := n3_; have HB := n4_; have BK653 := n5_; have GW653 := n6_; have GE653 := n7_; have NB642_653 := n8_; have NB653_642 := n9_; have NB645_653 := n10_; have NB653_645 := n11_; clear n0_ n1_ n2_ n3_ n4_ n5_ n6_ n7_ n8_ n9_ n10_ n11_; clear hb hbox hg; obtain ⟨Ao12, co12, eo12⟩ := Kd.R_slice HO648.out; subst eo12; have hnb13 := NB653_642.out; have hnc13 := NB642_653.out; have hnb14 := NB653_645.out; have hnc14 := NB645_653.out; have hcz15_0 : w11.cell? ⟨gb653, 0, none⟩ = some (.slice none 0 0) := (blk_cell BK653.out 0).trans rfl; have hcz15_1 : w11.cell? ⟨gb653, 1, none⟩ = some (.slice none 0 0) := (blk_cell BK653.out 1).trans rfl; have hfz15_0 := blk_frozen BK653.out 0; have hfz15_1 := blk_frozen BK653.out 1; obtain ⟨Ao16, co16, eo16⟩ := Kd.R_slice HO651.out; subst eo16) | ((with_reducible refine gate_callee (f := 71) rfl ?_); refine goesL_ (some 11) rfl rfl Try.func71 (by kernel_rfl) rfl #[.pointer (some ⟨g645, 0, none⟩), .int .i64 10] rfl (ar__) ?_; (with_reducible refine (spec_l1Rd_pick.calls k g645 t643 t652 10 t654 t655 w _ ?side1 ?side2 A4.out).mono ?_); (case side1 => repeat (first | (with_reducible first | exact HI645.out | apply IsS104.alloc | apply IsS104.drewN | apply IsS104.drew | apply IsS104.set_1 | refine IsS104.far ?_ NB645_642.out _ | refine IsS104.far ?_ NB645_653.out _) | exact HI645.out)); (case side2 => repeat (first | (with_reducible first | exact HB.out | apply below_alloc | apply pw_below_drewN | apply below_drew1 | refine below_set ?_ (IsS104.ge HI645.out) | refine below_set ?_ GE642.out | refine below_set ?_ GE653.out) | exact HB.out)); rintro e w17 ⟨rfl, hi, hb, hk⟩; refine ⟨_, rfl, ?_⟩; have n0_ := Aside0.mk (KeepBut.blk hk (g' := gb642) (o := .cells #[.slice none 0 0, .slice none 0 0] 30 (0, 0)) (by (with_reducible repeat (first | refine blk_drewN ?_ _ | refine blk_drew ?_ | refine blk_alloc ?_ _)); refine blk_far ?_ NB642_653.out _; (with_reducible repeat (first | refine blk_drewN ?_ _ | refine blk_drew ?_ | refine blk_alloc ?_ _)); refine blk_far ?_ NB642_653.out _; (with_reducible repeat (first | refine blk_drewN ?_ _ | refine blk_drew ?_ | refine blk_alloc ?_ _)); exact BK642.out) NB642_645.out (by simp)); have n1_ := Aside0.mk (Kd.R_mono (Kd.R_keep (IsS104.apart (show IsS104 w _ g645 t643 t652 from by repeat (first | (with_reducible first | exact HI645.out | apply IsS104.alloc | apply IsS104.drewN | apply IsS104.drew | apply IsS104.set_1 | refine IsS104.far ?_ NB645_642.out _ | refine IsS104.far ?_ NB645_653.out _) | exact HI645.out)) (by (with_reducible repeat (first | apply Kd.R_alloc | apply Kd.R_drewN | apply Kd.R_drew)); exact (Kd.R_mono (Kd.R_far (p := ⟨gb653, 1, none⟩) (Kd.R_far (p := ⟨gb653, 0, none⟩) (Kd.R_types HO648.out BK653.out (by decide)) h2__ (.slice Ao12 t646.length co12)) h2__ (.slice Ao16 t649.length co16)) h1__)) (by decide)) hk (fun _ h => h.2)) (fun _ h => h.1)); have n2_ := Aside0.mk (Kd.R_mono (Kd.R_keep (IsS104.apart (show IsS104 w _ g645 t643 t652 from by repeat (first | (with_reducible first | exact HI645.out | apply IsS104.alloc | apply IsS104.drewN | apply IsS104.drew | apply IsS104.set_1 | refine IsS104.far ?_ NB645_642.out _ | refine IsS104.far ?_ NB645_653.out _) | exact HI645.out)) (by (with_reducible repeat (first | apply Kd.R_alloc | apply Kd.R_drewN | apply Kd.R_drew)); exact (Kd.R_mono (Kd.R_far (p := ⟨gb653, 1, none⟩) (Kd.R_far (p := ⟨gb653, 0, none⟩) (Kd.R_types HO651.out BK653.out (by decide)) h2__ (.slice Ao12 t646.length co12)) h2__ (.slice Ao16 t649.length co16)) h1__)) (by decide)) hk (fun _ h => h.2)) (fun _ h => h.1)); have n3_ := Aside0.mk (KeepBut.blk hk (g' := gb653) (o := .cells #[.slice Ao12 t646.length co12, .slice Ao16 t649.length co16] 30 (0, 0)) (by (with_reducible repeat (first | refine blk_drewN ?_ _ | refine blk_drew ?_ | refine blk_alloc ?_ _)); refine blk_put (cs := #[.slice Ao12 t646.length co12, .slice none 0 0]) ?_ 1 _ rfl; (with_reducible repeat (first | refine blk_drewN ?_ _ | refine blk_drew ?_ | refine blk_alloc ?_ _)); refine blk_put (cs := #[.slice none 0 0, .slice none 0 0]) ?_ 0 _ rfl; (with_reducible repeat (first | refine blk_drewN ?_ _ | refine blk_drew ?_ | refine blk_alloc ?_ _)); exact BK653.out) NB653_645.out (by simp)); have n4_ := Aside0.mk (hb); have n5_ := Aside0.mk (hi); clear BK642; clear HO648; clear HO651; clear BK653; clear HB; clear HI645; have BK642 := n0_; have HO648 := n1_; have HO651 := n2_; have BK653 := n3_; have HB := n4_; have HI645 := n5_; clear n0_ n1_ n2_ n3_ n4_ n5_; (try clear hb); (try clear hb2); (try clear hk); (try clear hi)))
  have n0_ := Aside0.mk (Kd.R_drew HO648.out)
  have n1_ := Aside0.mk (Kd.R_drew HO651.out)
  have n2_ := Aside0.mk (blk_drew BK642.out)
  have n3_ := Aside0.mk (blk_drew BK653.out)
  have n4_ := Aside0.mk (IsS104.drew HI645.out)
  have n5_ := Aside0.mk (below_drew1 HB.out)
  clear HO648
  clear HO651
  clear BK642
  clear BK653
  clear HI645
  clear HB
  have HO648 := n0_
  have HO651 := n1_
  have BK642 := n2_
  have BK653 := n3_
  have HI645 := n4_
  have HB := n5_
  clear n0_ n1_ n2_ n3_ n4_ n5_
  refine start_ (n := 7) (S := fun w' => w'.cell? ⟨gb653, 0, none⟩ = some (.slice Ao12 t646.length co12) ∧ w'.cell? ⟨gb653, 1, none⟩ = some (.slice Ao16 t649.length co16)) (ds := []) #[false, false, false, false, false, false, false] (by kernel_rfl) rfl rfl ⟨(blk_cell BK653.out 0).trans rfl, (blk_cell BK653.out 1).trans rfl⟩ (fun hHeld => ?_)
  generalize w17.drew = w18 at HO648 HO651 BK642 BK653 HI645 HB hHeld ⊢
  refine pure_ (i := 1) (N := some 14) (v := ?_) (a' := ?_) #[false, true, false, false, false, false, false] rfl rfl (by kernel_rfl) (fun _ _ _ h => h) (Or.inl ⟨by rfl, ?_⟩) ?_ ?_
  rotate_left
  ·intro w'
   go_simp
   with_reducible rfl
  rotate_left
  ·simp only [Act.put, List.setIfInBounds_toArray, List.set_cons_zero, List.set_cons_succ, i64_w, i32_w]
   rfl
  refine take_ (i := 0) (N := some 13) (v := ?_) (a' := ?_) #[true, true, false, false, false, false, false] rfl rfl (by kernel_rfl) (fun _ _ _ h => h) (Or.inl ⟨by rfl, ?_⟩) hHeld ?_ ?_
  rotate_left
  ·rintro w' ⟨s0, s1⟩
   go_simp
   with_reducible rfl
  rotate_left
  ·simp only [Act.put, List.setIfInBounds_toArray, List.set_cons_zero, List.set_cons_succ, i64_w, i32_w]
   rfl
  refine one_ (i := 2) (N := some 15) #[true, true, true, false, false, false, false] rfl rfl (by kernel_rfl) (by decide) (fun K hK => ?_)
  refine goes_ Try.func71 (by kernel_rfl) rfl #[.pointer (some ⟨g645, 0, none⟩), .int .i64 2] (by rfl) rfl rfl (ar__) ?_
  with_reducible refine (spec_l1Rd_pick.calls k g645 t643 t655 2 t656 t657 w _ ?side1 ?side2 A6.out).mono ?_
  (case side1 => repeat (first | (with_reducible first | exact HI645.out | apply IsS104.alloc | apply IsS104.drewN | apply IsS104.drew | apply IsS104.set_1 | refine IsS104.far ?_ NB645_642.out _ | refine IsS104.far ?_ NB645_653.out _) | exact HI645.out))
  (case side2 => repeat (first | (with_reducible first | exact HB.out | apply below_alloc | apply pw_below_drewN | apply below_drew1 | refine below_set ?_ (IsS104.ge HI645.out) | refine below_set ?_ GE642.out | refine below_set ?_ GE653.out) | exact HB.out))
  rintro e w19 ⟨rfl, hi, hb, hk⟩
  refine ⟨_, rfl, ?_⟩
  have n0_ := Aside0.mk (KeepBut.blk hk (g' := gb642) (o := .cells #[.slice none 0 0, .slice none 0 0] 30 (0, 0)) (blk__ BK642.out) NB642_645.out (by simp))
  have n1_ := Aside0.mk (Kd.R_mono (Kd.R_keep (IsS104.apart (show IsS104 w _ g645 t643 t655 from by repeat (first | (with_reducible first | exact HI645.out | apply IsS104.alloc | apply IsS104.drewN | apply IsS104.drew | apply IsS104.set_1 | refine IsS104.far ?_ NB645_642.out _ | refine IsS104.far ?_ NB645_653.out _) | exact HI645.out)) (rr__ HO648.out) (by decide)) hk (fun _ h => h.2)) (fun _ h => h.1))
  have n2_ := Aside0.mk (Kd.R_mono (Kd.R_keep (IsS104.apart (show IsS104 w _ g645 t643 t655 from by repeat (first | (with_reducible first | exact HI645.out | apply IsS104.alloc | apply IsS104.drewN | apply IsS104.drew | apply IsS104.set_1 | refine IsS104.far ?_ NB645_642.out _ | refine IsS104.far ?_ NB645_653.out _) | exact HI645.out)) (rr__ HO651.out) (by decide)) hk (fun _ h => h.2)) (fun _ h => h.1))
  have n3_ := Aside0.mk (KeepBut.blk hk (g' := gb653) (o := .cells #[.slice Ao12 t646.length co12, .slice Ao16 t649.length co16] 30 (0, 0)) (blk__ BK653.out) NB653_645.out (by simp))
  have n4_ := Aside0.mk (hb)
  have n5_ := Aside0.mk (hi)
  clear BK642
  clear HO648
  clear HO651
  clear BK653
  clear HB
  clear HI645
  have BK642 := n0_
  have HO648 := n1_
  have HO651 := n2_
  have BK653 := n3_
  have HB := n4_
  have HI645 := n5_
  clear n0_ n1_ n2_ n3_ n4_ n5_
  (try clear hb)
  (try clear hb2)
  (try clear hk)
  (try clear hi)
  refine hK.out _ _ ⟨(blk_cell BK653.out 0).trans rfl, (blk_cell BK653.out 1).trans rfl⟩ (fun hHeld => ?_)
  clear hK K
  refine na__ 15 ?_
  refine pure_ (i := 3) (N := some 16) (v := ?_) (a' := ?_) #[true, true, true, true, false, false, false] rfl rfl (by kernel_rfl) (fun _ _ _ h => h) (Or.inl ⟨by rfl, ?_⟩) ?_ ?_
  rotate_left
  ·intro w'
   go_simp
   with_reducible rfl
  rotate_left
  ·simp only [Act.put, List.setIfInBounds_toArray, List.set_cons_zero, List.set_cons_succ, i64_w, i32_w]
   rfl
  refine one_ (i := 4) (N := some 17) #[true, true, true, true, true, false, false] rfl rfl (by kernel_rfl) (by decide) (fun K hK => ?_)
  refine goes_ Try.func72 (by kernel_rfl) rfl #[.string (⟨#[101]⟩ : ByteArray), .int .i64 (wrap64 (5000 + t656))] (by rfl) rfl rfl (ar__) ?_
  with_reducible refine (spec_l1Many.calls k (⟨#[101]⟩ : ByteArray) (wrap64 (5000 + t656)) t658 _ A7.out).mono ?_
  rintro e w' ⟨rfl, ⟨nd, rfl⟩⟩
  refine ⟨_, rfl, ?_⟩
  refine hK.out _ _ ⟨(blk_cell BK653.out 0).trans rfl, (blk_cell BK653.out 1).trans rfl⟩ (fun hHeld => ?_)
  clear hK K
  refine na__ 17 ?_
  refine one_ (i := 5) (N := none) #[true, true, true, true, true, true, false] rfl rfl (by kernel_rfl) (by decide) (fun K hK => ?_)
  have hs20 : w19.cell? ⟨gb642, 0, none⟩ = some (.slice none 0 0) := (blk_cell BK642.out 0).trans rfl
  have hfs20 := blk_frozen BK642.out 0
  have hns20_1 := NB653_642.out
  have hms20_1 := NB642_653.out
  have hs21 : w19.cell? ⟨gb642, 1, none⟩ = some (.slice none 0 0) := (blk_cell BK642.out 1).trans rfl
  have hfs21 := blk_frozen BK642.out 1
  have hns21_1 := NB653_642.out
  have hms21_1 := NB642_653.out
  refine skip_ (w1 := ?_) (by rfl) rfl ?_ ?_
  rotate_left
  ·go_simp
   rfl
  refine hK.out _ _ ⟨((cell_far (p := ⟨gb642, _, none⟩) NB653_642.out _).trans (((cell_far (p := ⟨gb642, _, none⟩) NB653_642.out _).trans (hHeld.1)))), ((cell_far (p := ⟨gb642, _, none⟩) NB653_642.out _).trans (((cell_far (p := ⟨gb642, _, none⟩) NB653_642.out _).trans (hHeld.2))))⟩ (fun hHeld => ?_)
  clear hK K
  refine pure_ (i := 6) (N := some 3) (v := ?_) (a' := ?_) #[true, true, true, true, true, true, true] rfl rfl (by kernel_rfl) (fun _ _ _ h => h) (Or.inl ⟨by rfl, ?_⟩) ?_ ?_
  rotate_left
  ·intro w'
   go_simp
   with_reducible rfl
  rotate_left
  ·simp only [Act.put, List.setIfInBounds_toArray, List.set_cons_zero, List.set_cons_succ, i64_w, i32_w]
   rfl
  refine done_ (by kernel_rfl) ?_
  try go_wp2
  refine bodyPost_ret (results_ct rfl _ _ gb642 30 #[.slice Ao12 t646.length co12, .slice Ao16 t649.length co16] (0, 0) _ rfl (by (with_reducible repeat (first | refine blk_drewN ?_ _ | refine blk_drew ?_ | refine blk_alloc ?_ _)); refine blk_put (cs := #[.slice Ao12 t646.length co12, .slice none 0 0]) ?_ 1 _ rfl; (with_reducible repeat (first | refine blk_drewN ?_ _ | refine blk_drew ?_ | refine blk_alloc ?_ _)); refine blk_put (cs := #[.slice none 0 0, .slice none 0 0]) ?_ 0 _ rfl; (with_reducible repeat (first | refine blk_drewN ?_ _ | refine blk_drew ?_ | refine blk_alloc ?_ _)); exact BK642.out) Try.underlying30 rfl (by kernel_rfl)) rfl ?_
  exact ⟨_, _, by first | rfl | (simp [errW_none, errW_some] <;> rfl) | (simp [*, errW_none, errW_some] <;> rfl), by (with_reducible repeat (first | apply Kd.R_alloc | apply Kd.R_drewN | apply Kd.R_drew)); exact Kd.R_mono (Kd.R_far (p := ⟨gb642, 1, none⟩) (Kd.R_far (p := ⟨gb642, 0, none⟩) (Kd.R_types HO648.out BK642.out (by decide)) h2__ (.slice Ao12 t646.length co12)) h2__ (.slice Ao16 t649.length co16)) (fun _ hk => hk.1), by (with_reducible repeat (first | apply Kd.R_alloc | apply Kd.R_drewN | apply Kd.R_drew)); exact Kd.R_mono (Kd.R_far (p := ⟨gb642, 1, none⟩) (Kd.R_far (p := ⟨gb642, 0, none⟩) (Kd.R_types HO651.out BK642.out (by decide)) h2__ (.slice Ao12 t646.length co12)) h2__ (.slice Ao16 t649.length co16)) (fun _ hk => hk.1), by repeat (first | (with_reducible first | exact HB.out | apply below_alloc | apply pw_below_drewN | apply below_drew1 | refine below_set ?_ (IsS104.ge HI645.out) | refine below_set ?_ GE642.out | refine below_set ?_ GE653.out) | exact HB.out)⟩
 ·rw [if_neg c5] at H
  have c5b0 : (t654 == 0) = false := beq_eq_false_iff_ne.mpr c5
  have c5b1 : (t654 != 0) = true := bne_iff_ne.mpr c5
  replace H := Option.bind_eq_some_iff.mp H
  obtain ⟨⟨t659, t660⟩, A220, H⟩ := H
  replace H : (some (t646, t649, t659)) = some (r1, r2, r3) := H
  have A22 := Aside0.mk A220
  clear A220
  simp only [Option.some.injEq, Prod.mk.injEq] at H
  obtain ⟨rfl, rfl, rfl⟩ := H
  go_enter Try.func39, Try.ntmps39
  try go_wp2_with (first | ((with_reducible refine gate_dst (N := 2) rfl ?_); refine box_event ?hg (N := 2) ?hd (cs := #[.slice none 0 0, .slice none 0 0]) (t := 30) ?hr ?_; (case hd => rfl); (case hg => rfl); (case hr => first | (go_simp; done) | (go_simp; rfl)); intro gb642 hg w23 hbox hb; have n0_ := Aside0.mk (below_step (bel__) hb); have n1_ := Aside0.mk (hbox); have n2_ := Aside0.mk ((by rw [hg]; exact (below_size (bel__)) : w.heap.size ≤ gb642)); have n3_ := Aside0.mk ((by rw [hg]; exact (below_size (bel__)) : w.heap.size ≤ gb642)); clear HB; have HB := n0_; have BK642 := n1_; have GW642 := n2_; have GE642 := n3_; clear n0_ n1_ n2_ n3_; clear hb hbox hg) | ((with_reducible refine gate_callee (f := 69) rfl ?_); refine goesL_ (some 7) rfl rfl Try.func69 (by kernel_rfl) rfl #[.slice A0 l0.length c0] rfl (ar__) ?_; (with_reducible refine (spec_l1Open.calls _ _ l0 t643 t644 w _ ?side1 ?side2 ?side3 A2.out).mono ?_); (case side1 => repeat (first | (with_reducible first | exact HB.out | apply below_alloc | apply pw_below_drewN | apply below_drew1 | refine below_set ?_ GE642.out) | exact HB.out)); (case side2 => exact HR0.out); (case side3 => exact HC0.out); rintro e w24 ⟨g645, rfl, hi, hb, hb2⟩; refine ⟨_, rfl, ?_⟩; have n0_ := Aside0.mk (blb__ BK642.out hb2); have n1_ := Aside0.mk (hb); have n2_ := Aside0.mk (hi); have n3_ := Aside0.mk (IsS104.ne_blk hi (blb__ BK642.out hb2) (by decide)); have n4_ := Aside0.mk (Ne.symm (IsS104.ne_blk hi (blb__ BK642.out hb2) (by decide))); clear BK642; clear HB; have BK642 := n0_; have HB := n1_; have HI645 := n2_; have NB645_642 := n3_; have NB642_645 := n4_; clear n0_ n1_ n2_ n3_ n4_; (try clear hb); (try clear hb2); (try clear hk); (try clear hi)) | ((with_reducible refine gate_callee (f := 70) rfl ?_); refine goesL_ (some 9) rfl rfl Try.func70 (by kernel_rfl) rfl #[.pointer (some ⟨g645, 0, none⟩)] rfl (ar__) ?_; (with_reducible refine (spec_l2Draw.calls k g645 t643 t644 t646 t649 t652 w _ ?side1 ?side2 A3.out).mono ?_); (case side1 => repeat (first | (with_reducible first | exact HI645.out | apply IsS104.alloc | apply IsS104.drewN | apply IsS104.drew | apply IsS104.set_1 | refine IsS104.far ?_ NB645_642.out _) | exact HI645.out)); (case side2 => repeat (first | (with_reducible first | exact HB.out | apply below_alloc | apply pw_below_drewN | apply below_drew1 | refine below_set ?_ (IsS104.ge HI645.out) | refine below_set ?_ GE642.out) | exact HB.out)); rintro e w25 ⟨v647, v650, rfl, ho0, ho1, hi, hb, hk⟩; refine ⟨_, rfl, ?_⟩; have n0_ := Aside0.mk (KeepBut.blk hk (g' := gb642) (o := .cells #[.slice none 0 0, .slice none 0 0] 30 (0, 0)) (blk__ BK642.out) NB642_645.out (by simp)); have n1_ := Aside0.mk (Kd.R_lower ho0 (below_size (by repeat (first | (with_reducible first | exact HB.out | apply below_alloc | apply pw_below_drewN | apply below_drew1 | refine below_set ?_ (IsS104.ge HI645.out) | refine below_set ?_ GE642.out) | exact HB.out)))); have n2_ := Aside0.mk (Kd.R_lower ho1 (below_size (by repeat (first | (with_reducible first | exact HB.out | apply below_alloc | apply pw_below_drewN | apply below_drew1 | refine below_set ?_ (IsS104.ge HI645.out) | refine below_set ?_ GE642.out) | exact HB.out)))); have n3_ := Aside0.mk (hb); have n4_ := Aside0.mk (hi); clear BK642; clear HB; clear HI645; have BK642 := n0_; have HO648 := n1_; have HO651 := n2_; have HB := n3_; have HI645 := n4_; clear n0_ n1_ n2_ n3_ n4_; (try clear hb); (try clear hb2); (try clear hk); (try clear hi); (try clear ho0); (try clear ho1)) | ((with_reducible refine gate_dst (N := 5) rfl ?_); refine box_event ?hg (N := 5) ?hd (cs := #[.slice none 0 0, .slice none 0 0]) (t := 30) ?hr ?_; (case hd => rfl); (case hg => rfl); (case hr => first | (go_simp; done) | (go_simp; rfl)); intro gb653 hg w26 hbox hb; have n0_ := Aside0.mk (Kd.R_below (rr__ HO648.out) hb); have n1_ := Aside0.mk (Kd.R_below (rr__ HO651.out) hb); have n2_ := Aside0.mk (blb__ BK642.out hb); have n3_ := Aside0.mk (IsS104.below (by repeat (first | (with_reducible first | exact HI645.out | apply IsS104.alloc | apply IsS104.drewN | apply IsS104.drew | apply IsS104.set_1 | refine IsS104.far ?_ NB645_642.out _) | exact HI645.out)) hb); have n4_ := Aside0.mk (below_step (by repeat (first | (with_reducible first | exact HB.out | apply below_alloc | apply pw_below_drewN | apply below_drew1 | refine below_set ?_ (IsS104.ge HI645.out) | refine below_set ?_ GE642.out) | exact HB.out)) hb); have n5_ := Aside0.mk (hbox); have n6_ := Aside0.mk ((by rw [hg]; exact (below_size (by repeat (first | (with_reducible first | exact HB.out | apply below_alloc | apply pw_below_drewN | apply below_drew1 | refine below_set ?_ (IsS104.ge HI645.out) | refine below_set ?_ GE642.out) | exact HB.out))) : w.heap.size ≤ gb653)); have n7_ := Aside0.mk ((by rw [hg]; exact (below_size (by repeat (first | (with_reducible first | exact HB.out | apply below_alloc | apply pw_below_drewN | apply below_drew1 | refine below_set ?_ (IsS104.ge HI645.out) | refine below_set ?_ GE642.out) | exact HB.out))) : w.heap.size ≤ gb653)); have n8_ := Aside0.mk ((nl__ hg BK642.out : gb642 ≠ gb653)); have n9_ := Aside0.mk ((ng__ hg BK642.out : gb653 ≠ gb642)); have n10_ := Aside0.mk ((by rw [hg]; exact Nat.ne_of_lt (IsS104.lt (show IsS104 w _ g645 t643 t652 from by repeat (first | (with_reducible first | exact HI645.out | apply IsS104.alloc | apply IsS104.drewN | apply IsS104.drew | apply IsS104.set_1 | refine IsS104.far ?_ NB645_642.out _) | exact HI645.out))) : g645 ≠ gb653)); have n11_ := Aside0.mk ((by rw [hg]; exact Nat.ne_of_gt (IsS104.lt (show IsS104 w _ g645 t643 t652 from by repeat (first | (with_reducible first | exact HI645.out | apply IsS104.alloc | apply IsS104.drewN | apply IsS104.drew | apply IsS104.set_1 | refine IsS104.far ?_ NB645_642.out _) | exact HI645.out))) : gb653 ≠ g645)); clear HO648; clear HO651; clear BK642; clear HI645; clear HB; have HO648 := n0_; have HO651 := n1_; have BK642 := n2_; have HI645 := n3_; have HB := n4_; have BK653 := n5_; have GW653 := n6_; have GE653 := n7_; have NB642_653 := n8_; have NB653_642 := n9_; have NB645_653 := n10_; have NB653_645 := n11_; clear n0_ n1_ n2_ n3_ n4_ n5_ n6_ n7_ n8_ n9_ n10_ n11_; clear hb hbox hg; obtain ⟨Ao27, co27, eo27⟩ := Kd.R_slice HO648.out; subst eo27; have hnb28 := NB653_642.out; have hnc28 := NB642_653.out; have hnb29 := NB653_645.out; have hnc29 := NB645_653.out; have hcz30_0 : w26.cell? ⟨gb653, 0, none⟩ = some (.slice none 0 0) := (blk_cell BK653.out 0).trans rfl; have hcz30_1 : w26.cell? ⟨gb653, 1, none⟩ = some (.slice none 0 0) := (blk_cell BK653.out 1).trans rfl; have hfz30_0 := blk_frozen BK653.out 0; have hfz30_1 := blk_frozen BK653.out 1; obtain ⟨Ao31, co31, eo31⟩ := Kd.R_slice HO651.out; subst eo31) | ((with_reducible refine gate_callee (f := 71) rfl ?_); refine goesL_ (some 11) rfl rfl Try.func71 (by kernel_rfl) rfl #[.pointer (some ⟨g645, 0, none⟩), .int .i64 10] rfl (ar__) ?_; (with_reducible refine (spec_l1Rd_pick.calls k g645 t643 t652 10 t654 t655 w _ ?side1 ?side2 A4.out).mono ?_); (case side1 => repeat (first | (with_reducible first | exact HI645.out | apply IsS104.alloc | apply IsS104.drewN | apply IsS104.drew | apply IsS104.set_1 | refine IsS104.far ?_ NB645_642.out _ | refine IsS104.far ?_ NB645_653.out _) | exact HI645.out)); (case side2 => repeat (first | (with_reducible first | exact HB.out | apply below_alloc | apply pw_below_drewN | apply below_drew1 | refine below_set ?_ (IsS104.ge HI645.out) | refine below_set ?_ GE642.out | refine below_set ?_ GE653.out) | exact HB.out)); rintro e w32 ⟨rfl, hi, hb, hk⟩; refine ⟨_, rfl, ?_⟩; have n0_ := Aside0.mk (KeepBut.blk hk (g' := gb642) (o := .cells #[.slice none 0 0, .slice none 0 0] 30 (0, 0)) (by (with_reducible repeat (first | refine blk_drewN ?_ _ | refine blk_drew ?_ | refine blk_alloc ?_ _)); refine blk_far ?_ NB642_653.out _; (with_reducible repeat (first | refine blk_drewN ?_ _ | refine blk_drew ?_ | refine blk_alloc ?_ _)); refine blk_far ?_ NB642_653.out _; (with_reducible repeat (first | refine blk_drewN ?_ _ | refine blk_drew ?_ | refine blk_alloc ?_ _)); exact BK642.out) NB642_645.out (by simp)); have n1_ := Aside0.mk (Kd.R_mono (Kd.R_keep (IsS104.apart (show IsS104 w _ g645 t643 t652 from by repeat (first | (with_reducible first | exact HI645.out | apply IsS104.alloc | apply IsS104.drewN | apply IsS104.drew | apply IsS104.set_1 | refine IsS104.far ?_ NB645_642.out _ | refine IsS104.far ?_ NB645_653.out _) | exact HI645.out)) (by (with_reducible repeat (first | apply Kd.R_alloc | apply Kd.R_drewN | apply Kd.R_drew)); exact (Kd.R_mono (Kd.R_far (p := ⟨gb653, 1, none⟩) (Kd.R_far (p := ⟨gb653, 0, none⟩) (Kd.R_types HO648.out BK653.out (by decide)) h2__ (.slice Ao27 t646.length co27)) h2__ (.slice Ao31 t649.length co31)) h1__)) (by decide)) hk (fun _ h => h.2)) (fun _ h => h.1)); have n2_ := Aside0.mk (Kd.R_mono (Kd.R_keep (IsS104.apart (show IsS104 w _ g645 t643 t652 from by repeat (first | (with_reducible first | exact HI645.out | apply IsS104.alloc | apply IsS104.drewN | apply IsS104.drew | apply IsS104.set_1 | refine IsS104.far ?_ NB645_642.out _ | refine IsS104.far ?_ NB645_653.out _) | exact HI645.out)) (by (with_reducible repeat (first | apply Kd.R_alloc | apply Kd.R_drewN | apply Kd.R_drew)); exact (Kd.R_mono (Kd.R_far (p := ⟨gb653, 1, none⟩) (Kd.R_far (p := ⟨gb653, 0, none⟩) (Kd.R_types HO651.out BK653.out (by decide)) h2__ (.slice Ao27 t646.length co27)) h2__ (.slice Ao31 t649.length co31)) h1__)) (by decide)) hk (fun _ h => h.2)) (fun _ h => h.1)); have n3_ := Aside0.mk (KeepBut.blk hk (g' := gb653) (o := .cells #[.slice Ao27 t646.length co27, .slice Ao31 t649.length co31] 30 (0, 0)) (by (with_reducible repeat (first | refine blk_drewN ?_ _ | refine blk_drew ?_ | refine blk_alloc ?_ _)); refine blk_put (cs := #[.slice Ao27 t646.length co27, .slice none 0 0]) ?_ 1 _ rfl; (with_reducible repeat (first | refine blk_drewN ?_ _ | refine blk_drew ?_ | refine blk_alloc ?_ _)); refine blk_put (cs := #[.slice none 0 0, .slice none 0 0]) ?_ 0 _ rfl; (with_reducible repeat (first | refine blk_drewN ?_ _ | refine blk_drew ?_ | refine blk_alloc ?_ _)); exact BK653.out) NB653_645.out (by simp)); have n4_ := Aside0.mk (hb); have n5_ := Aside0.mk (hi); clear BK642; clear HO648; clear HO651; clear BK653; clear HB; clear HI645; have BK642 := n0_; have HO648 := n1_; have HO651 := n2_; have BK653 := n3_; have HB := n4_; have HI645 := n5_; clear n0_ n1_ n2_ n3_ n4_ n5_; (try clear hb); (try clear hb2); (try clear hk); (try clear hi)))
  have n0_ := Aside0.mk (Kd.R_drew HO648.out)
  have n1_ := Aside0.mk (Kd.R_drew HO651.out)
  have n2_ := Aside0.mk (blk_drew BK642.out)
  have n3_ := Aside0.mk (blk_drew BK653.out)
  have n4_ := Aside0.mk (IsS104.drew HI645.out)
  have n5_ := Aside0.mk (below_drew1 HB.out)
  clear HO648
  clear HO651
  clear BK642
  clear BK653
  clear HI645
  clear HB
  have HO648 := n0_
  have HO651 := n1_
  have BK642 := n2_
  have BK653 := n3_
  have HI645 := n4_
  have HB := n5_
  clear n0_ n1_ n2_ n3_ n4_ n5_
  refine start_ (n := 5) (S := fun w' => w'.cell? ⟨gb653, 0, none⟩ = some (.slice Ao27 t646.length co27) ∧ w'.cell? ⟨gb653, 1, none⟩ = some (.slice Ao31 t649.length co31)) (ds := []) #[false, false, false, false, false] (by kernel_rfl) rfl rfl ⟨(blk_cell BK653.out 0).trans rfl, (blk_cell BK653.out 1).trans rfl⟩ (fun hHeld => ?_)
  generalize w32.drew = w33 at HO648 HO651 BK642 BK653 HI645 HB hHeld ⊢
  refine pure_ (i := 1) (N := some 19) (v := ?_) (a' := ?_) #[false, true, false, false, false] rfl rfl (by kernel_rfl) (fun _ _ _ h => h) (Or.inl ⟨by rfl, ?_⟩) ?_ ?_
  rotate_left
  ·intro w'
   go_simp
   with_reducible rfl
  rotate_left
  ·simp only [Act.put, List.setIfInBounds_toArray, List.set_cons_zero, List.set_cons_succ, i64_w, i32_w]
   rfl
  refine take_ (i := 0) (N := some 18) (v := ?_) (a' := ?_) #[true, true, false, false, false] rfl rfl (by kernel_rfl) (fun _ _ _ h => h) (Or.inl ⟨by rfl, ?_⟩) hHeld ?_ ?_
  rotate_left
  ·rintro w' ⟨s0, s1⟩
   go_simp
   with_reducible rfl
  rotate_left
  ·simp only [Act.put, List.setIfInBounds_toArray, List.set_cons_zero, List.set_cons_succ, i64_w, i32_w]
   rfl
  refine one_ (i := 2) (N := some 20) #[true, true, true, false, false] rfl rfl (by kernel_rfl) (by decide) (fun K hK => ?_)
  refine goes_ Try.func73 (by kernel_rfl) rfl #[.pointer (some ⟨g645, 0, none⟩)] (by rfl) rfl rfl (ar__) ?_
  with_reducible refine (spec_l1Text.calls k g645 t643 t655 t659 t660 w _ ?side1 ?side2 A22.out).mono ?_
  (case side1 => repeat (first | (with_reducible first | exact HI645.out | apply IsS104.alloc | apply IsS104.drewN | apply IsS104.drew | apply IsS104.set_1 | refine IsS104.far ?_ NB645_642.out _ | refine IsS104.far ?_ NB645_653.out _) | exact HI645.out))
  (case side2 => repeat (first | (with_reducible first | exact HB.out | apply below_alloc | apply pw_below_drewN | apply below_drew1 | refine below_set ?_ (IsS104.ge HI645.out) | refine below_set ?_ GE642.out | refine below_set ?_ GE653.out) | exact HB.out))
  rintro e w34 ⟨rfl, hi, hb, hk⟩
  refine ⟨_, rfl, ?_⟩
  have n0_ := Aside0.mk (KeepBut.blk hk (g' := gb642) (o := .cells #[.slice none 0 0, .slice none 0 0] 30 (0, 0)) (blk__ BK642.out) NB642_645.out (by simp))
  have n1_ := Aside0.mk (Kd.R_mono (Kd.R_keep (IsS104.apart (show IsS104 w _ g645 t643 t655 from by repeat (first | (with_reducible first | exact HI645.out | apply IsS104.alloc | apply IsS104.drewN | apply IsS104.drew | apply IsS104.set_1 | refine IsS104.far ?_ NB645_642.out _ | refine IsS104.far ?_ NB645_653.out _) | exact HI645.out)) (rr__ HO648.out) (by decide)) hk (fun _ h => h.2)) (fun _ h => h.1))
  have n2_ := Aside0.mk (Kd.R_mono (Kd.R_keep (IsS104.apart (show IsS104 w _ g645 t643 t655 from by repeat (first | (with_reducible first | exact HI645.out | apply IsS104.alloc | apply IsS104.drewN | apply IsS104.drew | apply IsS104.set_1 | refine IsS104.far ?_ NB645_642.out _ | refine IsS104.far ?_ NB645_653.out _) | exact HI645.out)) (rr__ HO651.out) (by decide)) hk (fun _ h => h.2)) (fun _ h => h.1))
  have n3_ := Aside0.mk (KeepBut.blk hk (g' := gb653) (o := .cells #[.slice Ao27 t646.length co27, .slice Ao31 t649.length co31] 30 (0, 0)) (blk__ BK653.out) NB653_645.out (by simp))
  have n4_ := Aside0.mk (hb)
  have n5_ := Aside0.mk (hi)
  clear BK642
  clear HO648
  clear HO651
  clear BK653
  clear HB
  clear HI645
  have BK642 := n0_
  have HO648 := n1_
  have HO651 := n2_
  have BK653 := n3_
  have HB := n4_
  have HI645 := n5_
  clear n0_ n1_ n2_ n3_ n4_ n5_
  (try clear hb)
  (try clear hb2)
  (try clear hk)
  (try clear hi)
  refine hK.out _ _ ⟨(blk_cell BK653.out 0).trans rfl, (blk_cell BK653.out 1).trans rfl⟩ (fun hHeld => ?_)
  clear hK K
  refine na__ 20 ?_
  refine one_ (i := 3) (N := none) #[true, true, true, true, false] rfl rfl (by kernel_rfl) (by decide) (fun K hK => ?_)
  have hs35 : w34.cell? ⟨gb642, 0, none⟩ = some (.slice none 0 0) := (blk_cell BK642.out 0).trans rfl
  have hfs35 := blk_frozen BK642.out 0
  have hns35_1 := NB653_642.out
  have hms35_1 := NB642_653.out
  have hs36 : w34.cell? ⟨gb642, 1, none⟩ = some (.slice none 0 0) := (blk_cell BK642.out 1).trans rfl
  have hfs36 := blk_frozen BK642.out 1
  have hns36_1 := NB653_642.out
  have hms36_1 := NB642_653.out
  refine skip_ (w1 := ?_) (by rfl) rfl ?_ ?_
  rotate_left
  ·go_simp
   rfl
  refine hK.out _ _ ⟨((cell_far (p := ⟨gb642, _, none⟩) NB653_642.out _).trans (((cell_far (p := ⟨gb642, _, none⟩) NB653_642.out _).trans (hHeld.1)))), ((cell_far (p := ⟨gb642, _, none⟩) NB653_642.out _).trans (((cell_far (p := ⟨gb642, _, none⟩) NB653_642.out _).trans (hHeld.2))))⟩ (fun hHeld => ?_)
  clear hK K
  refine pure_ (i := 4) (N := some 3) (v := ?_) (a' := ?_) #[true, true, true, true, true] rfl rfl (by kernel_rfl) (fun _ _ _ h => h) (Or.inl ⟨by rfl, ?_⟩) ?_ ?_
  rotate_left
  ·intro w'
   go_simp
   with_reducible rfl
  rotate_left
  ·simp only [Act.put, List.setIfInBounds_toArray, List.set_cons_zero, List.set_cons_succ, i64_w, i32_w]
   rfl
  refine done_ (by kernel_rfl) ?_
  try go_wp2
  refine bodyPost_ret (results_ct rfl _ _ gb642 30 #[.slice Ao27 t646.length co27, .slice Ao31 t649.length co31] (0, 0) _ rfl (by (with_reducible repeat (first | refine blk_drewN ?_ _ | refine blk_drew ?_ | refine blk_alloc ?_ _)); refine blk_put (cs := #[.slice Ao27 t646.length co27, .slice none 0 0]) ?_ 1 _ rfl; (with_reducible repeat (first | refine blk_drewN ?_ _ | refine blk_drew ?_ | refine blk_alloc ?_ _)); refine blk_put (cs := #[.slice none 0 0, .slice none 0 0]) ?_ 0 _ rfl; (with_reducible repeat (first | refine blk_drewN ?_ _ | refine blk_drew ?_ | refine blk_alloc ?_ _)); exact BK642.out) Try.underlying30 rfl (by kernel_rfl)) rfl ?_
  exact ⟨_, _, by first | rfl | (simp [errW_none, errW_some] <;> rfl) | (simp [*, errW_none, errW_some] <;> rfl), by (with_reducible repeat (first | apply Kd.R_alloc | apply Kd.R_drewN | apply Kd.R_drew)); exact Kd.R_mono (Kd.R_far (p := ⟨gb642, 1, none⟩) (Kd.R_far (p := ⟨gb642, 0, none⟩) (Kd.R_types HO648.out BK642.out (by decide)) h2__ (.slice Ao27 t646.length co27)) h2__ (.slice Ao31 t649.length co31)) (fun _ hk => hk.1), by (with_reducible repeat (first | apply Kd.R_alloc | apply Kd.R_drewN | apply Kd.R_drew)); exact Kd.R_mono (Kd.R_far (p := ⟨gb642, 1, none⟩) (Kd.R_far (p := ⟨gb642, 0, none⟩) (Kd.R_types HO651.out BK642.out (by decide)) h2__ (.slice Ao27 t646.length co27)) h2__ (.slice Ao31 t649.length co31)) (fun _ hk => hk.1), by repeat (first | (with_reducible first | exact HB.out | apply below_alloc | apply pw_below_drewN | apply below_drew1 | refine below_set ?_ (IsS104.ge HI645.out) | refine below_set ?_ GE642.out | refine below_set ?_ GE653.out) | exact HB.out)⟩
end Go.Proofs.Ytpnblgbkjbpeoaa.P

namespace Go.Proofs.Ytpnblgbkjbpeoaa.P
open Go.RowKit Go.Proofs.YtpnblgbkjbpeoaaW.PrintWords Go.Proofs.YtpnblgbkjbpeoaaW.PrintLast Go.Proofs.YtpnblgbkjbpeoaaW.PrintMore
attribute [local go_sem] max2_int min2_int max_two min_two max_three min_three max_four min_four   -- for this text's walks alone
set_option linter.unusedVariables false
set_option linter.unusedSimpArgs false
/-! ### spec_DrawCrash: function 40 -/
def spec_DrawCrash.f (k : Nat) (l0 : List Int) : Option (List ByteArray × List ByteArray × Int) := (spec_l1Open.f l0).bind fun bt662 => ((spec_l2Draw.f k bt662.1 bt662.2).bind fun bt665 => ((spec_l1Rd_pick.f k bt662.1 bt665.2.2 9).bind fun bt673 => (some (bt665.1, bt665.2.1, wrap64 (bt673.1 - 1)))))
set_option maxHeartbeats 8000000 in
set_option maxRecDepth 100000 in
theorem spec_DrawCrash.calls (k : Nat) (A0 : Option Addr) (c0 : Nat) (l0 : List Int) (r1 : List ByteArray) (r2 : List ByteArray) (r3 : Int) (w : World) (hr0 : Kd.C (Kd.int .u8) w A0 l0.length l0) (hc0 : l0.length ≤ c0) (h : spec_DrawCrash.f k l0 = some (r1, r2, r3)) :
  Calls Try.prog 40 #[.slice A0 l0.length c0] w fun e w' => ∃ v0_ v1_ : Value, e = .returned (.tuple #[.agg #[v0_, v1_], .int .i64 r3]) ∧ Kd.R Kd.string 9 w' w.heap.size (fun k_ => some k_ ≠ (v1_ : Value).ownBlock) v0_ r1 ∧ Kd.R Kd.string 9 w' w.heap.size (fun k_ => some k_ ≠ (v0_ : Value).ownBlock) v1_ r2 ∧ Below w.heap.size w w' := by
 have hu30 := Try.underlying30
 have HR0 := Aside0.mk hr0
 have HC0 := Aside0.mk hc0
 clear hr0 hc0
 have HB := Aside0.mk (Below.refl w.heap.size w)
 have H : ((spec_l1Open.f l0).bind fun bt662 => ((spec_l2Draw.f k bt662.1 bt662.2).bind fun bt665 => ((spec_l1Rd_pick.f k bt662.1 bt665.2.2 9).bind fun bt673 => (some (bt665.1, bt665.2.1, wrap64 (bt673.1 - 1)))))) = some (r1, r2, r3) := h
 clear h
 replace H := Option.bind_eq_some_iff.mp H
 obtain ⟨⟨t662, t663⟩, A20, H⟩ := H
 replace H : ((spec_l2Draw.f k t662 t663).bind fun bt665 => ((spec_l1Rd_pick.f k t662 bt665.2.2 9).bind fun bt673 => (some (bt665.1, bt665.2.1, wrap64 (bt673.1 - 1))))) = some (r1, r2, r3) := H
 have A2 := Aside0.mk A20
 clear A20
 replace H := Option.bind_eq_some_iff.mp H
 obtain ⟨⟨t665, t668, t671⟩, A30, H⟩ := H
 replace H : ((spec_l1Rd_pick.f k t662 t671 9).bind fun bt673 => (some (t665, t668, wrap64 (bt673.1 - 1)))) = some (r1, r2, r3) := H
 have A3 := Aside0.mk A30
 clear A30
 replace H := Option.bind_eq_some_iff.mp H
 obtain ⟨⟨t673, t674⟩, A40, H⟩ := H
 replace H : (some (t665, t668, wrap64 (t673 - 1))) = some (r1, r2, r3) := H
 have A4 := Aside0.mk A40
 clear A40
 simp only [Option.some.injEq, Prod.mk.injEq] at H
 obtain ⟨rfl, rfl, rfl⟩ := H
 go_enter Try.func40, Try.ntmps40
 try go_wp2_with (first | ((with_reducible refine gate_dst (N := 2) rfl ?_); refine box_event ?hg (N := 2) ?hd (cs := #[.slice none 0 0, .slice none 0 0]) (t := 30) ?hr ?_; (case hd => rfl); (case hg => rfl); (case hr => first | (go_simp; done) | (go_simp; rfl)); intro gb661 hg w5 hbox hb; have n0_ := Aside0.mk (below_step (bel__) hb); have n1_ := Aside0.mk (hbox); have n2_ := Aside0.mk ((by rw [hg]; exact (below_size (bel__)) : w.heap.size ≤ gb661)); have n3_ := Aside0.mk ((by rw [hg]; exact (below_size (bel__)) : w.heap.size ≤ gb661)); clear HB; have HB := n0_; have BK661 := n1_; have GW661 := n2_; have GE661 := n3_; clear n0_ n1_ n2_ n3_; clear hb hbox hg) | ((with_reducible refine gate_callee (f := 69) rfl ?_); refine goesL_ (some 7) rfl rfl Try.func69 (by kernel_rfl) rfl #[.slice A0 l0.length c0] rfl (ar__) ?_; (with_reducible refine (spec_l1Open.calls _ _ l0 t662 t663 w _ ?side1 ?side2 ?side3 A2.out).mono ?_); (case side1 => repeat (first | (with_reducible first | exact HB.out | apply below_alloc | apply pw_below_drewN | apply below_drew1 | refine below_set ?_ GE661.out) | exact HB.out)); (case side2 => exact HR0.out); (case side3 => exact HC0.out); rintro e w6 ⟨g664, rfl, hi, hb, hb2⟩; refine ⟨_, rfl, ?_⟩; have n0_ := Aside0.mk (blb__ BK661.out hb2); have n1_ := Aside0.mk (hb); have n2_ := Aside0.mk (hi); have n3_ := Aside0.mk (IsS104.ne_blk hi (blb__ BK661.out hb2) (by decide)); have n4_ := Aside0.mk (Ne.symm (IsS104.ne_blk hi (blb__ BK661.out hb2) (by decide))); clear BK661; clear HB; have BK661 := n0_; have HB := n1_; have HI664 := n2_; have NB664_661 := n3_; have NB661_664 := n4_; clear n0_ n1_ n2_ n3_ n4_; (try clear hb); (try clear hb2); (try clear hk); (try clear hi)) | ((with_reducible refine gate_callee (f := 70) rfl ?_); refine goesL_ (some 9) rfl rfl Try.func70 (by kernel_rfl) rfl #[.pointer (some ⟨g664, 0, none⟩)] rfl (ar__) ?_; (with_reducible refine (spec_l2Draw.calls k g664 t662 t663 t665 t668 t671 w _ ?side1 ?side2 A3.out).mono ?_); (case side1 => repeat (first | (with_reducible first | exact HI664.out | apply IsS104.alloc | apply IsS104.drewN | apply IsS104.drew | apply IsS104.set_1 | refine IsS104.far ?_ NB664_661.out _) | exact HI664.out)); (case side2 => repeat (first | (with_reducible first | exact HB.out | apply below_alloc | apply pw_below_drewN | apply below_drew1 | refine below_set ?_ (IsS104.ge HI664.out) | refine below_set ?_ GE661.out) | exact HB.out)); rintro e w7 ⟨v666, v669, rfl, ho0, ho1, hi, hb, hk⟩; refine ⟨_, rfl, ?_⟩; have n0_ := Aside0.mk (KeepBut.blk hk (g' := gb661) (o := .cells #[.slice none 0 0, .slice none 0 0] 30 (0, 0)) (blk__ BK661.out) NB661_664.out (by simp)); have n1_ := Aside0.mk (Kd.R_lower ho0 (below_size (by repeat (first | (with_reducible first | exact HB.out | apply below_alloc | apply pw_below_drewN | apply below_drew1 | refine below_set ?_ (IsS104.ge HI664.out) | refine below_set ?_ GE661.out) | exact HB.out)))); have n2_ := Aside0.mk (Kd.R_lower ho1 (below_size (by repeat (first | (with_reducible first | exact HB.out | apply below_alloc | apply pw_below_drewN | apply below_drew1 | refine below_set ?_ (IsS104.ge HI664.out) | refine below_set ?_ GE661.out) | exact HB.out)))); have n3_ := Aside0.mk (hb); have n4_ := Aside0.mk (hi); clear BK661; clear HB; clear HI664; have BK661 := n0_; have HO667 := n1_; have HO670 := n2_; have HB := n3_; have HI664 := n4_; clear n0_ n1_ n2_ n3_ n4_; (try clear hb); (try clear hb2); (try clear hk); (try clear hi); (try clear ho0); (try clear ho1)) | ((with_reducible refine gate_dst (N := 5) rfl ?_); refine box_event ?hg (N := 5) ?hd (cs := #[.slice none 0 0, .slice none 0 0]) (t := 30) ?hr ?_; (case hd => rfl); (case hg => rfl); (case hr => first | (go_simp; done) | (go_simp; rfl)); intro gb672 hg w8 hbox hb; have n0_ := Aside0.mk (Kd.R_below (rr__ HO667.out) hb); have n1_ := Aside0.mk (Kd.R_below (rr__ HO670.out) hb); have n2_ := Aside0.mk (blb__ BK661.out hb); have n3_ := Aside0.mk (IsS104.below (by repeat (first | (with_reducible first | exact HI664.out | apply IsS104.alloc | apply IsS104.drewN | apply IsS104.drew | apply IsS104.set_1 | refine IsS104.far ?_ NB664_661.out _) | exact HI664.out)) hb); have n4_ := Aside0.mk (below_step (by repeat (first | (with_reducible first | exact HB.out | apply below_alloc | apply pw_below_drewN | apply below_drew1 | refine below_set ?_ (IsS104.ge HI664.out) | refine below_set ?_ GE661.out) | exact HB.out)) hb); have n5_ := Aside0.mk (hbox); have n6_ := Aside0.mk ((by rw [hg]; exact (below_size (by repeat (first | (with_reducible first | exact HB.out | apply below_alloc | apply pw_below_drewN | apply below_drew1 | refine below_set ?_ (IsS104.ge HI664.out) | refine below_set ?_ GE661.out) | exact HB.out))) : w.heap.size ≤ gb672)); have n7_ := Aside0.mk ((by rw [hg]; exact (below_size (by repeat (first | (with_reducible first | exact HB.out | apply below_alloc | apply pw_below_drewN | apply below_drew1 | refine below_set ?_ (IsS104.ge HI664.out) | refine below_set ?_ GE661.out) | exact HB.out))) : w.heap.size ≤ gb672)); have n8_ := Aside0.mk ((nl__ hg BK661.out : gb661 ≠ gb672)); have n9_ := Aside0.mk ((ng__ hg BK661.out : gb672 ≠ gb661)); have n10_ := Aside0.mk ((by rw [hg]; exact Nat.ne_of_lt (IsS104.lt (show IsS104 w _ g664 t662 t671 from by repeat (first | (with_reducible first | exact HI664.out | apply IsS104.alloc | apply IsS104.drewN | apply IsS104.drew | apply IsS104.set_1 | refine IsS104.far ?_ NB664_661.out _) | exact HI664.out))) : g664 ≠ gb672)); have n11_ := Aside0.mk ((by rw [hg]; exact Nat.ne_of_gt (IsS104.lt (show IsS104 w _ g664 t662 t671 from by repeat (first | (with_reducible first | exact HI664.out | apply IsS104.alloc | apply IsS104.drewN | apply IsS104.drew | apply IsS104.set_1 | refine IsS104.far ?_ NB664_661.out _) | exact HI664.out))) : gb672 ≠ g664)); clear HO667; clear HO670; clear BK661; clear HI664; clear HB; have HO667 := n0_; have HO670 := n1_; have BK661 := n2_; have HI664 := n3_; have HB := n4_; have BK672 := n5_; have GW672 := n6_; have GE672 := n7_; have NB661_672 := n8_; have NB672_661 := n9_; have NB664_672 := n10_; have NB672_664 := n11_; clear n0_ n1_ n2_ n3_ n4_ n5_ n6_ n7_ n8_ n9_ n10_ n11_; clear hb hbox hg; obtain ⟨Ao9, co9, eo9⟩ := Kd.R_slice HO667.out; subst eo9; have hnb10 := NB672_661.out; have hnc10 := NB661_672.out; have hnb11 := NB672_664.out; have hnc11 := NB664_672.out; have hcz12_0 : w8.cell? ⟨gb672, 0, none⟩ = some (.slice none 0 0) := (blk_cell BK672.out 0).trans rfl; have hcz12_1 : w8.cell? ⟨gb672, 1, none⟩ = some (.slice none 0 0) := (blk_cell BK672.out 1).trans rfl; have hfz12_0 := blk_frozen BK672.out 0; have hfz12_1 := blk_frozen BK672.out 1; obtain ⟨Ao13, co13, eo13⟩ := Kd.R_slice HO670.out; subst eo13))
 have n0_ : Aside0 (Kd.R Kd.string 9 ((w8.setCell ⟨gb672, 0, none⟩ (.slice Ao9 t665.length co9)).setCell ⟨gb672, 1, none⟩ (.slice Ao13 t668.length co13)) w.heap.size (fun k_ => some k_ ≠ (ob__ Ao13 t668.length co13)) (.slice Ao9 t665.length co9) t665) := ⟨by (with_reducible repeat (first | apply Kd.R_alloc | apply Kd.R_drewN | apply Kd.R_drew)); exact Kd.R_mono (Kd.R_far (p := ⟨gb672, 1, none⟩) (Kd.R_far (p := ⟨gb672, 0, none⟩) (Kd.R_types HO667.out BK672.out (by decide)) h2__ (.slice Ao9 t665.length co9)) h2__ (.slice Ao13 t668.length co13)) (fun _ hk => hk.1)⟩
 have n1_ : Aside0 (Kd.R Kd.string 9 ((w8.setCell ⟨gb672, 0, none⟩ (.slice Ao9 t665.length co9)).setCell ⟨gb672, 1, none⟩ (.slice Ao13 t668.length co13)) w.heap.size (fun k_ => some k_ ≠ (ob__ Ao9 t665.length co9)) (.slice Ao13 t668.length co13) t668) := ⟨by (with_reducible repeat (first | apply Kd.R_alloc | apply Kd.R_drewN | apply Kd.R_drew)); exact Kd.R_mono (Kd.R_far (p := ⟨gb672, 1, none⟩) (Kd.R_far (p := ⟨gb672, 0, none⟩) (Kd.R_types HO670.out BK672.out (by decide)) h2__ (.slice Ao9 t665.length co9)) h2__ (.slice Ao13 t668.length co13)) (fun _ hk => hk.1)⟩
 have n2_ : Aside0 (((w8.setCell ⟨gb672, 0, none⟩ (.slice Ao9 t665.length co9)).setCell ⟨gb672, 1, none⟩ (.slice Ao13 t668.length co13)).heap[gb661]? = some (.cells #[.slice none 0 0, .slice none 0 0] 30 (0, 0))) := ⟨by (with_reducible repeat (first | refine blk_drewN ?_ _ | refine blk_drew ?_ | refine blk_alloc ?_ _)); refine blk_far ?_ NB661_672.out _; (with_reducible repeat (first | refine blk_drewN ?_ _ | refine blk_drew ?_ | refine blk_alloc ?_ _)); refine blk_far ?_ NB661_672.out _; (with_reducible repeat (first | refine blk_drewN ?_ _ | refine blk_drew ?_ | refine blk_alloc ?_ _)); exact BK661.out⟩
 have n3_ : Aside0 (((w8.setCell ⟨gb672, 0, none⟩ (.slice Ao9 t665.length co9)).setCell ⟨gb672, 1, none⟩ (.slice Ao13 t668.length co13)).heap[gb672]? = some (.cells #[.slice Ao9 t665.length co9, .slice Ao13 t668.length co13] 30 (0, 0))) := ⟨by (with_reducible repeat (first | refine blk_drewN ?_ _ | refine blk_drew ?_ | refine blk_alloc ?_ _)); refine blk_put (cs := #[.slice Ao9 t665.length co9, .slice none 0 0]) ?_ 1 _ rfl; (with_reducible repeat (first | refine blk_drewN ?_ _ | refine blk_drew ?_ | refine blk_alloc ?_ _)); refine blk_put (cs := #[.slice none 0 0, .slice none 0 0]) ?_ 0 _ rfl; (with_reducible repeat (first | refine blk_drewN ?_ _ | refine blk_drew ?_ | refine blk_alloc ?_ _)); exact BK672.out⟩
 have n4_ : Aside0 (IsS104 w ((w8.setCell ⟨gb672, 0, none⟩ (.slice Ao9 t665.length co9)).setCell ⟨gb672, 1, none⟩ (.slice Ao13 t668.length co13)) g664 t662 t671) := ⟨by repeat (first | (with_reducible first | exact HI664.out | apply IsS104.alloc | apply IsS104.drewN | apply IsS104.drew | apply IsS104.set_1 | refine IsS104.far ?_ NB664_661.out _ | refine IsS104.far ?_ NB664_672.out _) | exact HI664.out)⟩
 have n5_ : Aside0 (Below w.heap.size w ((w8.setCell ⟨gb672, 0, none⟩ (.slice Ao9 t665.length co9)).setCell ⟨gb672, 1, none⟩ (.slice Ao13 t668.length co13))) := ⟨by repeat (first | (with_reducible first | exact HB.out | apply below_alloc | apply pw_below_drewN | apply below_drew1 | refine below_set ?_ (IsS104.ge HI664.out) | refine below_set ?_ GE661.out | refine below_set ?_ GE672.out) | exact HB.out)⟩
 (try clear HO667)
 (try clear HO670)
 (try clear BK661)
 (try clear BK672)
 (try clear HI664)
 (try clear HB)
 generalize ((w8.setCell ⟨gb672, 0, none⟩ (.slice Ao9 t665.length co9)).setCell ⟨gb672, 1, none⟩ (.slice Ao13 t668.length co13)) = w14 at n0_ n1_ n2_ n3_ n4_ n5_ ⊢
 have HO667 := n0_
 have HO670 := n1_
 have BK661 := n2_
 have BK672 := n3_
 have HI664 := n4_
 have HB := n5_
 clear n0_ n1_ n2_ n3_ n4_ n5_
 have n0_ := Aside0.mk (Kd.R_drew HO667.out)
 have n1_ := Aside0.mk (Kd.R_drew HO670.out)
 have n2_ := Aside0.mk (blk_drew BK661.out)
 have n3_ := Aside0.mk (blk_drew BK672.out)
 have n4_ := Aside0.mk (IsS104.drew HI664.out)
 have n5_ := Aside0.mk (below_drew1 HB.out)
 clear HO667
 clear HO670
 clear BK661
 clear BK672
 clear HI664
 clear HB
 have HO667 := n0_
 have HO670 := n1_
 have BK661 := n2_
 have BK672 := n3_
 have HI664 := n4_
 have HB := n5_
 clear n0_ n1_ n2_ n3_ n4_ n5_
 refine start_ (n := 6) (S := fun w' => w'.cell? ⟨gb672, 0, none⟩ = some (.slice Ao9 t665.length co9) ∧ w'.cell? ⟨gb672, 1, none⟩ = some (.slice Ao13 t668.length co13)) (ds := []) #[false, false, false, false, false, false] (by kernel_rfl) rfl rfl ⟨(blk_cell BK672.out 0).trans rfl, (blk_cell BK672.out 1).trans rfl⟩ (fun hHeld => ?_)
 generalize w14.drew = w15 at HO667 HO670 BK661 BK672 HI664 HB hHeld ⊢
 refine pure_ (i := 1) (N := some 11) (v := ?_) (a' := ?_) #[false, true, false, false, false, false] rfl rfl (by kernel_rfl) (fun _ _ _ h => h) (Or.inl ⟨by rfl, ?_⟩) ?_ ?_
 rotate_left
 ·intro w'
  go_simp
  with_reducible rfl
 rotate_left
 ·simp only [Act.put, List.setIfInBounds_toArray, List.set_cons_zero, List.set_cons_succ, i64_w, i32_w]
  rfl
 refine take_ (i := 0) (N := some 10) (v := ?_) (a' := ?_) #[true, true, false, false, false, false] rfl rfl (by kernel_rfl) (fun _ _ _ h => h) (Or.inl ⟨by rfl, ?_⟩) hHeld ?_ ?_
 rotate_left
 ·rintro w' ⟨s0, s1⟩
  go_simp
  with_reducible rfl
 rotate_left
 ·simp only [Act.put, List.setIfInBounds_toArray, List.set_cons_zero, List.set_cons_succ, i64_w, i32_w]
  rfl
 refine one_ (i := 2) (N := some 12) #[true, true, true, false, false, false] rfl rfl (by kernel_rfl) (by decide) (fun K hK => ?_)
 refine goes_ Try.func71 (by kernel_rfl) rfl #[.pointer (some ⟨g664, 0, none⟩), .int .i64 9] (by rfl) rfl rfl (ar__) ?_
 with_reducible refine (spec_l1Rd_pick.calls k g664 t662 t671 9 t673 t674 w _ ?side1 ?side2 A4.out).mono ?_
 (case side1 => repeat (first | (with_reducible first | exact HI664.out | apply IsS104.alloc | apply IsS104.drewN | apply IsS104.drew | apply IsS104.set_1 | refine IsS104.far ?_ NB664_661.out _ | refine IsS104.far ?_ NB664_672.out _) | exact HI664.out))
 (case side2 => repeat (first | (with_reducible first | exact HB.out | apply below_alloc | apply pw_below_drewN | apply below_drew1 | refine below_set ?_ (IsS104.ge HI664.out) | refine below_set ?_ GE661.out | refine below_set ?_ GE672.out) | exact HB.out))
 rintro e w16 ⟨rfl, hi, hb, hk⟩
 refine ⟨_, rfl, ?_⟩
 have n0_ := Aside0.mk (KeepBut.blk hk (g' := gb661) (o := .cells #[.slice none 0 0, .slice none 0 0] 30 (0, 0)) (blk__ BK661.out) NB661_664.out (by simp))
 have n1_ := Aside0.mk (Kd.R_mono (Kd.R_keep (IsS104.apart (show IsS104 w _ g664 t662 t671 from by repeat (first | (with_reducible first | exact HI664.out | apply IsS104.alloc | apply IsS104.drewN | apply IsS104.drew | apply IsS104.set_1 | refine IsS104.far ?_ NB664_661.out _ | refine IsS104.far ?_ NB664_672.out _) | exact HI664.out)) (rr__ HO667.out) (by decide)) hk (fun _ h => h.2)) (fun _ h => h.1))
 have n2_ := Aside0.mk (Kd.R_mono (Kd.R_keep (IsS104.apart (show IsS104 w _ g664 t662 t671 from by repeat (first | (with_reducible first | exact HI664.out | apply IsS104.alloc | apply IsS104.drewN | apply IsS104.drew | apply IsS104.set_1 | refine IsS104.far ?_ NB664_661.out _ | refine IsS104.far ?_ NB664_672.out _) | exact HI664.out)) (rr__ HO670.out) (by decide)) hk (fun _ h => h.2)) (fun _ h => h.1))
 have n3_ := Aside0.mk (KeepBut.blk hk (g' := gb672) (o := .cells #[.slice Ao9 t665.length co9, .slice Ao13 t668.length co13] 30 (0, 0)) (blk__ BK672.out) NB672_664.out (by simp))
 have n4_ := Aside0.mk (hb)
 have n5_ := Aside0.mk (hi)
 clear BK661
 clear HO667
 clear HO670
 clear BK672
 clear HB
 clear HI664
 have BK661 := n0_
 have HO667 := n1_
 have HO670 := n2_
 have BK672 := n3_
 have HB := n4_
 have HI664 := n5_
 clear n0_ n1_ n2_ n3_ n4_ n5_
 (try clear hb)
 (try clear hb2)
 (try clear hk)
 (try clear hi)
 refine hK.out _ _ ⟨(blk_cell BK672.out 0).trans rfl, (blk_cell BK672.out 1).trans rfl⟩ (fun hHeld => ?_)
 clear hK K
 refine na__ 12 ?_
 refine pure_ (i := 3) (N := some 13) (v := ?_) (a' := ?_) #[true, true, true, true, false, false] rfl rfl (by kernel_rfl) (fun _ _ _ h => h) (Or.inl ⟨by rfl, ?_⟩) ?_ ?_
 rotate_left
 ·intro w'
  go_simp
  with_reducible rfl
 rotate_left
 ·simp only [Act.put, List.setIfInBounds_toArray, List.set_cons_zero, List.set_cons_succ, i64_w, i32_w]
  rfl
 refine one_ (i := 4) (N := none) #[true, true, true, true, true, false] rfl rfl (by kernel_rfl) (by decide) (fun K hK => ?_)
 have hs17 : w16.cell? ⟨gb661, 0, none⟩ = some (.slice none 0 0) := (blk_cell BK661.out 0).trans rfl
 have hfs17 := blk_frozen BK661.out 0
 have hns17_1 := NB672_661.out
 have hms17_1 := NB661_672.out
 have hs18 : w16.cell? ⟨gb661, 1, none⟩ = some (.slice none 0 0) := (blk_cell BK661.out 1).trans rfl
 have hfs18 := blk_frozen BK661.out 1
 have hns18_1 := NB672_661.out
 have hms18_1 := NB661_672.out
 refine skip_ (w1 := ?_) (by rfl) rfl ?_ ?_
 rotate_left
 ·go_simp
  rfl
 refine hK.out _ _ ⟨((cell_far (p := ⟨gb661, _, none⟩) NB672_661.out _).trans (((cell_far (p := ⟨gb661, _, none⟩) NB672_661.out _).trans (hHeld.1)))), ((cell_far (p := ⟨gb661, _, none⟩) NB672_661.out _).trans (((cell_far (p := ⟨gb661, _, none⟩) NB672_661.out _).trans (hHeld.2))))⟩ (fun hHeld => ?_)
 clear hK K
 refine pure_ (i := 5) (N := some 3) (v := ?_) (a' := ?_) #[true, true, true, true, true, true] rfl rfl (by kernel_rfl) (fun _ _ _ h => h) (Or.inl ⟨by rfl, ?_⟩) ?_ ?_
 rotate_left
 ·intro w'
  go_simp
  with_reducible rfl
 rotate_left
 ·simp only [Act.put, List.setIfInBounds_toArray, List.set_cons_zero, List.set_cons_succ, i64_w, i32_w]
  rfl
 refine done_ (by kernel_rfl) ?_
 try go_wp2
 refine bodyPost_ret (results_ct rfl _ _ gb661 30 #[.slice Ao9 t665.length co9, .slice Ao13 t668.length co13] (0, 0) _ rfl (by (with_reducible repeat (first | refine blk_drewN ?_ _ | refine blk_drew ?_ | refine blk_alloc ?_ _)); refine blk_put (cs := #[.slice Ao9 t665.length co9, .slice none 0 0]) ?_ 1 _ rfl; (with_reducible repeat (first | refine blk_drewN ?_ _ | refine blk_drew ?_ | refine blk_alloc ?_ _)); refine blk_put (cs := #[.slice none 0 0, .slice none 0 0]) ?_ 0 _ rfl; (with_reducible repeat (first | refine blk_drewN ?_ _ | refine blk_drew ?_ | refine blk_alloc ?_ _)); exact BK661.out) Try.underlying30 rfl (by kernel_rfl)) rfl ?_
 exact ⟨_, _, by first | rfl | (simp [errW_none, errW_some] <;> rfl) | (simp [*, errW_none, errW_some] <;> rfl), by (with_reducible repeat (first | apply Kd.R_alloc | apply Kd.R_drewN | apply Kd.R_drew)); exact Kd.R_mono (Kd.R_far (p := ⟨gb661, 1, none⟩) (Kd.R_far (p := ⟨gb661, 0, none⟩) (Kd.R_types HO667.out BK661.out (by decide)) h2__ (.slice Ao9 t665.length co9)) h2__ (.slice Ao13 t668.length co13)) (fun _ hk => hk.1), by (with_reducible repeat (first | apply Kd.R_alloc | apply Kd.R_drewN | apply Kd.R_drew)); exact Kd.R_mono (Kd.R_far (p := ⟨gb661, 1, none⟩) (Kd.R_far (p := ⟨gb661, 0, none⟩) (Kd.R_types HO670.out BK661.out (by decide)) h2__ (.slice Ao9 t665.length co9)) h2__ (.slice Ao13 t668.length co13)) (fun _ hk => hk.1), by repeat (first | (with_reducible first | exact HB.out | apply below_alloc | apply pw_below_drewN | apply below_drew1 | refine below_set ?_ (IsS104.ge HI664.out) | refine below_set ?_ GE661.out | refine below_set ?_ GE672.out) | exact HB.out)⟩
end Go.Proofs.Ytpnblgbkjbpeoaa.P

namespace Go.Proofs.Ytpnblgbkjbpeoaa.P
open Go.RowKit Go.Proofs.YtpnblgbkjbpeoaaW.PrintWords Go.Proofs.YtpnblgbkjbpeoaaW.PrintLast Go.Proofs.YtpnblgbkjbpeoaaW.PrintMore
attribute [local go_sem] max2_int min2_int max_two min_two max_three min_three max_four min_four   -- for this text's walks alone
set_option linter.unusedVariables false
set_option linter.unusedSimpArgs false
/-! ### laws_wList: function 41 -/
def laws_wList.l0 : Nat → List ByteArray → List ByteArray → Int → Option (Bool)
 | 0, _, _, _ => none
 | k + 1, x0, x1, x5 => if x5 < (x0.length : Int) then (if 0 ≤ x5 then (if x5 < (x1.length : Int) then (if (rdOf ByteArray.empty x0 x5).toList = (rdOf ByteArray.empty x1 x5).toList then (laws_wList.l0 k x0 x1 (wrap64 (x5 + 1))) else (some false)) else (none)) else (none)) else (some true)
def laws_wList.f (k : Nat) (l0 : List ByteArray) (l1 : List ByteArray) : Option (Bool) := if (l0.length : Int) = (l1.length : Int) then (laws_wList.l0 k l0 l1 0) else (some false)
set_option maxHeartbeats 8000000 in
set_option maxRecDepth 100000 in
theorem laws_wList.calls (k : Nat) (A0 : Option Addr) (c0 : Nat) (l0 : List ByteArray) (A1 : Option Addr) (c1 : Nat) (l1 : List ByteArray) (r : Bool) (w : World) (hr0 : Kd.C Kd.string w A0 l0.length l0) (hc0 : l0.length ≤ c0) (hr1 : Kd.C Kd.string w A1 l1.length l1) (hc1 : l1.length ≤ c1) (h : laws_wList.f k l0 l1 = some r) :
  Calls Try.prog 41 #[.slice A0 l0.length c0, .slice A1 l1.length c1] w fun e w' => e = .returned (.bool r) ∧ Drawn0 w w' := by
 have HR0 := Aside0.mk hr0
 have HC0 := Aside0.mk hc0
 clear hr0 hc0
 have HR1 := Aside0.mk hr1
 have HC1 := Aside0.mk hc1
 clear hr1 hc1
 have H : (if (l0.length : Int) = (l1.length : Int) then (laws_wList.l0 k l0 l1 0) else (some false)) = some r := h
 clear h
 by_cases c3 : (l0.length : Int) = (l1.length : Int)
 ·rw [if_pos c3] at H
  have c3b0 : ((l0.length : Int) == (l1.length : Int)) = true := beq_iff_eq.mpr c3
  have c3b1 : ((l0.length : Int) != (l1.length : Int)) = false := bne_eq_false_iff_eq.mpr c3
  have c3b2 : (l0.length == l1.length) = true := by first | simpa using c3 | (simp at c3 ⊢; omega)
  clear c3
  have H' := Aside0.mk H
  clear H
  go_enter Try.func41, Try.ntmps41
  go_wp2
  repeat (go_quiet (fail); try go_wp2)
  go_loopg [5] k (fun kq v5 w' => ∃ (x5_1 : Int), v5 = .int .i64 x5_1 ∧ Aside0 (laws_wList.l0 kq l0 l1 x5_1 = some r) ∧ Aside0 (kq ≤ k) ∧ Drawn0 w w')
  case atStart => exact ⟨(0), (rf__), H', ⟨Nat.le_refl _⟩, by repeat (first | exact Drawn0.refl _ | apply Drawn0.step)⟩
  case round =>
   clear H'
   try clear c1
   try clear p2
   try clear c3
   try clear c3b0
   try clear c3b1
   try clear c3b2
   obtain ⟨x5_1, rfl, HA, HK1, ⟨m1, rfl⟩⟩ := hrel
   cases gk with
   | zero => exact absurd HA.out (by simp [laws_wList.l0])
   | succ k1 =>
    have H := HA.out
    clear HA
    simp only [laws_wList.l0] at H
    by_cases c4 : x5_1 < (l0.length : Int)
    ·rw [if_pos c4] at H
     have c4b0 : decide (x5_1 < (l0.length : Int)) = true := decide_eq_true c4
     clear c4
     by_cases c5 : 0 ≤ x5_1
     ·rw [if_pos c5] at H
      have c5b0 : decide (0 ≤ x5_1) = true := decide_eq_true c5
      clear c5
      by_cases c6 : x5_1 < (l1.length : Int)
      ·rw [if_pos c6] at H
       have c6b0 : decide (x5_1 < (l1.length : Int)) = true := decide_eq_true c6
       clear c6
       by_cases c7 : (rdOf ByteArray.empty l0 x5_1).toList = (rdOf ByteArray.empty l1 x5_1).toList
       ·rw [if_pos c7] at H
        have c7b0 : ((rdOf ByteArray.empty l0 x5_1).toList == (rdOf ByteArray.empty l1 x5_1).toList) = true := beq_iff_eq.mpr c7
        have c7b1 : ((rdOf ByteArray.empty l0 x5_1).toList != (rdOf ByteArray.empty l1 x5_1).toList) = false := bne_eq_false_iff_eq.mpr c7
        clear c7
        have H' := Aside0.mk H
        clear H
        have p675 : 0 ≤ (x5_1 : Int) := of_decide_eq_true (by first | (with_reducible assumption) | assumption)
        have q675 : x5_1 < (l0.length : Int) := of_decide_eq_true (by first | (with_reducible assumption) | assumption)
        obtain ⟨ad675, e675, hx675_0⟩ := Kd.at_string HR0.out x5_1 p675 q675
        cases e675
        replace p675 := eq_true p675
        replace q675 := eq_true q675
        have p676 : 0 ≤ (x5_1 : Int) := of_decide_eq_true (by first | (with_reducible assumption) | assumption)
        have q676 : x5_1 < (l1.length : Int) := of_decide_eq_true (by first | (with_reducible assumption) | assumption)
        obtain ⟨ad676, e676, hx676_0⟩ := Kd.at_string HR1.out x5_1 p676 q676
        cases e676
        replace p676 := eq_true p676
        replace q676 := eq_true q676
        go_wp2
        repeat (go_quiet (fail); try go_wp2)
        go_roundg k1
        case measure => have := HK1.out; omega
        case rel => exact ⟨(wrap64 (x5_1 + 1)), (rf__), H', ⟨by have := HK1.out; omega⟩, by repeat (first | exact Drawn0.refl _ | apply Drawn0.step)⟩
       ·rw [if_neg c7] at H
        have c7b0 : ((rdOf ByteArray.empty l0 x5_1).toList == (rdOf ByteArray.empty l1 x5_1).toList) = false := beq_eq_false_iff_ne.mpr c7
        have c7b1 : ((rdOf ByteArray.empty l0 x5_1).toList != (rdOf ByteArray.empty l1 x5_1).toList) = true := bne_iff_ne.mpr c7
        obtain rfl := Option.some.inj H
        have p675 : 0 ≤ (x5_1 : Int) := of_decide_eq_true (by first | (with_reducible assumption) | assumption)
        have q675 : x5_1 < (l0.length : Int) := of_decide_eq_true (by first | (with_reducible assumption) | assumption)
        obtain ⟨ad675, e675, hx675_0⟩ := Kd.at_string HR0.out x5_1 p675 q675
        cases e675
        replace p675 := eq_true p675
        replace q675 := eq_true q675
        have p676 : 0 ≤ (x5_1 : Int) := of_decide_eq_true (by first | (with_reducible assumption) | assumption)
        have q676 : x5_1 < (l1.length : Int) := of_decide_eq_true (by first | (with_reducible assumption) | assumption)
        obtain ⟨ad676, e676, hx676_0⟩ := Kd.at_string HR1.out x5_1 p676 q676
        cases e676
        replace p676 := eq_true p676
        replace q676 := eq_true q676
        go_wp2
        repeat (go_quiet (fail); try go_wp2)
        go_ret
        exact ⟨by first | rfl | (simp; done) | (simp [*]; done), by repeat (first | exact Drawn0.refl _ | apply Drawn0.step)⟩
      ·rw [if_neg c6] at H
       exact absurd H (by simp)
     ·rw [if_neg c5] at H
      exact absurd H (by simp)
    ·rw [if_neg c4] at H
     have c4b0 : decide (x5_1 < (l0.length : Int)) = false := decide_eq_false c4
     clear c4
     obtain rfl := Option.some.inj H
     go_wp2
     repeat (go_quiet (fail); try go_wp2)
     go_ret
     exact ⟨by first | rfl | (simp; done) | (simp [*]; done), by repeat (first | exact Drawn0.refl _ | apply Drawn0.step)⟩
 ·rw [if_neg c3] at H
  have c3b0 : ((l0.length : Int) == (l1.length : Int)) = false := beq_eq_false_iff_ne.mpr c3
  have c3b1 : ((l0.length : Int) != (l1.length : Int)) = true := bne_iff_ne.mpr c3
  have c3b2 : (l0.length == l1.length) = false := by first | simpa using c3 | (simp at c3 ⊢; omega)
  obtain rfl := Option.some.inj H
  go_enter Try.func41, Try.ntmps41
  go_wp2
  repeat (go_quiet (fail); try go_wp2)
  go_ret
  exact ⟨by first | rfl | (simp; done) | (simp [*]; done), by repeat (first | exact Drawn0.refl _ | apply Drawn0.step)⟩
end Go.Proofs.Ytpnblgbkjbpeoaa.P

namespace Go.Proofs.Ytpnblgbkjbpeoaa.P
open Go.RowKit Go.Proofs.YtpnblgbkjbpeoaaW.PrintWords Go.Proofs.YtpnblgbkjbpeoaaW.PrintLast Go.Proofs.YtpnblgbkjbpeoaaW.PrintMore
attribute [local go_sem] max2_int min2_int max_two min_two max_three min_three max_four min_four   -- for this text's walks alone
set_option linter.unusedVariables false
set_option linter.unusedSimpArgs false
/-! ### laws_FnLog: function 11 -/
mutual
def laws_FnLog.j0 : Nat → ByteArray → Int → List ByteArray → List ByteArray → Option (Bool)
 | 0, _, _, _, _ => none
 | k + 1, x4, x6, x685000, x685001 => (impl_Append.f k x685000 x685001 x4).bind fun bt693 => ((spec_Append.f k x685000 x685001 x4).bind fun bt701 => (if bt693.2.2 = bt701.2.2 then ((laws_wList.f k bt693.1 bt701.1).bind fun t709 => (if t709 = true then ((laws_wList.f k bt693.2.1 bt701.2.1).bind fun t710 => (laws_FnLog.j1 k x6 bt693.2.2 (!t710) x685000 x685001 bt693.1 bt693.2.1)) else (laws_FnLog.j1 k x6 bt693.2.2 true x685000 x685001 bt693.1 bt693.2.1))) else (laws_FnLog.j1 k x6 bt693.2.2 true x685000 x685001 bt693.1 bt693.2.1)))
def laws_FnLog.j1 : Nat → Int → Int → Bool → List ByteArray → List ByteArray → List ByteArray → List ByteArray → Option (Bool)
 | 0, _, _, _, _, _, _, _ => none
 | k + 1, x6, x8, x58, x685000, x685001, x701000, x701001 => if x58 = true then (none) else (if x8 = 0 then ((impl_Crash.f k x701000 x701001 x6).bind fun bt713 => ((impl_Sync.f k x701000 x701001).bind fun bt720 => ((impl_Crash.f k bt720.1 bt720.2 x6).bind fun bt727 => ((some (([] : List ByteArray) : List ByteArray)).bind fun y734 => (if y734.length + x685000.length < 8796093022208 then ((some (y734 ++ x685000 : List ByteArray)).bind fun y737 => (if y737.length + x701001.length < 8796093022208 then ((some (y737 ++ x701001 : List ByteArray)).bind fun y740 => (if (wrap64 ((wrap64 ((bt713.2.length : Int) + (bt720.2.length : Int))) + (bt727.2.length : Int))) > 0 then (laws_FnLog.j2 k x6 y740 true x685000 x685001 x701000 x701001 bt713.1 bt713.2) else (if (bt713.1.length : Int) < (x685000.length : Int) then (laws_FnLog.j2 k x6 y740 true x685000 x685001 x701000 x701001 bt713.1 bt713.2) else (if (bt713.1.length : Int) > (y740.length : Int) then (laws_FnLog.j2 k x6 y740 true x685000 x685001 x701000 x701001 bt713.1 bt713.2) else ((laws_wList.f k bt720.1 y740).bind fun t743 => (if t743 = true then ((laws_wList.f k bt727.1 y740).bind fun t744 => (laws_FnLog.j2 k x6 y740 (!t744) x685000 x685001 x701000 x701001 bt713.1 bt713.2)) else (laws_FnLog.j2 k x6 y740 true x685000 x685001 x701000 x701001 bt713.1 bt713.2))))))) else (none))) else (none)))))) else ((impl_ValidLog.f k x685000 x685001).bind fun t711 => ((spec_ValidLog.f k x685000 x685001).bind fun t712 => (some (t711 == t712)))))
def laws_FnLog.j2 : Nat → Int → List ByteArray → Bool → List ByteArray → List ByteArray → List ByteArray → List ByteArray → List ByteArray → List ByteArray → Option (Bool)
 | 0, _, _, _, _, _, _, _, _, _ => none
 | k + 1, x6, x14, x123, x685000, x685001, x701000, x701001, x720000, x720001 => if x123 = true then (none) else (if 0 ≤ (x720000.length : Int) then (if (x720000.length : Int) ≤ (x14.length : Int) then ((laws_wList.f k x720000 (x14.take ((x720000.length : Int) : Int).toNat)).bind fun t749 => (if t749 = true then (if x6 < 0 then (some true) else (if x6 > (x701001.length : Int) then (some true) else (some ((x720000.length : Int) == (wrap64 ((x685000.length : Int) + x6)))))) else (none))) else (none)) else (none))
end
def laws_FnLog.f (k : Nat) (l0 : List Int) : Option (Bool) := if (l0.length : Int) > 1048576 then (some true) else ((spec_DrawAppend.f k l0).bind fun bt677 => ((spec_DrawCrash.f k l0).bind fun bt685 => (laws_FnLog.j0 k bt677.2.2 bt685.2.2 bt677.1 bt677.2.1)))
def laws_FnLog.T14 : Bool × List (List Nat × List Nat) := (true, [([], []), ([], []), ([1], [1]), ([0, 2], [0, 2]), ([], []), ([4], [4]), ([3, 5, 3], [3, 5]), ([6, 6, 0, 1, 2, 3, 4, 5, 6], [6])])
def laws_FnLog.B14 : List Nat := [0, 0, 2, 7, 0, 16, 63, 127]
theorem laws_FnLog.tab14 : rtab .any (opsOf Try.f11 14) = laws_FnLog.T14 := by kernel_rfl
theorem laws_FnLog.bits14 : waitsOk laws_FnLog.T14.2 laws_FnLog.B14 = true := by kernel_rfl
def laws_FnLog.T17 : Bool × List (List Nat × List Nat) := (true, [([], []), ([0], [0]), ([], []), ([], []), ([3], [3]), ([4], [4]), ([2, 5], [2, 5]), ([1, 6], [1, 6]), ([7, 7], [7]), ([8], [8]), ([9, 8], [8, 9]), ([10, 8, 8], [8, 10]), ([11], [11]), ([11], [11]), ([13, 11], [11, 13]), ([14, 11], [11, 14]), ([12, 15, 11], [11, 12, 15]), ([11, 16, 8], [8, 11, 16]), ([17, 11, 8], [8, 17]), ([18], [18]), ([19, 18], [18, 19]), ([20, 18], [18, 20]), ([18], [18]), ([22, 18], [18, 22]), ([23, 18], [18, 23]), ([18], [18]), ([24, 25, 18], [18, 24, 25]), ([21, 26, 18], [18, 21, 26]), ([18, 27, 8], [8, 18, 27]), ([8, 28], [8, 28]), ([29, 18, 0, 1, 2, 3, 4, 5, 6, 7, 8, 9, 10, 11, 12, 13, 14, 15, 16, 17, 18, 19, 20, 21, 22, 23, 24, 25, 26, 27, 28, 29], [29])])
def laws_FnLog.B17 : List Nat := [0, 1, 0, 0, 8, 24, 60, 127, 255, 511, 1023, 2047, 4095, 4095, 12287, 28671, 65535, 131071, 262143, 524287, 1048575, 2097151, 524287, 4718591, 13107199, 524287, 63438847, 134217727, 268435455, 536870911, 1073741823]
theorem laws_FnLog.tab17 : rtab .any (opsOf Try.f11 17) = laws_FnLog.T17 := by kernel_rfl
theorem laws_FnLog.bits17 : waitsOk laws_FnLog.T17.2 laws_FnLog.B17 = true := by kernel_rfl
end Go.Proofs.Ytpnblgbkjbpeoaa.P
