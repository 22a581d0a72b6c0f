/- Part 4 of the proof of FnLogSaid: what it leans on. -/
import Derived.Test.YtpnblgbkjbpeoaaM1
import Derived.Test.YtpnblgbkjbpeoaaM2
import Derived.Test.YtpnblgbkjbpeoaaM3

namespace Go.Proofs.Ytpnblgbkjbpeoaa.P
open Go.RowKit Go.Proofs.YtpnblgbkjbpeoaaW.PrintWords Go.Proofs.YtpnblgbkjbpeoaaW.PrintLast Go.Proofs.YtpnblgbkjbpeoaaW.PrintMore
attribute [local go_sem] max2_int min2_int max_two min_two max_three min_three max_four min_four   -- for this text's walks alone
set_option linter.unusedVariables false
set_option linter.unusedSimpArgs false
set_option maxHeartbeats 8000000 in
set_option maxRecDepth 100000 in
theorem laws_FnLog.calls (k : Nat) (A0 : Option Addr) (c0 : Nat) (l0 : List Int) (r : Bool) (w : World) (hr0 : Kd.C (Kd.int .u8) w A0 l0.length l0) (hc0 : l0.length ≤ c0) (h : laws_FnLog.f k l0 = some r) :
  Calls Try.prog 11 #[.slice A0 l0.length c0] w fun e w' => e = .returned (.bool r) ∧ Below w.heap.size w w' := by
 have hu30 := Try.underlying30
 have HR0 := Aside0.mk hr0
 have HC0 := Aside0.mk hc0
 clear hr0 hc0
 have HB := Aside0.mk (Below.refl w.heap.size w)
 have H : (if (l0.length : Int) > 1048576 then (some true) else ((spec_DrawAppend.f k l0).bind fun bt677 => ((spec_DrawCrash.f k l0).bind fun bt685 => (laws_FnLog.j0 k bt677.2.2 bt685.2.2 bt677.1 bt677.2.1)))) = some r := h
 clear h
 by_cases c2 : (l0.length : Int) > 1048576
 ·rw [if_pos c2] at H
  have c2b0 : decide (1048576 < (l0.length : Int)) = true := decide_eq_true c2
  have c2b1 : decide (1048576 < l0.length) = true := decide_eq_true (by omega)
  clear c2
  obtain rfl := Option.some.inj H
  go_enter Try.func11, Try.ntmps11
  go_wp2
  go_ret
  exact ⟨by first | rfl | (simp [errW_none, errW_some] <;> rfl) | (simp [*, errW_none, errW_some] <;> rfl), bel__⟩
 ·rw [if_neg c2] at H
  have c2b0 : decide (1048576 < (l0.length : Int)) = false := decide_eq_false c2
  have c2b1 : decide (1048576 < l0.length) = false := decide_eq_false (by omega)
  clear c2
  replace H := Option.bind_eq_some_iff.mp H
  obtain ⟨⟨t677, t680, t683⟩, A30, H⟩ := H
  replace H : ((spec_DrawCrash.f k l0).bind fun bt685 => (laws_FnLog.j0 k t683 bt685.2.2 t677 t680)) = some r := H
  have A3 := Aside0.mk A30
  clear A30
  have HC4 := Aside0.mk H
  clear H
  go_enter Try.func11, Try.ntmps11
  go_upto_region 4 with (first | ((with_reducible refine gate_callee (f := 39) rfl ?_); refine goesL_ (some 20) rfl rfl Try.func39 (by kernel_rfl) rfl #[.slice A0 l0.length c0] rfl (ar__) ?_; (with_reducible refine (spec_DrawAppend.calls k _ _ l0 t677 t680 t683 _ ?side1 ?side2 A3.out).mono ?_); (case side1 => repeat (first | exact HR0.out | (with_reducible refine Kd.C_alloc ?_ _) | (with_reducible refine Kd.C_drewN ?_ _) | (with_reducible refine Kd.C_drew ?_))); (case side2 => exact HC0.out); rintro e w5 ⟨v678, v681, rfl, ho0, ho1, hb⟩; refine ⟨_, rfl, ?_⟩; have n0_ := Aside0.mk (Kd.R_lower ho0 (below_size (bel__))); have n1_ := Aside0.mk (Kd.R_lower ho1 (below_size (bel__))); have n2_ := Aside0.mk (below_step (bel__) hb); clear HB; have HO679 := n0_; have HO682 := n1_; have HB := n2_; clear n0_ n1_ n2_; (try clear hb); (try clear hb2); (try clear hk); (try clear hi); (try clear ho0); (try clear ho1)) | ((with_reducible refine gate_dst (N := 3) rfl ?_); (try (refine gate_guard (by rfl) ?_; dsimp only)); refine box_event ?hg (N := 3) ?hd (cs := #[.slice none 0 0, .slice none 0 0]) (t := 30) ?hr ?_; (case hd => rfl); (case hg => rfl); (case hr => first | (go_simp; done) | (go_simp; rfl)); intro gb684 hg w6 hbox hb; have n0_ := Aside0.mk (Kd.R_below (rr__ HO679.out) hb); have n1_ := Aside0.mk (Kd.R_below (rr__ HO682.out) hb); have n2_ := Aside0.mk (below_step (bel__) hb); have n3_ := Aside0.mk (hbox); have n4_ := Aside0.mk ((by rw [hg]; exact (below_size (bel__)) : w.heap.size ≤ gb684)); have n5_ := Aside0.mk ((by rw [hg]; exact (below_size (bel__)) : w.heap.size ≤ gb684)); clear HO679; clear HO682; clear HB; have HO679 := n0_; have HO682 := n1_; have HB := n2_; have BK684 := n3_; have GW684 := n4_; have GE684 := n5_; clear n0_ n1_ n2_ n3_ n4_ n5_; clear hb hbox hg; obtain ⟨Ao7, co7, eo7⟩ := Kd.R_slice HO679.out; subst eo7; have hcz8_0 : w6.cell? ⟨gb684, 0, none⟩ = some (.slice none 0 0) := (blk_cell BK684.out 0).trans rfl; have hcz8_1 : w6.cell? ⟨gb684, 1, none⟩ = some (.slice none 0 0) := (blk_cell BK684.out 1).trans rfl; have hfz8_0 := blk_frozen BK684.out 0; have hfz8_1 := blk_frozen BK684.out 1; obtain ⟨Ao9, co9, eo9⟩ := Kd.R_slice HO682.out; subst eo9))
  (try simp only [Act.put, List.setIfInBounds_toArray, List.set_cons_zero, List.set_cons_succ])
  go_cut [6] (fun v6 wc => ∃ (kq : Nat) (x6_3 : Int), v6 = .int .i64 x6_3 ∧ Aside0 (laws_FnLog.j0 kq t683 x6_3 t677 t680 = some r) ∧ Aside0 (kq ≤ k) ∧ Aside0 (Kd.R Kd.string 9 wc w.heap.size (fun k_ => some k_ ≠ (ob__ Ao9 t680.length co9)) (.slice Ao7 t677.length co7) t677) ∧ Aside0 (Kd.R Kd.string 9 wc w.heap.size (fun k_ => some k_ ≠ (ob__ Ao7 t677.length co7)) (.slice Ao9 t680.length co9) t680) ∧ Aside0 (wc.heap[gb684]? = some (.cells #[(.slice Ao7 t677.length co7), (.slice Ao9 t680.length co9)] 30 (0, 0))) ∧ Aside0 (Below w.heap.size w wc))
  case first =>
   have H := HC4.out
   clear HC4
   replace H := Option.bind_eq_some_iff.mp H
   obtain ⟨⟨t685, t688, t691⟩, A100, H⟩ := H
   replace H : (laws_FnLog.j0 k t683 t691 t677 t680) = some r := H
   have A10 := Aside0.mk A100
   clear A100
   have H' := Aside0.mk H
   clear H
   go_wp2_with (first | ((with_reducible refine gate_callee (f := 40) rfl ?_); refine goesL_ (some 25) rfl rfl Try.func40 (by kernel_rfl) rfl #[.slice A0 l0.length c0] rfl (ar__) ?_; (with_reducible refine (spec_DrawCrash.calls k _ _ l0 t685 t688 t691 _ ?side1 ?side2 A10.out).mono ?_); (case side1 => exact Kd.C_below HR0.out (bel__)); (case side2 => exact HC0.out); rintro e w11 ⟨v686, v689, rfl, ho0, ho1, hb⟩; refine ⟨_, rfl, ?_⟩; have n0_ := Aside0.mk (Kd.R_mono (Kd.R_told (Kd.R_told (Kd.R_old (by (with_reducible repeat (first | apply Kd.R_alloc | apply Kd.R_drewN | apply Kd.R_drew)); exact (Kd.R_mono (Kd.R_far (p := ⟨gb684, 1, none⟩) (Kd.R_far (p := ⟨gb684, 0, none⟩) (Kd.R_types HO679.out BK684.out (by decide)) h2__ (.slice Ao7 t677.length co7)) h2__ (.slice Ao9 t680.length co9)) h1__)) hb) (Kd.R_base ho0)) (Kd.R_base ho1)) h1__); have n1_ := Aside0.mk (Kd.R_mono (Kd.R_told (Kd.R_told (Kd.R_old (by (with_reducible repeat (first | apply Kd.R_alloc | apply Kd.R_drewN | apply Kd.R_drew)); exact (Kd.R_mono (Kd.R_far (p := ⟨gb684, 1, none⟩) (Kd.R_far (p := ⟨gb684, 0, none⟩) (Kd.R_types HO682.out BK684.out (by decide)) h2__ (.slice Ao7 t677.length co7)) h2__ (.slice Ao9 t680.length co9)) h1__)) hb) (Kd.R_base ho0)) (Kd.R_base ho1)) h1__); have n2_ := Aside0.mk (Kd.R_lower (Kd.R_new' (Kd.R_new' ho0 (Kd.R_lt (by (with_reducible repeat (first | apply Kd.R_alloc | apply Kd.R_drewN | apply Kd.R_drew)); exact (Kd.R_mono (Kd.R_far (p := ⟨gb684, 1, none⟩) (Kd.R_far (p := ⟨gb684, 0, none⟩) (Kd.R_types HO679.out BK684.out (by decide)) h2__ (.slice Ao7 t677.length co7)) h2__ (.slice Ao9 t680.length co9)) h1__)))) (Kd.R_lt (by (with_reducible repeat (first | apply Kd.R_alloc | apply Kd.R_drewN | apply Kd.R_drew)); exact (Kd.R_mono (Kd.R_far (p := ⟨gb684, 1, none⟩) (Kd.R_far (p := ⟨gb684, 0, none⟩) (Kd.R_types HO682.out BK684.out (by decide)) h2__ (.slice Ao7 t677.length co7)) h2__ (.slice Ao9 t680.length co9)) h1__)))) (below_size (bel__))); have n3_ := Aside0.mk (Kd.R_lower (Kd.R_new' (Kd.R_new' ho1 (Kd.R_lt (by (with_reducible repeat (first | apply Kd.R_alloc | apply Kd.R_drewN | apply Kd.R_drew)); exact (Kd.R_mono (Kd.R_far (p := ⟨gb684, 1, none⟩) (Kd.R_far (p := ⟨gb684, 0, none⟩) (Kd.R_types HO679.out BK684.out (by decide)) h2__ (.slice Ao7 t677.length co7)) h2__ (.slice Ao9 t680.length co9)) h1__)))) (Kd.R_lt (by (with_reducible repeat (first | apply Kd.R_alloc | apply Kd.R_drewN | apply Kd.R_drew)); exact (Kd.R_mono (Kd.R_far (p := ⟨gb684, 1, none⟩) (Kd.R_far (p := ⟨gb684, 0, none⟩) (Kd.R_types HO682.out BK684.out (by decide)) h2__ (.slice Ao7 t677.length co7)) h2__ (.slice Ao9 t680.length co9)) h1__)))) (below_size (bel__))); have n4_ := Aside0.mk (blk_below (g := gb684) (o := .cells #[.slice Ao7 t677.length co7, .slice Ao9 t680.length co9] 30 (0, 0)) (by (with_reducible repeat (first | refine blk_drewN ?_ _ | refine blk_drew ?_ | refine blk_alloc ?_ _)); refine blk_put (cs := #[.slice Ao7 t677.length co7, .slice none 0 0]) ?_ 1 _ rfl; (with_reducible repeat (first | refine blk_drewN ?_ _ | refine blk_drew ?_ | refine blk_alloc ?_ _)); refine blk_put (cs := #[.slice none 0 0, .slice none 0 0]) ?_ 0 _ rfl; (with_reducible repeat (first | refine blk_drewN ?_ _ | refine blk_drew ?_ | refine blk_alloc ?_ _)); exact BK684.out) hb); have n5_ := Aside0.mk (below_step (bel__) hb); clear HO679; clear HO682; clear BK684; clear HB; have HO679 := n0_; have HO682 := n1_; have HO687 := n2_; have HO690 := n3_; have BK684 := n4_; have HB := n5_; clear n0_ n1_ n2_ n3_ n4_ n5_; (try clear hb); (try clear hb2); (try clear hk); (try clear hi); (try clear ho0); (try clear ho1)) | ((with_reducible refine gate_dst (N := 5) rfl ?_); (try (refine gate_guard (by rfl) ?_; dsimp only)); refine box_event ?hg (N := 5) ?hd (cs := #[.slice none 0 0, .slice none 0 0]) (t := 30) ?hr ?_; (case hd => rfl); (case hg => rfl); (case hr => first | (go_simp; done) | (go_simp; rfl)); intro gb692 hg w12 hbox hb; have n0_ := Aside0.mk (Kd.R_below (rr__ HO679.out) hb); have n1_ := Aside0.mk (Kd.R_below (rr__ HO682.out) hb); have n2_ := Aside0.mk (Kd.R_below (rr__ HO687.out) hb); have n3_ := Aside0.mk (Kd.R_below (rr__ HO690.out) hb); have n4_ := Aside0.mk (blb__ BK684.out hb); have n5_ := Aside0.mk (below_step (bel__) hb); have n6_ := Aside0.mk (hbox); have n7_ := Aside0.mk ((by rw [hg]; exact (below_size (bel__)) : w.heap.size ≤ gb692)); have n8_ := Aside0.mk ((by rw [hg]; exact (below_size (bel__)) : w.heap.size ≤ gb692)); have n9_ := Aside0.mk ((nl__ hg BK684.out : gb684 ≠ gb692)); have n10_ := Aside0.mk ((ng__ hg BK684.out : gb692 ≠ gb684)); clear HO679; clear HO682; clear HO687; clear HO690; clear BK684; clear HB; have HO679 := n0_; have HO682 := n1_; have HO687 := n2_; have HO690 := n3_; have BK684 := n4_; have HB := n5_; have BK692 := n6_; have GW692 := n7_; have GE692 := n8_; have NB684_692 := n9_; have NB692_684 := n10_; clear n0_ n1_ n2_ n3_ n4_ n5_ n6_ n7_ n8_ n9_ n10_; clear hb hbox hg; obtain ⟨Ao13, co13, eo13⟩ := Kd.R_slice HO687.out; subst eo13; have hnb14 := NB692_684.out; have hnc14 := NB684_692.out; have hcz15_0 : w12.cell? ⟨gb692, 0, none⟩ = some (.slice none 0 0) := (blk_cell BK692.out 0).trans rfl; have hcz15_1 : w12.cell? ⟨gb692, 1, none⟩ = some (.slice none 0 0) := (blk_cell BK692.out 1).trans rfl; have hfz15_0 := blk_frozen BK692.out 0; have hfz15_1 := blk_frozen BK692.out 1; obtain ⟨Ao16, co16, eo16⟩ := Kd.R_slice HO690.out; subst eo16))
   go_meet
   case rel => exact ⟨_, (t691), (rf__), H', ⟨by first | omega | exact Nat.le_refl _⟩, ⟨by (with_reducible repeat (first | apply Kd.R_alloc | apply Kd.R_drewN | apply Kd.R_drew)); exact Kd.R_mono (Kd.R_far (p := ⟨gb692, 1, none⟩) (Kd.R_far (p := ⟨gb692, 0, none⟩) (Kd.R_types HO679.out BK692.out (by decide)) h2__ (.slice Ao13 t685.length co13)) h2__ (.slice Ao16 t688.length co16)) (fun _ hk => hk.1.1.1)⟩, ⟨by (with_reducible repeat (first | apply Kd.R_alloc | apply Kd.R_drewN | apply Kd.R_drew)); exact Kd.R_mono (Kd.R_far (p := ⟨gb692, 1, none⟩) (Kd.R_far (p := ⟨gb692, 0, none⟩) (Kd.R_types HO682.out BK692.out (by decide)) h2__ (.slice Ao13 t685.length co13)) h2__ (.slice Ao16 t688.length co16)) (fun _ hk => hk.1.1.1)⟩, ⟨by (with_reducible repeat (first | refine blk_drewN ?_ _ | refine blk_drew ?_ | refine blk_alloc ?_ _)); refine blk_far ?_ NB684_692.out _; (with_reducible repeat (first | refine blk_drewN ?_ _ | refine blk_drew ?_ | refine blk_alloc ?_ _)); refine blk_far ?_ NB684_692.out _; (with_reducible repeat (first | refine blk_drewN ?_ _ | refine blk_drew ?_ | refine blk_alloc ?_ _)); exact BK684.out⟩, ⟨bel__⟩⟩
  case rest =>
   clear HC4
   try clear c1
   try clear c2
   try clear c2b0
   try clear c2b1
   try clear p2
   try clear c3
   try clear c4
   try clear c11
   try clear c14
   try clear hcz15_0
   try clear hcz15_1
   try clear hcz8_0
   try clear hcz8_1
   try clear hfz15_0
   try clear hfz15_1
   try clear hfz8_0
   try clear hfz8_1
   obtain ⟨kq, x6_3, rfl, HA, HJ3, HO_685000, HO_685001, BK684, HB⟩ := hcut
   cases kq with
   | zero => exact absurd HA.out (by simp [laws_FnLog.j0])
   | succ kj3 =>
    have H := HA.out
    clear HA
    simp only [laws_FnLog.j0] at H
    replace H := Option.bind_eq_some_iff.mp H
    obtain ⟨⟨t693, t696, t699⟩, A170, H⟩ := H
    replace H : ((spec_Append.f kj3 t677 t680 t683).bind fun bt701 => (if t699 = bt701.2.2 then ((laws_wList.f kj3 t693 bt701.1).bind fun t709 => (if t709 = true then ((laws_wList.f kj3 t696 bt701.2.1).bind fun t710 => (laws_FnLog.j1 kj3 x6_3 t699 (!t710) t677 t680 t693 t696)) else (laws_FnLog.j1 kj3 x6_3 t699 true t677 t680 t693 t696))) else (laws_FnLog.j1 kj3 x6_3 t699 true t677 t680 t693 t696))) = some r := H
    have A17 := Aside0.mk A170
    clear A170
    replace H := Option.bind_eq_some_iff.mp H
    obtain ⟨⟨t701, t704, t707⟩, A180, H⟩ := H
    replace H : (if t699 = t707 then ((laws_wList.f kj3 t693 t701).bind fun t709 => (if t709 = true then ((laws_wList.f kj3 t696 t704).bind fun t710 => (laws_FnLog.j1 kj3 x6_3 t699 (!t710) t677 t680 t693 t696)) else (laws_FnLog.j1 kj3 x6_3 t699 true t677 t680 t693 t696))) else (laws_FnLog.j1 kj3 x6_3 t699 true t677 t680 t693 t696)) = some r := H
    have A18 := Aside0.mk A180
    clear A180
    have HC19 := Aside0.mk H
    clear H
    have hcz20_0 : wc.cell? ⟨gb684, 0, none⟩ = some (.slice Ao7 t677.length co7) := (blk_cell BK684.out 0).trans rfl
    have hcz20_1 : wc.cell? ⟨gb684, 1, none⟩ = some (.slice Ao9 t680.length co9) := (blk_cell BK684.out 1).trans rfl
    have hfz20_0 := blk_frozen BK684.out 0
    have hfz20_1 := blk_frozen BK684.out 1
    go_upto_region 7 with (first | ((with_reducible refine gate_callee (f := 38) rfl ?_); refine goesL_ (some 31) rfl rfl Try.func38 (by kernel_rfl) rfl #[.agg #[.slice Ao7 t677.length co7, .slice Ao9 t680.length co9], .string t683] rfl (ar__) ?_; (with_reducible refine (impl_Append.calls kj3 _ _ t677 _ _ t680 t683 t693 t696 t699 _ ?side1 ?side2 ?side3 ?side4 A17.out).mono ?_); (case side1 => repeat (first | exact (Kd.R_reads' HO_685000.out).2.2 | (with_reducible refine Kd.C_alloc ?_ _) | (with_reducible refine Kd.C_drewN ?_ _) | (with_reducible refine Kd.C_drew ?_))); (case side2 => exact (Kd.R_reads' HO_685000.out).2.1); (case side3 => repeat (first | exact (Kd.R_reads' HO_685001.out).2.2 | (with_reducible refine Kd.C_alloc ?_ _) | (with_reducible refine Kd.C_drewN ?_ _) | (with_reducible refine Kd.C_drew ?_))); (case side4 => exact (Kd.R_reads' HO_685001.out).2.1); rintro e w21 ⟨v694, v697, rfl, ho0, ho1, hb⟩; refine ⟨_, rfl, ?_⟩; have n0_ := Aside0.mk (Kd.R_mono (Kd.R_told (Kd.R_told (Kd.R_old (rr__ HO_685000.out) hb) (Kd.R_base ho0)) (Kd.R_base ho1)) h1__); have n1_ := Aside0.mk (Kd.R_mono (Kd.R_told (Kd.R_told (Kd.R_old (rr__ HO_685001.out) hb) (Kd.R_base ho0)) (Kd.R_base ho1)) h1__); have n2_ := Aside0.mk (Kd.R_lower (Kd.R_new' (Kd.R_new' ho0 (Kd.R_lt (rr__ HO_685000.out))) (Kd.R_lt (rr__ HO_685001.out))) (below_size (bel__))); have n3_ := Aside0.mk (Kd.R_lower (Kd.R_new' (Kd.R_new' ho1 (Kd.R_lt (rr__ HO_685000.out))) (Kd.R_lt (rr__ HO_685001.out))) (below_size (bel__))); have n4_ := Aside0.mk (blb__ BK684.out hb); have n5_ := Aside0.mk (below_step (bel__) hb); clear HO_685000; clear HO_685001; clear BK684; clear HB; have HO_685000 := n0_; have HO_685001 := n1_; have HO695 := n2_; have HO698 := n3_; have BK684 := n4_; have HB := n5_; clear n0_ n1_ n2_ n3_ n4_ n5_; (try clear hb); (try clear hb2); (try clear hk); (try clear hi); (try clear ho0); (try clear ho1)) | ((with_reducible refine gate_dst (N := 7) rfl ?_); (try (refine gate_guard (by rfl) ?_; dsimp only)); refine box_event ?hg (N := 7) ?hd (cs := #[.slice none 0 0, .slice none 0 0]) (t := 30) ?hr ?_; (case hd => rfl); (case hg => rfl); (case hr => first | (go_simp; done) | (go_simp; rfl)); intro gb700 hg w22 hbox hb; have n0_ := Aside0.mk (Kd.R_below (rr__ HO_685000.out) hb); have n1_ := Aside0.mk (Kd.R_below (rr__ HO_685001.out) hb); have n2_ := Aside0.mk (Kd.R_below (rr__ HO695.out) hb); have n3_ := Aside0.mk (Kd.R_below (rr__ HO698.out) hb); have n4_ := Aside0.mk (blb__ BK684.out hb); have n5_ := Aside0.mk (below_step (bel__) hb); have n6_ := Aside0.mk (hbox); have n7_ := Aside0.mk ((by rw [hg]; exact (below_size (bel__)) : w.heap.size ≤ gb700)); have n8_ := Aside0.mk ((by rw [hg]; exact (below_size (bel__)) : w.heap.size ≤ gb700)); have n9_ := Aside0.mk ((nl__ hg BK684.out : gb684 ≠ gb700)); have n10_ := Aside0.mk ((ng__ hg BK684.out : gb700 ≠ gb684)); clear HO_685000; clear HO_685001; clear HO695; clear HO698; clear BK684; clear HB; have HO_685000 := n0_; have HO_685001 := n1_; have HO695 := n2_; have HO698 := n3_; have BK684 := n4_; have HB := n5_; have BK700 := n6_; have GW700 := n7_; have GE700 := n8_; have NB684_700 := n9_; have NB700_684 := n10_; clear n0_ n1_ n2_ n3_ n4_ n5_ n6_ n7_ n8_ n9_ n10_; clear hb hbox hg; obtain ⟨Ao23, co23, eo23⟩ := Kd.R_slice HO695.out; subst eo23; have hnb24 := NB700_684.out; have hnc24 := NB684_700.out; have hcz25_0 : w22.cell? ⟨gb700, 0, none⟩ = some (.slice none 0 0) := (blk_cell BK700.out 0).trans rfl; have hcz25_1 : w22.cell? ⟨gb700, 1, none⟩ = some (.slice none 0 0) := (blk_cell BK700.out 1).trans rfl; have hfz25_0 := blk_frozen BK700.out 0; have hfz25_1 := blk_frozen BK700.out 1; obtain ⟨Ao26, co26, eo26⟩ := Kd.R_slice HO698.out; subst eo26; have hcz27_0 : w22.cell? ⟨gb684, 0, none⟩ = some (.slice Ao7 t677.length co7) := (blk_cell BK684.out 0).trans rfl; have hcz27_1 : w22.cell? ⟨gb684, 1, none⟩ = some (.slice Ao9 t680.length co9) := (blk_cell BK684.out 1).trans rfl; have hfz27_0 := blk_frozen BK684.out 0; have hfz27_1 := blk_frozen BK684.out 1) | ((with_reducible refine gate_callee (f := 37) rfl ?_); refine goesL_ (some 37) rfl rfl Try.func37 (by kernel_rfl) rfl #[.agg #[.slice Ao7 t677.length co7, .slice Ao9 t680.length co9], .string t683] rfl (ar__) ?_; (with_reducible refine (spec_Append.calls kj3 _ _ t677 _ _ t680 t683 t701 t704 t707 _ ?side1 ?side2 ?side3 ?side4 A18.out).mono ?_); (case side1 => refine (Kd.R_reads' (e := 9) (base := w.heap.size) (ok := fun k_ => ((some k_ ≠ (ob__ Ao9 t680.length co9) ∧ some k_ ≠ (ob__ Ao23 t693.length co23)) ∧ some k_ ≠ (ob__ Ao26 t696.length co26))) (n := t677.length) (c := co7) ?_).2.2; exact (by (with_reducible repeat (first | apply Kd.R_alloc | apply Kd.R_drewN | apply Kd.R_drew)); exact (Kd.R_mono (Kd.R_far (p := ⟨gb700, 1, none⟩) (Kd.R_far (p := ⟨gb700, 0, none⟩) (Kd.R_types HO_685000.out BK700.out (by decide)) h2__ (.slice Ao23 t693.length co23)) h2__ (.slice Ao26 t696.length co26)) h1__))); (case side2 => exact (Kd.R_reads' HO_685000.out).2.1); (case side3 => refine (Kd.R_reads' (e := 9) (base := w.heap.size) (ok := fun k_ => ((some k_ ≠ (ob__ Ao7 t677.length co7) ∧ some k_ ≠ (ob__ Ao23 t693.length co23)) ∧ some k_ ≠ (ob__ Ao26 t696.length co26))) (n := t680.length) (c := co9) ?_).2.2; exact (by (with_reducible repeat (first | apply Kd.R_alloc | apply Kd.R_drewN | apply Kd.R_drew)); exact (Kd.R_mono (Kd.R_far (p := ⟨gb700, 1, none⟩) (Kd.R_far (p := ⟨gb700, 0, none⟩) (Kd.R_types HO_685001.out BK700.out (by decide)) h2__ (.slice Ao23 t693.length co23)) h2__ (.slice Ao26 t696.length co26)) h1__))); (case side4 => exact (Kd.R_reads' HO_685001.out).2.1); rintro e w28 ⟨v702, v705, rfl, ho0, ho1, hb⟩; refine ⟨_, rfl, ?_⟩; have n0_ := Aside0.mk (Kd.R_mono (Kd.R_told (Kd.R_told (Kd.R_old (by (with_reducible repeat (first | apply Kd.R_alloc | apply Kd.R_drewN | apply Kd.R_drew)); exact (Kd.R_mono (Kd.R_far (p := ⟨gb700, 1, none⟩) (Kd.R_far (p := ⟨gb700, 0, none⟩) (Kd.R_types HO_685000.out BK700.out (by decide)) h2__ (.slice Ao23 t693.length co23)) h2__ (.slice Ao26 t696.length co26)) h1__)) hb) (Kd.R_base ho0)) (Kd.R_base ho1)) h1__); have n1_ := Aside0.mk (Kd.R_mono (Kd.R_told (Kd.R_told (Kd.R_old (by (with_reducible repeat (first | apply Kd.R_alloc | apply Kd.R_drewN | apply Kd.R_drew)); exact (Kd.R_mono (Kd.R_far (p := ⟨gb700, 1, none⟩) (Kd.R_far (p := ⟨gb700, 0, none⟩) (Kd.R_types HO_685001.out BK700.out (by decide)) h2__ (.slice Ao23 t693.length co23)) h2__ (.slice Ao26 t696.length co26)) h1__)) hb) (Kd.R_base ho0)) (Kd.R_base ho1)) h1__); have n2_ := Aside0.mk (Kd.R_mono (Kd.R_told (Kd.R_told (Kd.R_old (by (with_reducible repeat (first | apply Kd.R_alloc | apply Kd.R_drewN | apply Kd.R_drew)); exact (Kd.R_mono (Kd.R_far (p := ⟨gb700, 1, none⟩) (Kd.R_far (p := ⟨gb700, 0, none⟩) (Kd.R_types HO695.out BK700.out (by decide)) h2__ (.slice Ao23 t693.length co23)) h2__ (.slice Ao26 t696.length co26)) h1__)) hb) (Kd.R_base ho0)) (Kd.R_base ho1)) h1__); have n3_ := Aside0.mk (Kd.R_mono (Kd.R_told (Kd.R_told (Kd.R_old (by (with_reducible repeat (first | apply Kd.R_alloc | apply Kd.R_drewN | apply Kd.R_drew)); exact (Kd.R_mono (Kd.R_far (p := ⟨gb700, 1, none⟩) (Kd.R_far (p := ⟨gb700, 0, none⟩) (Kd.R_types HO698.out BK700.out (by decide)) h2__ (.slice Ao23 t693.length co23)) h2__ (.slice Ao26 t696.length co26)) h1__)) hb) (Kd.R_base ho0)) (Kd.R_base ho1)) h1__); have n4_ := Aside0.mk (Kd.R_lower (Kd.R_new' (Kd.R_new' (Kd.R_new' (Kd.R_new' ho0 (Kd.R_lt (by (with_reducible repeat (first | apply Kd.R_alloc | apply Kd.R_drewN | apply Kd.R_drew)); exact (Kd.R_mono (Kd.R_far (p := ⟨gb700, 1, none⟩) (Kd.R_far (p := ⟨gb700, 0, none⟩) (Kd.R_types HO_685000.out BK700.out (by decide)) h2__ (.slice Ao23 t693.length co23)) h2__ (.slice Ao26 t696.length co26)) h1__)))) (Kd.R_lt (by (with_reducible repeat (first | apply Kd.R_alloc | apply Kd.R_drewN | apply Kd.R_drew)); exact (Kd.R_mono (Kd.R_far (p := ⟨gb700, 1, none⟩) (Kd.R_far (p := ⟨gb700, 0, none⟩) (Kd.R_types HO_685001.out BK700.out (by decide)) h2__ (.slice Ao23 t693.length co23)) h2__ (.slice Ao26 t696.length co26)) h1__)))) (Kd.R_lt (by (with_reducible repeat (first | apply Kd.R_alloc | apply Kd.R_drewN | apply Kd.R_drew)); exact (Kd.R_mono (Kd.R_far (p := ⟨gb700, 1, none⟩) (Kd.R_far (p := ⟨gb700, 0, none⟩) (Kd.R_types HO695.out BK700.out (by decide)) h2__ (.slice Ao23 t693.length co23)) h2__ (.slice Ao26 t696.length co26)) h1__)))) (Kd.R_lt (by (with_reducible repeat (first | apply Kd.R_alloc | apply Kd.R_drewN | apply Kd.R_drew)); exact (Kd.R_mono (Kd.R_far (p := ⟨gb700, 1, none⟩) (Kd.R_far (p := ⟨gb700, 0, none⟩) (Kd.R_types HO698.out BK700.out (by decide)) h2__ (.slice Ao23 t693.length co23)) h2__ (.slice Ao26 t696.length co26)) h1__)))) (below_size (bel__))); have n5_ := Aside0.mk (Kd.R_lower (Kd.R_new' (Kd.R_new' (Kd.R_new' (Kd.R_new' ho1 (Kd.R_lt (by (with_reducible repeat (first | apply Kd.R_alloc | apply Kd.R_drewN | apply Kd.R_drew)); exact (Kd.R_mono (Kd.R_far (p := ⟨gb700, 1, none⟩) (Kd.R_far (p := ⟨gb700, 0, none⟩) (Kd.R_types HO_685000.out BK700.out (by decide)) h2__ (.slice Ao23 t693.length co23)) h2__ (.slice Ao26 t696.length co26)) h1__)))) (Kd.R_lt (by (with_reducible repeat (first | apply Kd.R_alloc | apply Kd.R_drewN | apply Kd.R_drew)); exact (Kd.R_mono (Kd.R_far (p := ⟨gb700, 1, none⟩) (Kd.R_far (p := ⟨gb700, 0, none⟩) (Kd.R_types HO_685001.out BK700.out (by decide)) h2__ (.slice Ao23 t693.length co23)) h2__ (.slice Ao26 t696.length co26)) h1__)))) (Kd.R_lt (by (with_reducible repeat (first | apply Kd.R_alloc | apply Kd.R_drewN | apply Kd.R_drew)); exact (Kd.R_mono (Kd.R_far (p := ⟨gb700, 1, none⟩) (Kd.R_far (p := ⟨gb700, 0, none⟩) (Kd.R_types HO695.out BK700.out (by decide)) h2__ (.slice Ao23 t693.length co23)) h2__ (.slice Ao26 t696.length co26)) h1__)))) (Kd.R_lt (by (with_reducible repeat (first | apply Kd.R_alloc | apply Kd.R_drewN | apply Kd.R_drew)); exact (Kd.R_mono (Kd.R_far (p := ⟨gb700, 1, none⟩) (Kd.R_far (p := ⟨gb700, 0, none⟩) (Kd.R_types HO698.out BK700.out (by decide)) h2__ (.slice Ao23 t693.length co23)) h2__ (.slice Ao26 t696.length co26)) h1__)))) (below_size (bel__))); have n6_ := Aside0.mk (blk_below (g := gb684) (o := .cells #[.slice Ao7 t677.length co7, .slice Ao9 t680.length co9] 30 (0, 0)) (by (with_reducible repeat (first | refine blk_drewN ?_ _ | refine blk_drew ?_ | refine blk_alloc ?_ _)); refine blk_far ?_ NB684_700.out _; (with_reducible repeat (first | refine blk_drewN ?_ _ | refine blk_drew ?_ | refine blk_alloc ?_ _)); refine blk_far ?_ NB684_700.out _; (with_reducible repeat (first | refine blk_drewN ?_ _ | refine blk_drew ?_ | refine blk_alloc ?_ _)); exact BK684.out) hb); have n7_ := Aside0.mk (blk_below (g := gb700) (o := .cells #[.slice Ao23 t693.length co23, .slice Ao26 t696.length co26] 30 (0, 0)) (by (with_reducible repeat (first | refine blk_drewN ?_ _ | refine blk_drew ?_ | refine blk_alloc ?_ _)); refine blk_put (cs := #[.slice Ao23 t693.length co23, .slice none 0 0]) ?_ 1 _ rfl; (with_reducible repeat (first | refine blk_drewN ?_ _ | refine blk_drew ?_ | refine blk_alloc ?_ _)); refine blk_put (cs := #[.slice none 0 0, .slice none 0 0]) ?_ 0 _ rfl; (with_reducible repeat (first | refine blk_drewN ?_ _ | refine blk_drew ?_ | refine blk_alloc ?_ _)); exact BK700.out) hb); have n8_ := Aside0.mk (below_step (bel__) hb); clear HO_685000; clear HO_685001; clear HO695; clear HO698; clear BK684; clear BK700; clear HB; have HO_685000 := n0_; have HO_685001 := n1_; have HO695 := n2_; have HO698 := n3_; have HO703 := n4_; have HO706 := n5_; have BK684 := n6_; have BK700 := n7_; have HB := n8_; clear n0_ n1_ n2_ n3_ n4_ n5_ n6_ n7_ n8_; (try clear hb); (try clear hb2); (try clear hk); (try clear hi); (try clear ho0); (try clear ho1)) | ((with_reducible refine gate_dst (N := 9) rfl ?_); (try (refine gate_guard (by rfl) ?_; dsimp only)); refine box_event ?hg (N := 9) ?hd (cs := #[.slice none 0 0, .slice none 0 0]) (t := 30) ?hr ?_; (case hd => rfl); (case hg => rfl); (case hr => first | (go_simp; done) | (go_simp; rfl)); intro gb708 hg w29 hbox hb; have n0_ := Aside0.mk (Kd.R_below (rr__ HO_685000.out) hb); have n1_ := Aside0.mk (Kd.R_below (rr__ HO_685001.out) hb); have n2_ := Aside0.mk (Kd.R_below (rr__ HO695.out) hb); have n3_ := Aside0.mk (Kd.R_below (rr__ HO698.out) hb); have n4_ := Aside0.mk (Kd.R_below (rr__ HO703.out) hb); have n5_ := Aside0.mk (Kd.R_below (rr__ HO706.out) hb); have n6_ := Aside0.mk (blb__ BK684.out hb); have n7_ := Aside0.mk (blb__ BK700.out hb); have n8_ := Aside0.mk (below_step (bel__) hb); have n9_ := Aside0.mk (hbox); have n10_ := Aside0.mk ((by rw [hg]; exact (below_size (bel__)) : w.heap.size ≤ gb708)); have n11_ := Aside0.mk ((by rw [hg]; exact (below_size (bel__)) : w.heap.size ≤ gb708)); have n12_ := Aside0.mk ((nl__ hg BK684.out : gb684 ≠ gb708)); have n13_ := Aside0.mk ((ng__ hg BK684.out : gb708 ≠ gb684)); have n14_ := Aside0.mk ((nl__ hg BK700.out : gb700 ≠ gb708)); have n15_ := Aside0.mk ((ng__ hg BK700.out : gb708 ≠ gb700)); clear HO_685000; clear HO_685001; clear HO695; clear HO698; clear HO703; clear HO706; clear BK684; clear BK700; clear HB; have HO_685000 := n0_; have HO_685001 := n1_; have HO695 := n2_; have HO698 := n3_; have HO703 := n4_; have HO706 := n5_; have BK684 := n6_; have BK700 := n7_; have HB := n8_; have BK708 := n9_; have GW708 := n10_; have GE708 := n11_; have NB684_708 := n12_; have NB708_684 := n13_; have NB700_708 := n14_; have NB708_700 := n15_; clear n0_ n1_ n2_ n3_ n4_ n5_ n6_ n7_ n8_ n9_ n10_ n11_ n12_ n13_ n14_ n15_; clear hb hbox hg; obtain ⟨Ao30, co30, eo30⟩ := Kd.R_slice HO703.out; subst eo30; have hnb31 := NB708_684.out; have hnc31 := NB684_708.out; have hnb32 := NB708_700.out; have hnc32 := NB700_708.out; have hcz33_0 : w29.cell? ⟨gb708, 0, none⟩ = some (.slice none 0 0) := (blk_cell BK708.out 0).trans rfl; have hcz33_1 : w29.cell? ⟨gb708, 1, none⟩ = some (.slice none 0 0) := (blk_cell BK708.out 1).trans rfl; have hfz33_0 := blk_frozen BK708.out 0; have hfz33_1 := blk_frozen BK708.out 1; obtain ⟨Ao34, co34, eo34⟩ := Kd.R_slice HO706.out; subst eo34))
    (try simp only [Act.put, List.setIfInBounds_toArray, List.set_cons_zero, List.set_cons_succ])
    go_cut [58] (fun v58 wc => ∃ (kq : Nat) (x58_18 : Bool), v58 = .bool x58_18 ∧ Aside0 (laws_FnLog.j1 kq x6_3 t699 x58_18 t677 t680 t693 t696 = some r) ∧ Aside0 (kq ≤ kj3) ∧ Aside0 (Kd.R Kd.string 9 wc w.heap.size (fun k_ => some k_ ≠ (ob__ Ao9 t680.length co9) ∧ some k_ ≠ (ob__ Ao23 t693.length co23) ∧ some k_ ≠ (ob__ Ao26 t696.length co26) ∧ some k_ ≠ (ob__ Ao30 t701.length co30) ∧ some k_ ≠ (ob__ Ao34 t704.length co34)) (.slice Ao7 t677.length co7) t677) ∧ Aside0 (Kd.R Kd.string 9 wc w.heap.size (fun k_ => some k_ ≠ (ob__ Ao7 t677.length co7) ∧ some k_ ≠ (ob__ Ao23 t693.length co23) ∧ some k_ ≠ (ob__ Ao26 t696.length co26) ∧ some k_ ≠ (ob__ Ao30 t701.length co30) ∧ some k_ ≠ (ob__ Ao34 t704.length co34)) (.slice Ao9 t680.length co9) t680) ∧ Aside0 (Kd.R Kd.string 9 wc w.heap.size (fun k_ => some k_ ≠ (ob__ Ao7 t677.length co7) ∧ some k_ ≠ (ob__ Ao9 t680.length co9) ∧ some k_ ≠ (ob__ Ao26 t696.length co26) ∧ some k_ ≠ (ob__ Ao30 t701.length co30) ∧ some k_ ≠ (ob__ Ao34 t704.length co34)) (.slice Ao23 t693.length co23) t693) ∧ Aside0 (Kd.R Kd.string 9 wc w.heap.size (fun k_ => some k_ ≠ (ob__ Ao7 t677.length co7) ∧ some k_ ≠ (ob__ Ao9 t680.length co9) ∧ some k_ ≠ (ob__ Ao23 t693.length co23) ∧ some k_ ≠ (ob__ Ao30 t701.length co30) ∧ some k_ ≠ (ob__ Ao34 t704.length co34)) (.slice Ao26 t696.length co26) t696) ∧ Aside0 (Kd.R Kd.string 9 wc w.heap.size (fun k_ => some k_ ≠ (ob__ Ao7 t677.length co7) ∧ some k_ ≠ (ob__ Ao9 t680.length co9) ∧ some k_ ≠ (ob__ Ao23 t693.length co23) ∧ some k_ ≠ (ob__ Ao26 t696.length co26) ∧ some k_ ≠ (ob__ Ao34 t704.length co34)) (.slice Ao30 t701.length co30) t701) ∧ Aside0 (Kd.R Kd.string 9 wc w.heap.size (fun k_ => some k_ ≠ (ob__ Ao7 t677.length co7) ∧ some k_ ≠ (ob__ Ao9 t680.length co9) ∧ some k_ ≠ (ob__ Ao23 t693.length co23) ∧ some k_ ≠ (ob__ Ao26 t696.length co26) ∧ some k_ ≠ (ob__ Ao30 t701.length co30)) (.slice Ao34 t704.length co34) t704) ∧ Aside0 (wc.heap[gb684]? = some (.cells #[(.slice Ao7 t677.length co7), (.slice Ao9 t680.length co9)] 30 (0, 0))) ∧ Aside0 (wc.heap[gb700]? = some (.cells #[(.slice Ao23 t693.length co23), (.slice Ao26 t696.length co26)] 30 (0, 0))) ∧ Aside0 (wc.heap[gb708]? = some (.cells #[(.slice Ao30 t701.length co30), (.slice Ao34 t704.length co34)] 30 (0, 0))) ∧ Aside0 (Below w.heap.size w wc))
    case first =>
     have H := HC19.out
     clear HC19
     by_cases c35 : t699 = t707
     ·rw [if_pos c35] at H
      have c35b0 : (t699 == t707) = true := beq_iff_eq.mpr c35
      have c35b1 : (t699 != t707) = false := bne_eq_false_iff_eq.mpr c35
      clear c35
      (first | rw [c35b0] | (simp only [i64_w, i32_w]; rw [c35b0]) | skip)
      replace H := Option.bind_eq_some_iff.mp H
      obtain ⟨t709, A360, H⟩ := H
      replace H : (if t709 = true then ((laws_wList.f kj3 t696 t704).bind fun t710 => (laws_FnLog.j1 kj3 x6_3 t699 (!t710) t677 t680 t693 t696)) else (laws_FnLog.j1 kj3 x6_3 t699 true t677 t680 t693 t696)) = some r := H
      have A36 := Aside0.mk A360
      clear A360
      by_cases c37 : t709 = true
      ·subst c37
       have H1 : ((laws_wList.f kj3 t696 t704).bind fun t710 => (laws_FnLog.j1 kj3 x6_3 t699 (!t710) t677 t680 t693 t696)) = some r := by rw [if_pos rfl] at H; exact H
       clear H
       have H := H1
       clear H1
       replace H := Option.bind_eq_some_iff.mp H
       obtain ⟨t710, A380, H⟩ := H
       replace H : (laws_FnLog.j1 kj3 x6_3 t699 (!t710) t677 t680 t693 t696) = some r := H
       have A38 := Aside0.mk A380
       clear A380
       have H' := Aside0.mk H
       clear H
       have hnb39 := NB700_684.out
       have hnc39 := NB684_700.out
       have hnb40 := NB700_708.out
       have hnc40 := NB708_700.out
       have hcz41_0 : w29.cell? ⟨gb700, 0, none⟩ = some (.slice Ao23 t693.length co23) := (blk_cell BK700.out 0).trans rfl
       have hcz41_1 : w29.cell? ⟨gb700, 1, none⟩ = some (.slice Ao26 t696.length co26) := (blk_cell BK700.out 1).trans rfl
       have hfz41_0 := blk_frozen BK700.out 0
       have hfz41_1 := blk_frozen BK700.out 1
       have hnb42 := NB708_684.out
       have hnc42 := NB684_708.out
       have hcz43_0 : w29.cell? ⟨gb708, 0, none⟩ = some (.slice none 0 0) := (blk_cell BK708.out 0).trans rfl
       have hcz43_1 : w29.cell? ⟨gb708, 1, none⟩ = some (.slice none 0 0) := (blk_cell BK708.out 1).trans rfl
       have hfz43_0 := blk_frozen BK708.out 0
       have hfz43_1 := blk_frozen BK708.out 1
       go_wp2_with (first | (go_at_call 41; (with_reducible refine (laws_wList.calls kj3 _ _ t693 _ _ t701 true _ ?side1 ?side2 ?side3 ?side4 A36.out).mono ?_); (case side1 => refine (Kd.R_reads' (e := 9) (base := w.heap.size) (ok := fun k_ => ((((some k_ ≠ (ob__ Ao26 t696.length co26) ∧ some k_ ≠ (ob__ Ao7 t677.length co7)) ∧ some k_ ≠ (ob__ Ao9 t680.length co9)) ∧ some k_ ≠ (ob__ Ao30 t701.length co30)) ∧ some k_ ≠ (ob__ Ao34 t704.length co34))) (n := t693.length) (c := co23) ?_).2.2; exact (by (with_reducible repeat (first | apply Kd.R_alloc | apply Kd.R_drewN | apply Kd.R_drew)); exact (Kd.R_mono (Kd.R_far (p := ⟨gb708, 1, none⟩) (Kd.R_far (p := ⟨gb708, 0, none⟩) (Kd.R_types HO695.out BK708.out (by decide)) h2__ (.slice Ao30 t701.length co30)) h2__ (.slice Ao34 t704.length co34)) h1__))); (case side2 => exact (Kd.R_reads' HO695.out).2.1); (case side3 => refine (Kd.R_reads' (e := 9) (base := w.heap.size) (ok := fun k_ => ((((some k_ ≠ (ob__ Ao34 t704.length co34) ∧ some k_ ≠ (ob__ Ao7 t677.length co7)) ∧ some k_ ≠ (ob__ Ao9 t680.length co9)) ∧ some k_ ≠ (ob__ Ao23 t693.length co23)) ∧ some k_ ≠ (ob__ Ao26 t696.length co26))) (n := t701.length) (c := co30) ?_).2.2; exact (by (with_reducible repeat (first | apply Kd.R_alloc | apply Kd.R_drewN | apply Kd.R_drew)); exact (Kd.R_mono (Kd.R_far (p := ⟨gb708, 1, none⟩) (Kd.R_far (p := ⟨gb708, 0, none⟩) (Kd.R_types HO703.out BK708.out (by decide)) h2__ (.slice Ao30 t701.length co30)) h2__ (.slice Ao34 t704.length co34)) h1__))); (case side4 => exact (Kd.R_reads' HO703.out).2.1); rintro e w' ⟨rfl, ⟨nd, rfl⟩⟩) | (go_at_call 41; (with_reducible refine (laws_wList.calls kj3 _ _ t696 _ _ t704 t710 _ ?side1 ?side2 ?side3 ?side4 A38.out).mono ?_); (case side1 => refine (Kd.R_reads' (e := 9) (base := w.heap.size) (ok := fun k_ => ((((some k_ ≠ (ob__ Ao23 t693.length co23) ∧ some k_ ≠ (ob__ Ao7 t677.length co7)) ∧ some k_ ≠ (ob__ Ao9 t680.length co9)) ∧ some k_ ≠ (ob__ Ao30 t701.length co30)) ∧ some k_ ≠ (ob__ Ao34 t704.length co34))) (n := t696.length) (c := co26) ?_).2.2; exact (by (with_reducible repeat (first | apply Kd.R_alloc | apply Kd.R_drewN | apply Kd.R_drew)); exact (Kd.R_mono (Kd.R_far (p := ⟨gb708, 1, none⟩) (Kd.R_far (p := ⟨gb708, 0, none⟩) (Kd.R_types HO698.out BK708.out (by decide)) h2__ (.slice Ao30 t701.length co30)) h2__ (.slice Ao34 t704.length co34)) h1__))); (case side2 => exact (Kd.R_reads' HO698.out).2.1); (case side3 => refine (Kd.R_reads' (e := 9) (base := w.heap.size) (ok := fun k_ => ((((some k_ ≠ (ob__ Ao30 t701.length co30) ∧ some k_ ≠ (ob__ Ao7 t677.length co7)) ∧ some k_ ≠ (ob__ Ao9 t680.length co9)) ∧ some k_ ≠ (ob__ Ao23 t693.length co23)) ∧ some k_ ≠ (ob__ Ao26 t696.length co26))) (n := t704.length) (c := co34) ?_).2.2; exact (by (with_reducible repeat (first | apply Kd.R_alloc | apply Kd.R_drewN | apply Kd.R_drew)); exact (Kd.R_mono (Kd.R_far (p := ⟨gb708, 1, none⟩) (Kd.R_far (p := ⟨gb708, 0, none⟩) (Kd.R_types HO706.out BK708.out (by decide)) h2__ (.slice Ao30 t701.length co30)) h2__ (.slice Ao34 t704.length co34)) h1__))); (case side4 => exact (Kd.R_reads' HO706.out).2.1); rintro e w' ⟨rfl, ⟨nd, rfl⟩⟩))
       go_meet
       case rel => exact ⟨_, (!t710), (rf__), H', ⟨by have := HJ3.out; first | omega | exact Nat.le_refl _⟩, ⟨by (with_reducible repeat (first | apply Kd.R_alloc | apply Kd.R_drewN | apply Kd.R_drew)); exact Kd.R_mono (Kd.R_far (p := ⟨gb708, 1, none⟩) (Kd.R_far (p := ⟨gb708, 0, none⟩) (Kd.R_types HO_685000.out BK708.out (by decide)) h2__ (.slice Ao30 t701.length co30)) h2__ (.slice Ao34 t704.length co34)) (fun _ hk => ⟨hk.1.1.1.1.1, ⟨hk.1.1.1.1.2, ⟨hk.1.1.1.2, ⟨hk.1.1.2, hk.1.2⟩⟩⟩⟩)⟩, ⟨by (with_reducible repeat (first | apply Kd.R_alloc | apply Kd.R_drewN | apply Kd.R_drew)); exact Kd.R_mono (Kd.R_far (p := ⟨gb708, 1, none⟩) (Kd.R_far (p := ⟨gb708, 0, none⟩) (Kd.R_types HO_685001.out BK708.out (by decide)) h2__ (.slice Ao30 t701.length co30)) h2__ (.slice Ao34 t704.length co34)) (fun _ hk => ⟨hk.1.1.1.1.1, ⟨hk.1.1.1.1.2, ⟨hk.1.1.1.2, ⟨hk.1.1.2, hk.1.2⟩⟩⟩⟩)⟩, ⟨by (with_reducible repeat (first | apply Kd.R_alloc | apply Kd.R_drewN | apply Kd.R_drew)); exact Kd.R_mono (Kd.R_far (p := ⟨gb708, 1, none⟩) (Kd.R_far (p := ⟨gb708, 0, none⟩) (Kd.R_types HO695.out BK708.out (by decide)) h2__ (.slice Ao30 t701.length co30)) h2__ (.slice Ao34 t704.length co34)) (fun _ hk => ⟨hk.1.1.1.1.2, ⟨hk.1.1.1.2, ⟨hk.1.1.1.1.1, ⟨hk.1.1.2, hk.1.2⟩⟩⟩⟩)⟩, ⟨by (with_reducible repeat (first | apply Kd.R_alloc | apply Kd.R_drewN | apply Kd.R_drew)); exact Kd.R_mono (Kd.R_far (p := ⟨gb708, 1, none⟩) (Kd.R_far (p := ⟨gb708, 0, none⟩) (Kd.R_types HO698.out BK708.out (by decide)) h2__ (.slice Ao30 t701.length co30)) h2__ (.slice Ao34 t704.length co34)) (fun _ hk => ⟨hk.1.1.1.1.2, ⟨hk.1.1.1.2, ⟨hk.1.1.1.1.1, ⟨hk.1.1.2, hk.1.2⟩⟩⟩⟩)⟩, ⟨by (with_reducible repeat (first | apply Kd.R_alloc | apply Kd.R_drewN | apply Kd.R_drew)); exact Kd.R_mono (Kd.R_far (p := ⟨gb708, 1, none⟩) (Kd.R_far (p := ⟨gb708, 0, none⟩) (Kd.R_types HO703.out BK708.out (by decide)) h2__ (.slice Ao30 t701.length co30)) h2__ (.slice Ao34 t704.length co34)) (fun _ hk => ⟨hk.1.1.1.1.2, ⟨hk.1.1.1.2, ⟨hk.1.1.2, ⟨hk.1.2, hk.1.1.1.1.1⟩⟩⟩⟩)⟩, ⟨by (with_reducible repeat (first | apply Kd.R_alloc | apply Kd.R_drewN | apply Kd.R_drew)); exact Kd.R_mono (Kd.R_far (p := ⟨gb708, 1, none⟩) (Kd.R_far (p := ⟨gb708, 0, none⟩) (Kd.R_types HO706.out BK708.out (by decide)) h2__ (.slice Ao30 t701.length co30)) h2__ (.slice Ao34 t704.length co34)) (fun _ hk => ⟨hk.1.1.1.1.2, ⟨hk.1.1.1.2, ⟨hk.1.1.2, ⟨hk.1.2, hk.1.1.1.1.1⟩⟩⟩⟩)⟩, ⟨by (with_reducible repeat (first | refine blk_drewN ?_ _ | refine blk_drew ?_ | refine blk_alloc ?_ _)); refine blk_far ?_ NB684_708.out _; (with_reducible repeat (first | refine blk_drewN ?_ _ | refine blk_drew ?_ | refine blk_alloc ?_ _)); refine blk_far ?_ NB684_708.out _; (with_reducible repeat (first | refine blk_drewN ?_ _ | refine blk_drew ?_ | refine blk_alloc ?_ _)); exact BK684.out⟩, ⟨by (with_reducible repeat (first | refine blk_drewN ?_ _ | refine blk_drew ?_ | refine blk_alloc ?_ _)); refine blk_far ?_ NB700_708.out _; (with_reducible repeat (first | refine blk_drewN ?_ _ | refine blk_drew ?_ | refine blk_alloc ?_ _)); refine blk_far ?_ NB700_708.out _; (with_reducible repeat (first | refine blk_drewN ?_ _ | refine blk_drew ?_ | refine blk_alloc ?_ _)); exact BK700.out⟩, ⟨by (with_reducible repeat (first | refine blk_drewN ?_ _ | refine blk_drew ?_ | refine blk_alloc ?_ _)); refine blk_put (cs := #[.slice Ao30 t701.length co30, .slice none 0 0]) ?_ 1 _ rfl; (with_reducible repeat (first | refine blk_drewN ?_ _ | refine blk_drew ?_ | refine blk_alloc ?_ _)); refine blk_put (cs := #[.slice none 0 0, .slice none 0 0]) ?_ 0 _ rfl; (with_reducible repeat (first | refine blk_drewN ?_ _ | refine blk_drew ?_ | refine blk_alloc ?_ _)); exact BK708.out⟩, ⟨bel__⟩⟩
      ·replace c37 := Bool.eq_false_iff.mpr c37
       subst c37
       have H1 : (laws_FnLog.j1 kj3 x6_3 t699 true t677 t680 t693 t696) = some r := by rw [if_neg (show ¬ (false = true) by decide)] at H; exact H
       clear H
       have H := H1
       clear H1
       have H' := Aside0.mk H
       clear H
       have hnb44 := NB700_684.out
       have hnc44 := NB684_700.out
       have hnb45 := NB700_708.out
       have hnc45 := NB708_700.out
       have hcz46_0 : w29.cell? ⟨gb700, 0, none⟩ = some (.slice Ao23 t693.length co23) := (blk_cell BK700.out 0).trans rfl
       have hcz46_1 : w29.cell? ⟨gb700, 1, none⟩ = some (.slice Ao26 t696.length co26) := (blk_cell BK700.out 1).trans rfl
       have hfz46_0 := blk_frozen BK700.out 0
       have hfz46_1 := blk_frozen BK700.out 1
       have hnb47 := NB708_684.out
       have hnc47 := NB684_708.out
       have hcz48_0 : w29.cell? ⟨gb708, 0, none⟩ = some (.slice none 0 0) := (blk_cell BK708.out 0).trans rfl
       have hcz48_1 : w29.cell? ⟨gb708, 1, none⟩ = some (.slice none 0 0) := (blk_cell BK708.out 1).trans rfl
       have hfz48_0 := blk_frozen BK708.out 0
       have hfz48_1 := blk_frozen BK708.out 1
       go_wp2_with (first | (go_at_call 41; (with_reducible refine (laws_wList.calls kj3 _ _ t693 _ _ t701 false _ ?side1 ?side2 ?side3 ?side4 A36.out).mono ?_); (case side1 => refine (Kd.R_reads' (e := 9) (base := w.heap.size) (ok := fun k_ => ((((some k_ ≠ (ob__ Ao26 t696.length co26) ∧ some k_ ≠ (ob__ Ao7 t677.length co7)) ∧ some k_ ≠ (ob__ Ao9 t680.length co9)) ∧ some k_ ≠ (ob__ Ao30 t701.length co30)) ∧ some k_ ≠ (ob__ Ao34 t704.length co34))) (n := t693.length) (c := co23) ?_).2.2; exact (by (with_reducible repeat (first | apply Kd.R_alloc | apply Kd.R_drewN | apply Kd.R_drew)); exact (Kd.R_mono (Kd.R_far (p := ⟨gb708, 1, none⟩) (Kd.R_far (p := ⟨gb708, 0, none⟩) (Kd.R_types HO695.out BK708.out (by decide)) h2__ (.slice Ao30 t701.length co30)) h2__ (.slice Ao34 t704.length co34)) h1__))); (case side2 => exact (Kd.R_reads' HO695.out).2.1); (case side3 => refine (Kd.R_reads' (e := 9) (base := w.heap.size) (ok := fun k_ => ((((some k_ ≠ (ob__ Ao34 t704.length co34) ∧ some k_ ≠ (ob__ Ao7 t677.length co7)) ∧ some k_ ≠ (ob__ Ao9 t680.length co9)) ∧ some k_ ≠ (ob__ Ao23 t693.length co23)) ∧ some k_ ≠ (ob__ Ao26 t696.length co26))) (n := t701.length) (c := co30) ?_).2.2; exact (by (with_reducible repeat (first | apply Kd.R_alloc | apply Kd.R_drewN | apply Kd.R_drew)); exact (Kd.R_mono (Kd.R_far (p := ⟨gb708, 1, none⟩) (Kd.R_far (p := ⟨gb708, 0, none⟩) (Kd.R_types HO703.out BK708.out (by decide)) h2__ (.slice Ao30 t701.length co30)) h2__ (.slice Ao34 t704.length co34)) h1__))); (case side4 => exact (Kd.R_reads' HO703.out).2.1); rintro e w' ⟨rfl, ⟨nd, rfl⟩⟩))
       go_meet
       case rel => exact ⟨_, (true), (rf__), H', ⟨by have := HJ3.out; first | omega | exact Nat.le_refl _⟩, ⟨by (with_reducible repeat (first | apply Kd.R_alloc | apply Kd.R_drewN | apply Kd.R_drew)); exact Kd.R_mono (Kd.R_far (p := ⟨gb708, 1, none⟩) (Kd.R_far (p := ⟨gb708, 0, none⟩) (Kd.R_types HO_685000.out BK708.out (by decide)) h2__ (.slice Ao30 t701.length co30)) h2__ (.slice Ao34 t704.length co34)) (fun _ hk => ⟨hk.1.1.1.1.1, ⟨hk.1.1.1.1.2, ⟨hk.1.1.1.2, ⟨hk.1.1.2, hk.1.2⟩⟩⟩⟩)⟩, ⟨by (with_reducible repeat (first | apply Kd.R_alloc | apply Kd.R_drewN | apply Kd.R_drew)); exact Kd.R_mono (Kd.R_far (p := ⟨gb708, 1, none⟩) (Kd.R_far (p := ⟨gb708, 0, none⟩) (Kd.R_types HO_685001.out BK708.out (by decide)) h2__ (.slice Ao30 t701.length co30)) h2__ (.slice Ao34 t704.length co34)) (fun _ hk => ⟨hk.1.1.1.1.1, ⟨hk.1.1.1.1.2, ⟨hk.1.1.1.2, ⟨hk.1.1.2, hk.1.2⟩⟩⟩⟩)⟩, ⟨by (with_reducible repeat (first | apply Kd.R_alloc | apply Kd.R_drewN | apply Kd.R_drew)); exact Kd.R_mono (Kd.R_far (p := ⟨gb708, 1, none⟩) (Kd.R_far (p := ⟨gb708, 0, none⟩) (Kd.R_types HO695.out BK708.out (by decide)) h2__ (.slice Ao30 t701.length co30)) h2__ (.slice Ao34 t704.length co34)) (fun _ hk => ⟨hk.1.1.1.1.2, ⟨hk.1.1.1.2, ⟨hk.1.1.1.1.1, ⟨hk.1.1.2, hk.1.2⟩⟩⟩⟩)⟩, ⟨by (with_reducible repeat (first | apply Kd.R_alloc | apply Kd.R_drewN | apply Kd.R_drew)); exact Kd.R_mono (Kd.R_far (p := ⟨gb708, 1, none⟩) (Kd.R_far (p := ⟨gb708, 0, none⟩) (Kd.R_types HO698.out BK708.out (by decide)) h2__ (.slice Ao30 t701.length co30)) h2__ (.slice Ao34 t704.length co34)) (fun _ hk => ⟨hk.1.1.1.1.2, ⟨hk.1.1.1.2, ⟨hk.1.1.1.1.1, ⟨hk.1.1.2, hk.1.2⟩⟩⟩⟩)⟩, ⟨by (with_reducible repeat (first | apply Kd.R_alloc | apply Kd.R_drewN | apply Kd.R_drew)); exact Kd.R_mono (Kd.R_far (p := ⟨gb708, 1, none⟩) (Kd.R_far (p := ⟨gb708, 0, none⟩) (Kd.R_types HO703.out BK708.out (by decide)) h2__ (.slice Ao30 t701.length co30)) h2__ (.slice Ao34 t704.length co34)) (fun _ hk => ⟨hk.1.1.1.1.2, ⟨hk.1.1.1.2, ⟨hk.1.1.2, ⟨hk.1.2, hk.1.1.1.1.1⟩⟩⟩⟩)⟩, ⟨by (with_reducible repeat (first | apply Kd.R_alloc | apply Kd.R_drewN | apply Kd.R_drew)); exact Kd.R_mono (Kd.R_far (p := ⟨gb708, 1, none⟩) (Kd.R_far (p := ⟨gb708, 0, none⟩) (Kd.R_types HO706.out BK708.out (by decide)) h2__ (.slice Ao30 t701.length co30)) h2__ (.slice Ao34 t704.length co34)) (fun _ hk => ⟨hk.1.1.1.1.2, ⟨hk.1.1.1.2, ⟨hk.1.1.2, ⟨hk.1.2, hk.1.1.1.1.1⟩⟩⟩⟩)⟩, ⟨by (with_reducible repeat (first | refine blk_drewN ?_ _ | refine blk_drew ?_ | refine blk_alloc ?_ _)); refine blk_far ?_ NB684_708.out _; (with_reducible repeat (first | refine blk_drewN ?_ _ | refine blk_drew ?_ | refine blk_alloc ?_ _)); refine blk_far ?_ NB684_708.out _; (with_reducible repeat (first | refine blk_drewN ?_ _ | refine blk_drew ?_ | refine blk_alloc ?_ _)); exact BK684.out⟩, ⟨by (with_reducible repeat (first | refine blk_drewN ?_ _ | refine blk_drew ?_ | refine blk_alloc ?_ _)); refine blk_far ?_ NB700_708.out _; (with_reducible repeat (first | refine blk_drewN ?_ _ | refine blk_drew ?_ | refine blk_alloc ?_ _)); refine blk_far ?_ NB700_708.out _; (with_reducible repeat (first | refine blk_drewN ?_ _ | refine blk_drew ?_ | refine blk_alloc ?_ _)); exact BK700.out⟩, ⟨by (with_reducible repeat (first | refine blk_drewN ?_ _ | refine blk_drew ?_ | refine blk_alloc ?_ _)); refine blk_put (cs := #[.slice Ao30 t701.length co30, .slice none 0 0]) ?_ 1 _ rfl; (with_reducible repeat (first | refine blk_drewN ?_ _ | refine blk_drew ?_ | refine blk_alloc ?_ _)); refine blk_put (cs := #[.slice none 0 0, .slice none 0 0]) ?_ 0 _ rfl; (with_reducible repeat (first | refine blk_drewN ?_ _ | refine blk_drew ?_ | refine blk_alloc ?_ _)); exact BK708.out⟩, ⟨bel__⟩⟩
     ·rw [if_neg c35] at H
      have c35b0 : (t699 == t707) = false := beq_eq_false_iff_ne.mpr c35
      have c35b1 : (t699 != t707) = true := bne_iff_ne.mpr c35
      (first | rw [c35b0] | (simp only [i64_w, i32_w]; rw [c35b0]) | skip)
      have H' := Aside0.mk H
      clear H
      go_wp2
      go_meet
      case rel => exact ⟨_, (true), (rf__), H', ⟨by have := HJ3.out; first | omega | exact Nat.le_refl _⟩, ⟨by (with_reducible repeat (first | apply Kd.R_alloc | apply Kd.R_drewN | apply Kd.R_drew)); exact Kd.R_mono (Kd.R_far (p := ⟨gb708, 1, none⟩) (Kd.R_far (p := ⟨gb708, 0, none⟩) (Kd.R_types HO_685000.out BK708.out (by decide)) h2__ (.slice Ao30 t701.length co30)) h2__ (.slice Ao34 t704.length co34)) (fun _ hk => ⟨hk.1.1.1.1.1, ⟨hk.1.1.1.1.2, ⟨hk.1.1.1.2, ⟨hk.1.1.2, hk.1.2⟩⟩⟩⟩)⟩, ⟨by (with_reducible repeat (first | apply Kd.R_alloc | apply Kd.R_drewN | apply Kd.R_drew)); exact Kd.R_mono (Kd.R_far (p := ⟨gb708, 1, none⟩) (Kd.R_far (p := ⟨gb708, 0, none⟩) (Kd.R_types HO_685001.out BK708.out (by decide)) h2__ (.slice Ao30 t701.length co30)) h2__ (.slice Ao34 t704.length co34)) (fun _ hk => ⟨hk.1.1.1.1.1, ⟨hk.1.1.1.1.2, ⟨hk.1.1.1.2, ⟨hk.1.1.2, hk.1.2⟩⟩⟩⟩)⟩, ⟨by (with_reducible repeat (first | apply Kd.R_alloc | apply Kd.R_drewN | apply Kd.R_drew)); exact Kd.R_mono (Kd.R_far (p := ⟨gb708, 1, none⟩) (Kd.R_far (p := ⟨gb708, 0, none⟩) (Kd.R_types HO695.out BK708.out (by decide)) h2__ (.slice Ao30 t701.length co30)) h2__ (.slice Ao34 t704.length co34)) (fun _ hk => ⟨hk.1.1.1.1.2, ⟨hk.1.1.1.2, ⟨hk.1.1.1.1.1, ⟨hk.1.1.2, hk.1.2⟩⟩⟩⟩)⟩, ⟨by (with_reducible repeat (first | apply Kd.R_alloc | apply Kd.R_drewN | apply Kd.R_drew)); exact Kd.R_mono (Kd.R_far (p := ⟨gb708, 1, none⟩) (Kd.R_far (p := ⟨gb708, 0, none⟩) (Kd.R_types HO698.out BK708.out (by decide)) h2__ (.slice Ao30 t701.length co30)) h2__ (.slice Ao34 t704.length co34)) (fun _ hk => ⟨hk.1.1.1.1.2, ⟨hk.1.1.1.2, ⟨hk.1.1.1.1.1, ⟨hk.1.1.2, hk.1.2⟩⟩⟩⟩)⟩, ⟨by (with_reducible repeat (first | apply Kd.R_alloc | apply Kd.R_drewN | apply Kd.R_drew)); exact Kd.R_mono (Kd.R_far (p := ⟨gb708, 1, none⟩) (Kd.R_far (p := ⟨gb708, 0, none⟩) (Kd.R_types HO703.out BK708.out (by decide)) h2__ (.slice Ao30 t701.length co30)) h2__ (.slice Ao34 t704.length co34)) (fun _ hk => ⟨hk.1.1.1.1.2, ⟨hk.1.1.1.2, ⟨hk.1.1.2, ⟨hk.1.2, hk.1.1.1.1.1⟩⟩⟩⟩)⟩, ⟨by (with_reducible repeat (first | apply Kd.R_alloc | apply Kd.R_drewN | apply Kd.R_drew)); exact Kd.R_mono (Kd.R_far (p := ⟨gb708, 1, none⟩) (Kd.R_far (p := ⟨gb708, 0, none⟩) (Kd.R_types HO706.out BK708.out (by decide)) h2__ (.slice Ao30 t701.length co30)) h2__ (.slice Ao34 t704.length co34)) (fun _ hk => ⟨hk.1.1.1.1.2, ⟨hk.1.1.1.2, ⟨hk.1.1.2, ⟨hk.1.2, hk.1.1.1.1.1⟩⟩⟩⟩)⟩, ⟨by (with_reducible repeat (first | refine blk_drewN ?_ _ | refine blk_drew ?_ | refine blk_alloc ?_ _)); refine blk_far ?_ NB684_708.out _; (with_reducible repeat (first | refine blk_drewN ?_ _ | refine blk_drew ?_ | refine blk_alloc ?_ _)); refine blk_far ?_ NB684_708.out _; (with_reducible repeat (first | refine blk_drewN ?_ _ | refine blk_drew ?_ | refine blk_alloc ?_ _)); exact BK684.out⟩, ⟨by (with_reducible repeat (first | refine blk_drewN ?_ _ | refine blk_drew ?_ | refine blk_alloc ?_ _)); refine blk_far ?_ NB700_708.out _; (with_reducible repeat (first | refine blk_drewN ?_ _ | refine blk_drew ?_ | refine blk_alloc ?_ _)); refine blk_far ?_ NB700_708.out _; (with_reducible repeat (first | refine blk_drewN ?_ _ | refine blk_drew ?_ | refine blk_alloc ?_ _)); exact BK700.out⟩, ⟨by (with_reducible repeat (first | refine blk_drewN ?_ _ | refine blk_drew ?_ | refine blk_alloc ?_ _)); refine blk_put (cs := #[.slice Ao30 t701.length co30, .slice none 0 0]) ?_ 1 _ rfl; (with_reducible repeat (first | refine blk_drewN ?_ _ | refine blk_drew ?_ | refine blk_alloc ?_ _)); refine blk_put (cs := #[.slice none 0 0, .slice none 0 0]) ?_ 0 _ rfl; (with_reducible repeat (first | refine blk_drewN ?_ _ | refine blk_drew ?_ | refine blk_alloc ?_ _)); exact BK708.out⟩, ⟨bel__⟩⟩
    case rest =>
     clear HC19
     try clear c1
     try clear c2
     try clear c2b0
     try clear c2b1
     try clear p2
     try clear c3
     try clear c4
     try clear c11
     try clear c14
     try clear c24
     try clear c31
     try clear c32
     try clear c35
     try clear c35b0
     try clear c35b1
     try clear c37
     try clear c38
     try clear c39
     try clear c40
     try clear c42
     try clear c44
     try clear c45
     try clear c47
     try clear hcz15_0
     try clear hcz15_1
     try clear hcz20_0
     try clear hcz20_1
     try clear hcz25_0
     try clear hcz25_1
     try clear hcz27_0
     try clear hcz27_1
     try clear hcz33_0
     try clear hcz33_1
     try clear hcz41_0
     try clear hcz41_1
     try clear hcz43_0
     try clear hcz43_1
     try clear hcz46_0
     try clear hcz46_1
     try clear hcz48_0
     try clear hcz48_1
     try clear hcz8_0
     try clear hcz8_1
     try clear hfz15_0
     try clear hfz15_1
     try clear hfz20_0
     try clear hfz20_1
     try clear hfz25_0
     try clear hfz25_1
     try clear hfz27_0
     try clear hfz27_1
     try clear hfz33_0
     try clear hfz33_1
     try clear hfz41_0
     try clear hfz41_1
     try clear hfz43_0
     try clear hfz43_1
     try clear hfz46_0
     try clear hfz46_1
     try clear hfz48_0
     try clear hfz48_1
     try clear hfz8_0
     try clear hfz8_1
     try clear p2
     obtain ⟨kq, x58_18, rfl, HA, HJ18, HO_685000, HO_685001, HO_701000, HO_701001, HO_709000, HO_709001, BK684, BK700, BK708, HB⟩ := hcut
     cases kq with
     | zero => exact absurd HA.out (by simp [laws_FnLog.j1])
     | succ kj18 =>
      have H := HA.out
      clear HA
      simp only [laws_FnLog.j1] at H
      by_cases c49 : x58_18 = true
      ·subst c49
       have H1 : (none) = some r := by rw [if_pos rfl] at H; exact H
       clear H
       have H := H1
       clear H1
       exact absurd H (by simp)
      ·replace c49 := Bool.eq_false_iff.mpr c49
       subst c49
       have H1 : (if t699 = 0 then ((impl_Crash.f kj18 t693 t696 x6_3).bind fun bt713 => ((impl_Sync.f kj18 t693 t696).bind fun bt720 => ((impl_Crash.f kj18 bt720.1 bt720.2 x6_3).bind fun bt727 => ((some (([] : List ByteArray) : List ByteArray)).bind fun y734 => (if y734.length + t677.length < 8796093022208 then ((some (y734 ++ t677 : List ByteArray)).bind fun y737 => (if y737.length + t696.length < 8796093022208 then ((some (y737 ++ t696 : List ByteArray)).bind fun y740 => (if (wrap64 ((wrap64 ((bt713.2.length : Int) + (bt720.2.length : Int))) + (bt727.2.length : Int))) > 0 then (laws_FnLog.j2 kj18 x6_3 y740 true t677 t680 t693 t696 bt713.1 bt713.2) else (if (bt713.1.length : Int) < (t677.length : Int) then (laws_FnLog.j2 kj18 x6_3 y740 true t677 t680 t693 t696 bt713.1 bt713.2) else (if (bt713.1.length : Int) > (y740.length : Int) then (laws_FnLog.j2 kj18 x6_3 y740 true t677 t680 t693 t696 bt713.1 bt713.2) else ((laws_wList.f kj18 bt720.1 y740).bind fun t743 => (if t743 = true then ((laws_wList.f kj18 bt727.1 y740).bind fun t744 => (laws_FnLog.j2 kj18 x6_3 y740 (!t744) t677 t680 t693 t696 bt713.1 bt713.2)) else (laws_FnLog.j2 kj18 x6_3 y740 true t677 t680 t693 t696 bt713.1 bt713.2))))))) else (none))) else (none)))))) else ((impl_ValidLog.f kj18 t677 t680).bind fun t711 => ((spec_ValidLog.f kj18 t677 t680).bind fun t712 => (some (t711 == t712))))) = some r := by rw [if_neg (show ¬ (false = true) by decide)] at H; exact H
       clear H
       have H := H1
       clear H1
       by_cases c50 : t699 = 0
       ·rw [if_pos c50] at H
        have c50b0 : (t699 == 0) = true := beq_iff_eq.mpr c50
        have c50b1 : (t699 != 0) = false := bne_eq_false_iff_eq.mpr c50
        clear c50
        replace H := Option.bind_eq_some_iff.mp H
        obtain ⟨⟨t713, t716⟩, A510, H⟩ := H
        replace H : ((impl_Sync.f kj18 t693 t696).bind fun bt720 => ((impl_Crash.f kj18 bt720.1 bt720.2 x6_3).bind fun bt727 => ((some (([] : List ByteArray) : List ByteArray)).bind fun y734 => (if y734.length + t677.length < 8796093022208 then ((some (y734 ++ t677 : List ByteArray)).bind fun y737 => (if y737.length + t696.length < 8796093022208 then ((some (y737 ++ t696 : List ByteArray)).bind fun y740 => (if (wrap64 ((wrap64 ((t716.length : Int) + (bt720.2.length : Int))) + (bt727.2.length : Int))) > 0 then (laws_FnLog.j2 kj18 x6_3 y740 true t677 t680 t693 t696 t713 t716) else (if (t713.length : Int) < (t677.length : Int) then (laws_FnLog.j2 kj18 x6_3 y740 true t677 t680 t693 t696 t713 t716) else (if (t713.length : Int) > (y740.length : Int) then (laws_FnLog.j2 kj18 x6_3 y740 true t677 t680 t693 t696 t713 t716) else ((laws_wList.f kj18 bt720.1 y740).bind fun t743 => (if t743 = true then ((laws_wList.f kj18 bt727.1 y740).bind fun t744 => (laws_FnLog.j2 kj18 x6_3 y740 (!t744) t677 t680 t693 t696 t713 t716)) else (laws_FnLog.j2 kj18 x6_3 y740 true t677 t680 t693 t696 t713 t716))))))) else (none))) else (none))))) = some r := H
        have A51 := Aside0.mk A510
        clear A510
        replace H := Option.bind_eq_some_iff.mp H
        obtain ⟨⟨t720, t723⟩, A520, H⟩ := H
        replace H : ((impl_Crash.f kj18 t720 t723 x6_3).bind fun bt727 => ((some (([] : List ByteArray) : List ByteArray)).bind fun y734 => (if y734.length + t677.length < 8796093022208 then ((some (y734 ++ t677 : List ByteArray)).bind fun y737 => (if y737.length + t696.length < 8796093022208 then ((some (y737 ++ t696 : List ByteArray)).bind fun y740 => (if (wrap64 ((wrap64 ((t716.length : Int) + (t723.length : Int))) + (bt727.2.length : Int))) > 0 then (laws_FnLog.j2 kj18 x6_3 y740 true t677 t680 t693 t696 t713 t716) else (if (t713.length : Int) < (t677.length : Int) then (laws_FnLog.j2 kj18 x6_3 y740 true t677 t680 t693 t696 t713 t716) else (if (t713.length : Int) > (y740.length : Int) then (laws_FnLog.j2 kj18 x6_3 y740 true t677 t680 t693 t696 t713 t716) else ((laws_wList.f kj18 t720 y740).bind fun t743 => (if t743 = true then ((laws_wList.f kj18 bt727.1 y740).bind fun t744 => (laws_FnLog.j2 kj18 x6_3 y740 (!t744) t677 t680 t693 t696 t713 t716)) else (laws_FnLog.j2 kj18 x6_3 y740 true t677 t680 t693 t696 t713 t716))))))) else (none))) else (none)))) = some r := H
        have A52 := Aside0.mk A520
        clear A520
        replace H := Option.bind_eq_some_iff.mp H
        obtain ⟨⟨t727, t730⟩, A530, H⟩ := H
        replace H : ((some (([] : List ByteArray) : List ByteArray)).bind fun y734 => (if y734.length + t677.length < 8796093022208 then ((some (y734 ++ t677 : List ByteArray)).bind fun y737 => (if y737.length + t696.length < 8796093022208 then ((some (y737 ++ t696 : List ByteArray)).bind fun y740 => (if (wrap64 ((wrap64 ((t716.length : Int) + (t723.length : Int))) + (t730.length : Int))) > 0 then (laws_FnLog.j2 kj18 x6_3 y740 true t677 t680 t693 t696 t713 t716) else (if (t713.length : Int) < (t677.length : Int) then (laws_FnLog.j2 kj18 x6_3 y740 true t677 t680 t693 t696 t713 t716) else (if (t713.length : Int) > (y740.length : Int) then (laws_FnLog.j2 kj18 x6_3 y740 true t677 t680 t693 t696 t713 t716) else ((laws_wList.f kj18 t720 y740).bind fun t743 => (if t743 = true then ((laws_wList.f kj18 t727 y740).bind fun t744 => (laws_FnLog.j2 kj18 x6_3 y740 (!t744) t677 t680 t693 t696 t713 t716)) else (laws_FnLog.j2 kj18 x6_3 y740 true t677 t680 t693 t696 t713 t716))))))) else (none))) else (none))) = some r := H
        have A53 := Aside0.mk A530
        clear A530
        obtain ⟨y734, hy734⟩ : ∃ y_ : List ByteArray, y_ = (([] : List ByteArray)) := ⟨_, rfl⟩
        replace H : (if y734.length + t677.length < 8796093022208 then ((some (y734 ++ t677 : List ByteArray)).bind fun y737 => (if y737.length + t696.length < 8796093022208 then ((some (y737 ++ t696 : List ByteArray)).bind fun y740 => (if (wrap64 ((wrap64 ((t716.length : Int) + (t723.length : Int))) + (t730.length : Int))) > 0 then (laws_FnLog.j2 kj18 x6_3 y740 true t677 t680 t693 t696 t713 t716) else (if (t713.length : Int) < (t677.length : Int) then (laws_FnLog.j2 kj18 x6_3 y740 true t677 t680 t693 t696 t713 t716) else (if (t713.length : Int) > (y740.length : Int) then (laws_FnLog.j2 kj18 x6_3 y740 true t677 t680 t693 t696 t713 t716) else ((laws_wList.f kj18 t720 y740).bind fun t743 => (if t743 = true then ((laws_wList.f kj18 t727 y740).bind fun t744 => (laws_FnLog.j2 kj18 x6_3 y740 (!t744) t677 t680 t693 t696 t713 t716)) else (laws_FnLog.j2 kj18 x6_3 y740 true t677 t680 t693 t696 t713 t716))))))) else (none))) else (none)) = some r := by first | (rw [hy734]; with_reducible exact H) | (have H2_ := (Option.bind_some _ _).symm.trans H; rw [hy734]; with_reducible exact H2_) | (have H2_ := (Option.bind_some _ _).symm.trans H; with_reducible exact H2_) | with_reducible exact H | (rw [hy734]; exact H) | exact H
        have Ny734 := Aside0.mk hy734
        clear hy734
        by_cases c54 : y734.length + t677.length < 8796093022208
        ·rw [if_pos c54] at H
         have LMc54 := Aside0.mk c54
         clear c54
         obtain ⟨y737, hy737⟩ : ∃ y_ : List ByteArray, y_ = (y734 ++ t677) := ⟨_, rfl⟩
         replace H : (if y737.length + t696.length < 8796093022208 then ((some (y737 ++ t696 : List ByteArray)).bind fun y740 => (if (wrap64 ((wrap64 ((t716.length : Int) + (t723.length : Int))) + (t730.length : Int))) > 0 then (laws_FnLog.j2 kj18 x6_3 y740 true t677 t680 t693 t696 t713 t716) else (if (t713.length : Int) < (t677.length : Int) then (laws_FnLog.j2 kj18 x6_3 y740 true t677 t680 t693 t696 t713 t716) else (if (t713.length : Int) > (y740.length : Int) then (laws_FnLog.j2 kj18 x6_3 y740 true t677 t680 t693 t696 t713 t716) else ((laws_wList.f kj18 t720 y740).bind fun t743 => (if t743 = true then ((laws_wList.f kj18 t727 y740).bind fun t744 => (laws_FnLog.j2 kj18 x6_3 y740 (!t744) t677 t680 t693 t696 t713 t716)) else (laws_FnLog.j2 kj18 x6_3 y740 true t677 t680 t693 t696 t713 t716))))))) else (none)) = some r := by first | (rw [hy737]; with_reducible exact H) | (have H2_ := (Option.bind_some _ _).symm.trans H; rw [hy737]; with_reducible exact H2_) | (have H2_ := (Option.bind_some _ _).symm.trans H; with_reducible exact H2_) | with_reducible exact H | (rw [hy737]; exact H) | exact H
         have Ny737 := Aside0.mk hy737
         clear hy737
         by_cases c55 : y737.length + t696.length < 8796093022208
         ·rw [if_pos c55] at H
          have LMc55 := Aside0.mk c55
          clear c55
          obtain ⟨y740, hy740⟩ : ∃ y_ : List ByteArray, y_ = (y737 ++ t696) := ⟨_, rfl⟩
          replace H : (if (wrap64 ((wrap64 ((t716.length : Int) + (t723.length : Int))) + (t730.length : Int))) > 0 then (laws_FnLog.j2 kj18 x6_3 y740 true t677 t680 t693 t696 t713 t716) else (if (t713.length : Int) < (t677.length : Int) then (laws_FnLog.j2 kj18 x6_3 y740 true t677 t680 t693 t696 t713 t716) else (if (t713.length : Int) > (y740.length : Int) then (laws_FnLog.j2 kj18 x6_3 y740 true t677 t680 t693 t696 t713 t716) else ((laws_wList.f kj18 t720 y740).bind fun t743 => (if t743 = true then ((laws_wList.f kj18 t727 y740).bind fun t744 => (laws_FnLog.j2 kj18 x6_3 y740 (!t744) t677 t680 t693 t696 t713 t716)) else (laws_FnLog.j2 kj18 x6_3 y740 true t677 t680 t693 t696 t713 t716)))))) = some r := by first | (rw [hy740]; with_reducible exact H) | (have H2_ := (Option.bind_some _ _).symm.trans H; rw [hy740]; with_reducible exact H2_) | (have H2_ := (Option.bind_some _ _).symm.trans H; with_reducible exact H2_) | with_reducible exact H | (rw [hy740]; exact H) | exact H
          have Ny740 := Aside0.mk hy740
          clear hy740
          have HC56 := Aside0.mk H
          clear H
          have hnb57 := NB700_684.out
          have hnc57 := NB684_700.out
          have hnb58 := NB700_708.out
          have hnc58 := NB708_700.out
          have hcz59_0 : wc.cell? ⟨gb700, 0, none⟩ = some (.slice Ao23 t693.length co23) := (blk_cell BK700.out 0).trans rfl
          have hcz59_1 : wc.cell? ⟨gb700, 1, none⟩ = some (.slice Ao26 t696.length co26) := (blk_cell BK700.out 1).trans rfl
          have hfz59_0 := blk_frozen BK700.out 0
          have hfz59_1 := blk_frozen BK700.out 1
          try go_wp2_with (first | ((with_reducible refine gate_callee (f := 36) rfl ?_); refine goesL_ (some 68) rfl rfl Try.func36 (by kernel_rfl) rfl #[.agg #[.slice Ao23 t693.length co23, .slice Ao26 t696.length co26], .int .i64 x6_3] rfl (ar__) ?_; (with_reducible refine (impl_Crash.calls kj18 _ _ t693 _ _ t696 x6_3 t713 t716 _ ?side1 ?side2 ?side3 ?side4 A51.out).mono ?_); (case side1 => repeat (first | exact (Kd.R_reads' HO_701000.out).2.2 | (with_reducible refine Kd.C_alloc ?_ _) | (with_reducible refine Kd.C_drewN ?_ _) | (with_reducible refine Kd.C_drew ?_))); (case side2 => exact (Kd.R_reads' HO_701000.out).2.1); (case side3 => repeat (first | exact (Kd.R_reads' HO_701001.out).2.2 | (with_reducible refine Kd.C_alloc ?_ _) | (with_reducible refine Kd.C_drewN ?_ _) | (with_reducible refine Kd.C_drew ?_))); (case side4 => exact (Kd.R_reads' HO_701001.out).2.1); rintro e w60 ⟨v714, v717, rfl, ho0, ho1, hb⟩; refine ⟨_, rfl, ?_⟩; have n0_ := Aside0.mk (Kd.R_mono (Kd.R_told (Kd.R_told (Kd.R_old (rr__ HO_685000.out) hb) (Kd.R_base ho0)) (Kd.R_base ho1)) h1__); have n1_ := Aside0.mk (Kd.R_mono (Kd.R_told (Kd.R_told (Kd.R_old (rr__ HO_685001.out) hb) (Kd.R_base ho0)) (Kd.R_base ho1)) h1__); have n2_ := Aside0.mk (Kd.R_mono (Kd.R_told (Kd.R_told (Kd.R_old (rr__ HO_701000.out) hb) (Kd.R_base ho0)) (Kd.R_base ho1)) h1__); have n3_ := Aside0.mk (Kd.R_mono (Kd.R_told (Kd.R_told (Kd.R_old (rr__ HO_701001.out) hb) (Kd.R_base ho0)) (Kd.R_base ho1)) h1__); have n4_ := Aside0.mk (Kd.R_mono (Kd.R_told (Kd.R_told (Kd.R_old (rr__ HO_709000.out) hb) (Kd.R_base ho0)) (Kd.R_base ho1)) h1__); have n5_ := Aside0.mk (Kd.R_mono (Kd.R_told (Kd.R_told (Kd.R_old (rr__ HO_709001.out) hb) (Kd.R_base ho0)) (Kd.R_base ho1)) h1__); have n6_ := Aside0.mk (Kd.R_lower (Kd.R_new' (Kd.R_new' (Kd.R_new' (Kd.R_new' (Kd.R_new' (Kd.R_new' ho0 (Kd.R_lt (rr__ HO_685000.out))) (Kd.R_lt (rr__ HO_685001.out))) (Kd.R_lt (rr__ HO_701000.out))) (Kd.R_lt (rr__ HO_701001.out))) (Kd.R_lt (rr__ HO_709000.out))) (Kd.R_lt (rr__ HO_709001.out))) (below_size (bel__))); have n7_ := Aside0.mk (Kd.R_lower (Kd.R_new' (Kd.R_new' (Kd.R_new' (Kd.R_new' (Kd.R_new' (Kd.R_new' ho1 (Kd.R_lt (rr__ HO_685000.out))) (Kd.R_lt (rr__ HO_685001.out))) (Kd.R_lt (rr__ HO_701000.out))) (Kd.R_lt (rr__ HO_701001.out))) (Kd.R_lt (rr__ HO_709000.out))) (Kd.R_lt (rr__ HO_709001.out))) (below_size (bel__))); have n8_ := Aside0.mk (blb__ BK684.out hb); have n9_ := Aside0.mk (blb__ BK700.out hb); have n10_ := Aside0.mk (blb__ BK708.out hb); have n11_ := Aside0.mk (below_step (bel__) hb); clear HO_685000; clear HO_685001; clear HO_701000; clear HO_701001; clear HO_709000; clear HO_709001; clear BK684; clear BK700; clear BK708; clear HB; have HO_685000 := n0_; have HO_685001 := n1_; have HO_701000 := n2_; have HO_701001 := n3_; have HO_709000 := n4_; have HO_709001 := n5_; have HO715 := n6_; have HO718 := n7_; have BK684 := n8_; have BK700 := n9_; have BK708 := n10_; have HB := n11_; clear n0_ n1_ n2_ n3_ n4_ n5_ n6_ n7_ n8_ n9_ n10_ n11_; (try clear hb); (try clear hb2); (try clear hk); (try clear hi); (try clear ho0); (try clear ho1)) | ((with_reducible refine gate_dst (N := 11) rfl ?_); (try (refine gate_guard (by rfl) ?_; dsimp only)); refine box_event ?hg (N := 11) ?hd (cs := #[.slice none 0 0, .slice none 0 0]) (t := 30) ?hr ?_; (case hd => rfl); (case hg => rfl); (case hr => first | (go_simp; done) | (go_simp; rfl)); intro gb719 hg w61 hbox hb; have n0_ := Aside0.mk (Kd.R_below (rr__ HO_685000.out) hb); have n1_ := Aside0.mk (Kd.R_below (rr__ HO_685001.out) hb); have n2_ := Aside0.mk (Kd.R_below (rr__ HO_701000.out) hb); have n3_ := Aside0.mk (Kd.R_below (rr__ HO_701001.out) hb); have n4_ := Aside0.mk (Kd.R_below (rr__ HO_709000.out) hb); have n5_ := Aside0.mk (Kd.R_below (rr__ HO_709001.out) hb); have n6_ := Aside0.mk (Kd.R_below (rr__ HO715.out) hb); have n7_ := Aside0.mk (Kd.R_below (rr__ HO718.out) hb); have n8_ := Aside0.mk (blb__ BK684.out hb); have n9_ := Aside0.mk (blb__ BK700.out hb); have n10_ := Aside0.mk (blb__ BK708.out hb); have n11_ := Aside0.mk (below_step (bel__) hb); have n12_ := Aside0.mk (hbox); have n13_ := Aside0.mk ((by rw [hg]; exact (below_size (bel__)) : w.heap.size ≤ gb719)); have n14_ := Aside0.mk ((by rw [hg]; exact (below_size (bel__)) : w.heap.size ≤ gb719)); have n15_ := Aside0.mk ((nl__ hg BK684.out : gb684 ≠ gb719)); have n16_ := Aside0.mk ((ng__ hg BK684.out : gb719 ≠ gb684)); have n17_ := Aside0.mk ((nl__ hg BK700.out : gb700 ≠ gb719)); have n18_ := Aside0.mk ((ng__ hg BK700.out : gb719 ≠ gb700)); have n19_ := Aside0.mk ((nl__ hg BK708.out : gb708 ≠ gb719)); have n20_ := Aside0.mk ((ng__ hg BK708.out : gb719 ≠ gb708)); clear HO_685000; clear HO_685001; clear HO_701000; clear HO_701001; clear HO_709000; clear HO_709001; clear HO715; clear HO718; clear BK684; clear BK700; clear BK708; clear HB; have HO_685000 := n0_; have HO_685001 := n1_; have HO_701000 := n2_; have HO_701001 := n3_; have HO_709000 := n4_; have HO_709001 := n5_; have HO715 := n6_; have HO718 := n7_; have BK684 := n8_; have BK700 := n9_; have BK708 := n10_; have HB := n11_; have BK719 := n12_; have GW719 := n13_; have GE719 := n14_; have NB684_719 := n15_; have NB719_684 := n16_; have NB700_719 := n17_; have NB719_700 := n18_; have NB708_719 := n19_; have NB719_708 := n20_; clear n0_ n1_ n2_ n3_ n4_ n5_ n6_ n7_ n8_ n9_ n10_ n11_ n12_ n13_ n14_ n15_ n16_ n17_ n18_ n19_ n20_; clear hb hbox hg; obtain ⟨Ao62, co62, eo62⟩ := Kd.R_slice HO715.out; subst eo62; have hnb63 := NB719_684.out; have hnc63 := NB684_719.out; have hnb64 := NB719_700.out; have hnc64 := NB700_719.out; have hnb65 := NB719_708.out; have hnc65 := NB708_719.out; have hcz66_0 : w61.cell? ⟨gb719, 0, none⟩ = some (.slice none 0 0) := (blk_cell BK719.out 0).trans rfl; have hcz66_1 : w61.cell? ⟨gb719, 1, none⟩ = some (.slice none 0 0) := (blk_cell BK719.out 1).trans rfl; have hfz66_0 := blk_frozen BK719.out 0; have hfz66_1 := blk_frozen BK719.out 1; obtain ⟨Ao67, co67, eo67⟩ := Kd.R_slice HO718.out; subst eo67; have hcz68_0 : w61.cell? ⟨gb700, 0, none⟩ = some (.slice Ao23 t693.length co23) := (blk_cell BK700.out 0).trans rfl; have hcz68_1 : w61.cell? ⟨gb700, 1, none⟩ = some (.slice Ao26 t696.length co26) := (blk_cell BK700.out 1).trans rfl; have hfz68_0 := blk_frozen BK700.out 0; have hfz68_1 := blk_frozen BK700.out 1) | ((with_reducible refine gate_callee (f := 32) rfl ?_); refine goesL_ (some 70) rfl rfl Try.func32 (by kernel_rfl) rfl #[.agg #[.slice Ao23 t693.length co23, .slice Ao26 t696.length co26]] rfl (ar__) ?_; (with_reducible refine (impl_Sync.calls kj18 _ _ t693 _ _ t696 t720 t723 _ ?side1 ?side2 ?side3 ?side4 A52.out).mono ?_); (case side1 => refine (Kd.R_reads' (e := 9) (base := w.heap.size) (ok := fun k_ => (((some k_ ≠ (ob__ Ao7 t677.length co7) ∧ (some k_ ≠ (ob__ Ao9 t680.length co9) ∧ (some k_ ≠ (ob__ Ao26 t696.length co26) ∧ (some k_ ≠ (ob__ Ao30 t701.length co30) ∧ some k_ ≠ (ob__ Ao34 t704.length co34))))) ∧ some k_ ≠ (ob__ Ao62 t713.length co62)) ∧ some k_ ≠ (ob__ Ao67 t716.length co67))) (n := t693.length) (c := co23) ?_).2.2; exact (by (with_reducible repeat (first | apply Kd.R_alloc | apply Kd.R_drewN | apply Kd.R_drew)); exact (Kd.R_mono (Kd.R_far (p := ⟨gb719, 1, none⟩) (Kd.R_far (p := ⟨gb719, 0, none⟩) (Kd.R_types HO_701000.out BK719.out (by decide)) h2__ (.slice Ao62 t713.length co62)) h2__ (.slice Ao67 t716.length co67)) h1__))); (case side2 => exact (Kd.R_reads' HO_701000.out).2.1); (case side3 => refine (Kd.R_reads' (e := 9) (base := w.heap.size) (ok := fun k_ => (((some k_ ≠ (ob__ Ao7 t677.length co7) ∧ (some k_ ≠ (ob__ Ao9 t680.length co9) ∧ (some k_ ≠ (ob__ Ao23 t693.length co23) ∧ (some k_ ≠ (ob__ Ao30 t701.length co30) ∧ some k_ ≠ (ob__ Ao34 t704.length co34))))) ∧ some k_ ≠ (ob__ Ao62 t713.length co62)) ∧ some k_ ≠ (ob__ Ao67 t716.length co67))) (n := t696.length) (c := co26) ?_).2.2; exact (by (with_reducible repeat (first | apply Kd.R_alloc | apply Kd.R_drewN | apply Kd.R_drew)); exact (Kd.R_mono (Kd.R_far (p := ⟨gb719, 1, none⟩) (Kd.R_far (p := ⟨gb719, 0, none⟩) (Kd.R_types HO_701001.out BK719.out (by decide)) h2__ (.slice Ao62 t713.length co62)) h2__ (.slice Ao67 t716.length co67)) h1__))); (case side4 => exact (Kd.R_reads' HO_701001.out).2.1); rintro e w69 ⟨v721, v724, rfl, ho0, ho1, hb⟩; refine ⟨_, rfl, ?_⟩; have n0_ := Aside0.mk (Kd.R_mono (Kd.R_told (Kd.R_told (Kd.R_old (by (with_reducible repeat (first | apply Kd.R_alloc | apply Kd.R_drewN | apply Kd.R_drew)); exact (Kd.R_mono (Kd.R_far (p := ⟨gb719, 1, none⟩) (Kd.R_far (p := ⟨gb719, 0, none⟩) (Kd.R_types HO_685000.out BK719.out (by decide)) h2__ (.slice Ao62 t713.length co62)) h2__ (.slice Ao67 t716.length co67)) h1__)) hb) (Kd.R_base ho0)) (Kd.R_base ho1)) h1__); have n1_ := Aside0.mk (Kd.R_mono (Kd.R_told (Kd.R_told (Kd.R_old (by (with_reducible repeat (first | apply Kd.R_alloc | apply Kd.R_drewN | apply Kd.R_drew)); exact (Kd.R_mono (Kd.R_far (p := ⟨gb719, 1, none⟩) (Kd.R_far (p := ⟨gb719, 0, none⟩) (Kd.R_types HO_685001.out BK719.out (by decide)) h2__ (.slice Ao62 t713.length co62)) h2__ (.slice Ao67 t716.length co67)) h1__)) hb) (Kd.R_base ho0)) (Kd.R_base ho1)) h1__); have n2_ := Aside0.mk (Kd.R_mono (Kd.R_told (Kd.R_told (Kd.R_old (by (with_reducible repeat (first | apply Kd.R_alloc | apply Kd.R_drewN | apply Kd.R_drew)); exact (Kd.R_mono (Kd.R_far (p := ⟨gb719, 1, none⟩) (Kd.R_far (p := ⟨gb719, 0, none⟩) (Kd.R_types HO_701000.out BK719.out (by decide)) h2__ (.slice Ao62 t713.length co62)) h2__ (.slice Ao67 t716.length co67)) h1__)) hb) (Kd.R_base ho0)) (Kd.R_base ho1)) h1__); have n3_ := Aside0.mk (Kd.R_mono (Kd.R_told (Kd.R_told (Kd.R_old (by (with_reducible repeat (first | apply Kd.R_alloc | apply Kd.R_drewN | apply Kd.R_drew)); exact (Kd.R_mono (Kd.R_far (p := ⟨gb719, 1, none⟩) (Kd.R_far (p := ⟨gb719, 0, none⟩) (Kd.R_types HO_701001.out BK719.out (by decide)) h2__ (.slice Ao62 t713.length co62)) h2__ (.slice Ao67 t716.length co67)) h1__)) hb) (Kd.R_base ho0)) (Kd.R_base ho1)) h1__); have n4_ := Aside0.mk (Kd.R_mono (Kd.R_told (Kd.R_told (Kd.R_old (by (with_reducible repeat (first | apply Kd.R_alloc | apply Kd.R_drewN | apply Kd.R_drew)); exact (Kd.R_mono (Kd.R_far (p := ⟨gb719, 1, none⟩) (Kd.R_far (p := ⟨gb719, 0, none⟩) (Kd.R_types HO_709000.out BK719.out (by decide)) h2__ (.slice Ao62 t713.length co62)) h2__ (.slice Ao67 t716.length co67)) h1__)) hb) (Kd.R_base ho0)) (Kd.R_base ho1)) h1__); have n5_ := Aside0.mk (Kd.R_mono (Kd.R_told (Kd.R_told (Kd.R_old (by (with_reducible repeat (first | apply Kd.R_alloc | apply Kd.R_drewN | apply Kd.R_drew)); exact (Kd.R_mono (Kd.R_far (p := ⟨gb719, 1, none⟩) (Kd.R_far (p := ⟨gb719, 0, none⟩) (Kd.R_types HO_709001.out BK719.out (by decide)) h2__ (.slice Ao62 t713.length co62)) h2__ (.slice Ao67 t716.length co67)) h1__)) hb) (Kd.R_base ho0)) (Kd.R_base ho1)) h1__); have n6_ := Aside0.mk (Kd.R_mono (Kd.R_told (Kd.R_told (Kd.R_old (by (with_reducible repeat (first | apply Kd.R_alloc | apply Kd.R_drewN | apply Kd.R_drew)); exact (Kd.R_mono (Kd.R_far (p := ⟨gb719, 1, none⟩) (Kd.R_far (p := ⟨gb719, 0, none⟩) (Kd.R_types HO715.out BK719.out (by decide)) h2__ (.slice Ao62 t713.length co62)) h2__ (.slice Ao67 t716.length co67)) h1__)) hb) (Kd.R_base ho0)) (Kd.R_base ho1)) h1__); have n7_ := Aside0.mk (Kd.R_mono (Kd.R_told (Kd.R_told (Kd.R_old (by (with_reducible repeat (first | apply Kd.R_alloc | apply Kd.R_drewN | apply Kd.R_drew)); exact (Kd.R_mono (Kd.R_far (p := ⟨gb719, 1, none⟩) (Kd.R_far (p := ⟨gb719, 0, none⟩) (Kd.R_types HO718.out BK719.out (by decide)) h2__ (.slice Ao62 t713.length co62)) h2__ (.slice Ao67 t716.length co67)) h1__)) hb) (Kd.R_base ho0)) (Kd.R_base ho1)) h1__); have n8_ := Aside0.mk (Kd.R_lower (Kd.R_new' (Kd.R_new' (Kd.R_new' (Kd.R_new' (Kd.R_new' (Kd.R_new' (Kd.R_new' (Kd.R_new' ho0 (Kd.R_lt (by (with_reducible repeat (first | apply Kd.R_alloc | apply Kd.R_drewN | apply Kd.R_drew)); exact (Kd.R_mono (Kd.R_far (p := ⟨gb719, 1, none⟩) (Kd.R_far (p := ⟨gb719, 0, none⟩) (Kd.R_types HO_685000.out BK719.out (by decide)) h2__ (.slice Ao62 t713.length co62)) h2__ (.slice Ao67 t716.length co67)) h1__)))) (Kd.R_lt (by (with_reducible repeat (first | apply Kd.R_alloc | apply Kd.R_drewN | apply Kd.R_drew)); exact (Kd.R_mono (Kd.R_far (p := ⟨gb719, 1, none⟩) (Kd.R_far (p := ⟨gb719, 0, none⟩) (Kd.R_types HO_685001.out BK719.out (by decide)) h2__ (.slice Ao62 t713.length co62)) h2__ (.slice Ao67 t716.length co67)) h1__)))) (Kd.R_lt (by (with_reducible repeat (first | apply Kd.R_alloc | apply Kd.R_drewN | apply Kd.R_drew)); exact (Kd.R_mono (Kd.R_far (p := ⟨gb719, 1, none⟩) (Kd.R_far (p := ⟨gb719, 0, none⟩) (Kd.R_types HO_701000.out BK719.out (by decide)) h2__ (.slice Ao62 t713.length co62)) h2__ (.slice Ao67 t716.length co67)) h1__)))) (Kd.R_lt (by (with_reducible repeat (first | apply Kd.R_alloc | apply Kd.R_drewN | apply Kd.R_drew)); exact (Kd.R_mono (Kd.R_far (p := ⟨gb719, 1, none⟩) (Kd.R_far (p := ⟨gb719, 0, none⟩) (Kd.R_types HO_701001.out BK719.out (by decide)) h2__ (.slice Ao62 t713.length co62)) h2__ (.slice Ao67 t716.length co67)) h1__)))) (Kd.R_lt (by (with_reducible repeat (first | apply Kd.R_alloc | apply Kd.R_drewN | apply Kd.R_drew)); exact (Kd.R_mono (Kd.R_far (p := ⟨gb719, 1, none⟩) (Kd.R_far (p := ⟨gb719, 0, none⟩) (Kd.R_types HO_709000.out BK719.out (by decide)) h2__ (.slice Ao62 t713.length co62)) h2__ (.slice Ao67 t716.length co67)) h1__)))) (Kd.R_lt (by (with_reducible repeat (first | apply Kd.R_alloc | apply Kd.R_drewN | apply Kd.R_drew)); exact (Kd.R_mono (Kd.R_far (p := ⟨gb719, 1, none⟩) (Kd.R_far (p := ⟨gb719, 0, none⟩) (Kd.R_types HO_709001.out BK719.out (by decide)) h2__ (.slice Ao62 t713.length co62)) h2__ (.slice Ao67 t716.length co67)) h1__)))) (Kd.R_lt (by (with_reducible repeat (first | apply Kd.R_alloc | apply Kd.R_drewN | apply Kd.R_drew)); exact (Kd.R_mono (Kd.R_far (p := ⟨gb719, 1, none⟩) (Kd.R_far (p := ⟨gb719, 0, none⟩) (Kd.R_types HO715.out BK719.out (by decide)) h2__ (.slice Ao62 t713.length co62)) h2__ (.slice Ao67 t716.length co67)) h1__)))) (Kd.R_lt (by (with_reducible repeat (first | apply Kd.R_alloc | apply Kd.R_drewN | apply Kd.R_drew)); exact (Kd.R_mono (Kd.R_far (p := ⟨gb719, 1, none⟩) (Kd.R_far (p := ⟨gb719, 0, none⟩) (Kd.R_types HO718.out BK719.out (by decide)) h2__ (.slice Ao62 t713.length co62)) h2__ (.slice Ao67 t716.length co67)) h1__)))) (below_size (bel__))); have n9_ := Aside0.mk (Kd.R_lower (Kd.R_new' (Kd.R_new' (Kd.R_new' (Kd.R_new' (Kd.R_new' (Kd.R_new' (Kd.R_new' (Kd.R_new' ho1 (Kd.R_lt (by (with_reducible repeat (first | apply Kd.R_alloc | apply Kd.R_drewN | apply Kd.R_drew)); exact (Kd.R_mono (Kd.R_far (p := ⟨gb719, 1, none⟩) (Kd.R_far (p := ⟨gb719, 0, none⟩) (Kd.R_types HO_685000.out BK719.out (by decide)) h2__ (.slice Ao62 t713.length co62)) h2__ (.slice Ao67 t716.length co67)) h1__)))) (Kd.R_lt (by (with_reducible repeat (first | apply Kd.R_alloc | apply Kd.R_drewN | apply Kd.R_drew)); exact (Kd.R_mono (Kd.R_far (p := ⟨gb719, 1, none⟩) (Kd.R_far (p := ⟨gb719, 0, none⟩) (Kd.R_types HO_685001.out BK719.out (by decide)) h2__ (.slice Ao62 t713.length co62)) h2__ (.slice Ao67 t716.length co67)) h1__)))) (Kd.R_lt (by (with_reducible repeat (first | apply Kd.R_alloc | apply Kd.R_drewN | apply Kd.R_drew)); exact (Kd.R_mono (Kd.R_far (p := ⟨gb719, 1, none⟩) (Kd.R_far (p := ⟨gb719, 0, none⟩) (Kd.R_types HO_701000.out BK719.out (by decide)) h2__ (.slice Ao62 t713.length co62)) h2__ (.slice Ao67 t716.length co67)) h1__)))) (Kd.R_lt (by (with_reducible repeat (first | apply Kd.R_alloc | apply Kd.R_drewN | apply Kd.R_drew)); exact (Kd.R_mono (Kd.R_far (p := ⟨gb719, 1, none⟩) (Kd.R_far (p := ⟨gb719, 0, none⟩) (Kd.R_types HO_701001.out BK719.out (by decide)) h2__ (.slice Ao62 t713.length co62)) h2__ (.slice Ao67 t716.length co67)) h1__)))) (Kd.R_lt (by (with_reducible repeat (first | apply Kd.R_alloc | apply Kd.R_drewN | apply Kd.R_drew)); exact (Kd.R_mono (Kd.R_far (p := ⟨gb719, 1, none⟩) (Kd.R_far (p := ⟨gb719, 0, none⟩) (Kd.R_types HO_709000.out BK719.out (by decide)) h2__ (.slice Ao62 t713.length co62)) h2__ (.slice Ao67 t716.length co67)) h1__)))) (Kd.R_lt (by (with_reducible repeat (first | apply Kd.R_alloc | apply Kd.R_drewN | apply Kd.R_drew)); exact (Kd.R_mono (Kd.R_far (p := ⟨gb719, 1, none⟩) (Kd.R_far (p := ⟨gb719, 0, none⟩) (Kd.R_types HO_709001.out BK719.out (by decide)) h2__ (.slice Ao62 t713.length co62)) h2__ (.slice Ao67 t716.length co67)) h1__)))) (Kd.R_lt (by (with_reducible repeat (first | apply Kd.R_alloc | apply Kd.R_drewN | apply Kd.R_drew)); exact (Kd.R_mono (Kd.R_far (p := ⟨gb719, 1, none⟩) (Kd.R_far (p := ⟨gb719, 0, none⟩) (Kd.R_types HO715.out BK719.out (by decide)) h2__ (.slice Ao62 t713.length co62)) h2__ (.slice Ao67 t716.length co67)) h1__)))) (Kd.R_lt (by (with_reducible repeat (first | apply Kd.R_alloc | apply Kd.R_drewN | apply Kd.R_drew)); exact (Kd.R_mono (Kd.R_far (p := ⟨gb719, 1, none⟩) (Kd.R_far (p := ⟨gb719, 0, none⟩) (Kd.R_types HO718.out BK719.out (by decide)) h2__ (.slice Ao62 t713.length co62)) h2__ (.slice Ao67 t716.length co67)) h1__)))) (below_size (bel__))); have n10_ := Aside0.mk (blk_below (g := gb684) (o := .cells #[.slice Ao7 t677.length co7, .slice Ao9 t680.length co9] 30 (0, 0)) (by (with_reducible repeat (first | refine blk_drewN ?_ _ | refine blk_drew ?_ | refine blk_alloc ?_ _)); refine blk_far ?_ NB684_719.out _; (with_reducible repeat (first | refine blk_drewN ?_ _ | refine blk_drew ?_ | refine blk_alloc ?_ _)); refine blk_far ?_ NB684_719.out _; (with_reducible repeat (first | refine blk_drewN ?_ _ | refine blk_drew ?_ | refine blk_alloc ?_ _)); exact BK684.out) hb); have n11_ := Aside0.mk (blk_below (g := gb700) (o := .cells #[.slice Ao23 t693.length co23, .slice Ao26 t696.length co26] 30 (0, 0)) (by (with_reducible repeat (first | refine blk_drewN ?_ _ | refine blk_drew ?_ | refine blk_alloc ?_ _)); refine blk_far ?_ NB700_719.out _; (with_reducible repeat (first | refine blk_drewN ?_ _ | refine blk_drew ?_ | refine blk_alloc ?_ _)); refine blk_far ?_ NB700_719.out _; (with_reducible repeat (first | refine blk_drewN ?_ _ | refine blk_drew ?_ | refine blk_alloc ?_ _)); exact BK700.out) hb); have n12_ := Aside0.mk (blk_below (g := gb708) (o := .cells #[.slice Ao30 t701.length co30, .slice Ao34 t704.length co34] 30 (0, 0)) (by (with_reducible repeat (first | refine blk_drewN ?_ _ | refine blk_drew ?_ | refine blk_alloc ?_ _)); refine blk_far ?_ NB708_719.out _; (with_reducible repeat (first | refine blk_drewN ?_ _ | refine blk_drew ?_ | refine blk_alloc ?_ _)); refine blk_far ?_ NB708_719.out _; (with_reducible repeat (first | refine blk_drewN ?_ _ | refine blk_drew ?_ | refine blk_alloc ?_ _)); exact BK708.out) hb); have n13_ := Aside0.mk (blk_below (g := gb719) (o := .cells #[.slice Ao62 t713.length co62, .slice Ao67 t716.length co67] 30 (0, 0)) (by (with_reducible repeat (first | refine blk_drewN ?_ _ | refine blk_drew ?_ | refine blk_alloc ?_ _)); refine blk_put (cs := #[.slice Ao62 t713.length co62, .slice none 0 0]) ?_ 1 _ rfl; (with_reducible repeat (first | refine blk_drewN ?_ _ | refine blk_drew ?_ | refine blk_alloc ?_ _)); refine blk_put (cs := #[.slice none 0 0, .slice none 0 0]) ?_ 0 _ rfl; (with_reducible repeat (first | refine blk_drewN ?_ _ | refine blk_drew ?_ | refine blk_alloc ?_ _)); exact BK719.out) hb); have n14_ := Aside0.mk (below_step (bel__) hb); clear HO_685000; clear HO_685001; clear HO_701000; clear HO_701001; clear HO_709000; clear HO_709001; clear HO715; clear HO718; clear BK684; clear BK700; clear BK708; clear BK719; clear HB; have HO_685000 := n0_; have HO_685001 := n1_; have HO_701000 := n2_; have HO_701001 := n3_; have HO_709000 := n4_; have HO_709001 := n5_; have HO715 := n6_; have HO718 := n7_; have HO722 := n8_; have HO725 := n9_; have BK684 := n10_; have BK700 := n11_; have BK708 := n12_; have BK719 := n13_; have HB := n14_; clear n0_ n1_ n2_ n3_ n4_ n5_ n6_ n7_ n8_ n9_ n10_ n11_ n12_ n13_ n14_; (try clear hb); (try clear hb2); (try clear hk); (try clear hi); (try clear ho0); (try clear ho1)) | ((with_reducible refine gate_dst (N := 12) rfl ?_); (try (refine gate_guard (by rfl) ?_; dsimp only)); refine box_event ?hg (N := 12) ?hd (cs := #[.slice none 0 0, .slice none 0 0]) (t := 30) ?hr ?_; (case hd => rfl); (case hg => rfl); (case hr => first | (go_simp; done) | (go_simp; rfl)); intro gb726 hg w70 hbox hb; have n0_ := Aside0.mk (Kd.R_below (rr__ HO_685000.out) hb); have n1_ := Aside0.mk (Kd.R_below (rr__ HO_685001.out) hb); have n2_ := Aside0.mk (Kd.R_below (rr__ HO_701000.out) hb); have n3_ := Aside0.mk (Kd.R_below (rr__ HO_701001.out) hb); have n4_ := Aside0.mk (Kd.R_below (rr__ HO_709000.out) hb); have n5_ := Aside0.mk (Kd.R_below (rr__ HO_709001.out) hb); have n6_ := Aside0.mk (Kd.R_below (rr__ HO715.out) hb); have n7_ := Aside0.mk (Kd.R_below (rr__ HO718.out) hb); have n8_ := Aside0.mk (Kd.R_below (rr__ HO722.out) hb); have n9_ := Aside0.mk (Kd.R_below (rr__ HO725.out) hb); have n10_ := Aside0.mk (blb__ BK684.out hb); have n11_ := Aside0.mk (blb__ BK700.out hb); have n12_ := Aside0.mk (blb__ BK708.out hb); have n13_ := Aside0.mk (blb__ BK719.out hb); have n14_ := Aside0.mk (below_step (bel__) hb); have n15_ := Aside0.mk (hbox); have n16_ := Aside0.mk ((by rw [hg]; exact (below_size (bel__)) : w.heap.size ≤ gb726)); have n17_ := Aside0.mk ((by rw [hg]; exact (below_size (bel__)) : w.heap.size ≤ gb726)); have n18_ := Aside0.mk ((nl__ hg BK684.out : gb684 ≠ gb726)); have n19_ := Aside0.mk ((ng__ hg BK684.out : gb726 ≠ gb684)); have n20_ := Aside0.mk ((nl__ hg BK700.out : gb700 ≠ gb726)); have n21_ := Aside0.mk ((ng__ hg BK700.out : gb726 ≠ gb700)); have n22_ := Aside0.mk ((nl__ hg BK708.out : gb708 ≠ gb726)); have n23_ := Aside0.mk ((ng__ hg BK708.out : gb726 ≠ gb708)); have n24_ := Aside0.mk ((nl__ hg BK719.out : gb719 ≠ gb726)); have n25_ := Aside0.mk ((ng__ hg BK719.out : gb726 ≠ gb719)); clear HO_685000; clear HO_685001; clear HO_701000; clear HO_701001; clear HO_709000; clear HO_709001; clear HO715; clear HO718; clear HO722; clear HO725; clear BK684; clear BK700; clear BK708; clear BK719; clear HB; have HO_685000 := n0_; have HO_685001 := n1_; have HO_701000 := n2_; have HO_701001 := n3_; have HO_709000 := n4_; have HO_709001 := n5_; have HO715 := n6_; have HO718 := n7_; have HO722 := n8_; have HO725 := n9_; have BK684 := n10_; have BK700 := n11_; have BK708 := n12_; have BK719 := n13_; have HB := n14_; have BK726 := n15_; have GW726 := n16_; have GE726 := n17_; have NB684_726 := n18_; have NB726_684 := n19_; have NB700_726 := n20_; have NB726_700 := n21_; have NB708_726 := n22_; have NB726_708 := n23_; have NB719_726 := n24_; have NB726_719 := n25_; clear n0_ n1_ n2_ n3_ n4_ n5_ n6_ n7_ n8_ n9_ n10_ n11_ n12_ n13_ n14_ n15_ n16_ n17_ n18_ n19_ n20_ n21_ n22_ n23_ n24_ n25_; clear hb hbox hg; obtain ⟨Ao71, co71, eo71⟩ := Kd.R_slice HO722.out; subst eo71; have hnb72 := NB726_684.out; have hnc72 := NB684_726.out; have hnb73 := NB726_700.out; have hnc73 := NB700_726.out; have hnb74 := NB726_708.out; have hnc74 := NB708_726.out; have hnb75 := NB726_719.out; have hnc75 := NB719_726.out; have hcz76_0 : w70.cell? ⟨gb726, 0, none⟩ = some (.slice none 0 0) := (blk_cell BK726.out 0).trans rfl; have hcz76_1 : w70.cell? ⟨gb726, 1, none⟩ = some (.slice none 0 0) := (blk_cell BK726.out 1).trans rfl; have hfz76_0 := blk_frozen BK726.out 0; have hfz76_1 := blk_frozen BK726.out 1; obtain ⟨Ao77, co77, eo77⟩ := Kd.R_slice HO725.out; subst eo77) | ((with_reducible refine gate_callee (f := 36) rfl ?_); refine goesL_ (some 73) rfl rfl Try.func36 (by kernel_rfl) rfl #[.agg #[.slice Ao71 t720.length co71, .slice Ao77 t723.length co77], .int .i64 x6_3] rfl (ar__) ?_; (with_reducible refine (impl_Crash.calls kj18 _ _ t720 _ _ t723 x6_3 t727 t730 _ ?side1 ?side2 ?side3 ?side4 A53.out).mono ?_); (case side1 => refine (Kd.R_reads' (e := 9) (base := w.heap.size) (ok := fun k_ => ((((((((some k_ ≠ (ob__ Ao77 t723.length co77) ∧ some k_ ≠ (ob__ Ao7 t677.length co7)) ∧ some k_ ≠ (ob__ Ao9 t680.length co9)) ∧ some k_ ≠ (ob__ Ao23 t693.length co23)) ∧ some k_ ≠ (ob__ Ao26 t696.length co26)) ∧ some k_ ≠ (ob__ Ao30 t701.length co30)) ∧ some k_ ≠ (ob__ Ao34 t704.length co34)) ∧ some k_ ≠ (ob__ Ao62 t713.length co62)) ∧ some k_ ≠ (ob__ Ao67 t716.length co67))) (n := t720.length) (c := co71) ?_).2.2; exact (by (with_reducible repeat (first | apply Kd.R_alloc | apply Kd.R_drewN | apply Kd.R_drew)); exact (Kd.R_mono (Kd.R_far (p := ⟨gb726, 1, none⟩) (Kd.R_far (p := ⟨gb726, 0, none⟩) (Kd.R_types HO722.out BK726.out (by decide)) h2__ (.slice Ao71 t720.length co71)) h2__ (.slice Ao77 t723.length co77)) h1__))); (case side2 => exact (Kd.R_reads' HO722.out).2.1); (case side3 => refine (Kd.R_reads' (e := 9) (base := w.heap.size) (ok := fun k_ => ((((((((some k_ ≠ (ob__ Ao71 t720.length co71) ∧ some k_ ≠ (ob__ Ao7 t677.length co7)) ∧ some k_ ≠ (ob__ Ao9 t680.length co9)) ∧ some k_ ≠ (ob__ Ao23 t693.length co23)) ∧ some k_ ≠ (ob__ Ao26 t696.length co26)) ∧ some k_ ≠ (ob__ Ao30 t701.length co30)) ∧ some k_ ≠ (ob__ Ao34 t704.length co34)) ∧ some k_ ≠ (ob__ Ao62 t713.length co62)) ∧ some k_ ≠ (ob__ Ao67 t716.length co67))) (n := t723.length) (c := co77) ?_).2.2; exact (by (with_reducible repeat (first | apply Kd.R_alloc | apply Kd.R_drewN | apply Kd.R_drew)); exact (Kd.R_mono (Kd.R_far (p := ⟨gb726, 1, none⟩) (Kd.R_far (p := ⟨gb726, 0, none⟩) (Kd.R_types HO725.out BK726.out (by decide)) h2__ (.slice Ao71 t720.length co71)) h2__ (.slice Ao77 t723.length co77)) h1__))); (case side4 => exact (Kd.R_reads' HO725.out).2.1); rintro e w78 ⟨v728, v731, rfl, ho0, ho1, hb⟩; refine ⟨_, rfl, ?_⟩; have n0_ := Aside0.mk (Kd.R_mono (Kd.R_told (Kd.R_told (Kd.R_old (by (with_reducible repeat (first | apply Kd.R_alloc | apply Kd.R_drewN | apply Kd.R_drew)); exact (Kd.R_mono (Kd.R_far (p := ⟨gb726, 1, none⟩) (Kd.R_far (p := ⟨gb726, 0, none⟩) (Kd.R_types HO_685000.out BK726.out (by decide)) h2__ (.slice Ao71 t720.length co71)) h2__ (.slice Ao77 t723.length co77)) h1__)) hb) (Kd.R_base ho0)) (Kd.R_base ho1)) h1__); have n1_ := Aside0.mk (Kd.R_mono (Kd.R_told (Kd.R_told (Kd.R_old (by (with_reducible repeat (first | apply Kd.R_alloc | apply Kd.R_drewN | apply Kd.R_drew)); exact (Kd.R_mono (Kd.R_far (p := ⟨gb726, 1, none⟩) (Kd.R_far (p := ⟨gb726, 0, none⟩) (Kd.R_types HO_685001.out BK726.out (by decide)) h2__ (.slice Ao71 t720.length co71)) h2__ (.slice Ao77 t723.length co77)) h1__)) hb) (Kd.R_base ho0)) (Kd.R_base ho1)) h1__); have n2_ := Aside0.mk (Kd.R_mono (Kd.R_told (Kd.R_told (Kd.R_old (by (with_reducible repeat (first | apply Kd.R_alloc | apply Kd.R_drewN | apply Kd.R_drew)); exact (Kd.R_mono (Kd.R_far (p := ⟨gb726, 1, none⟩) (Kd.R_far (p := ⟨gb726, 0, none⟩) (Kd.R_types HO_701000.out BK726.out (by decide)) h2__ (.slice Ao71 t720.length co71)) h2__ (.slice Ao77 t723.length co77)) h1__)) hb) (Kd.R_base ho0)) (Kd.R_base ho1)) h1__); have n3_ := Aside0.mk (Kd.R_mono (Kd.R_told (Kd.R_told (Kd.R_old (by (with_reducible repeat (first | apply Kd.R_alloc | apply Kd.R_drewN | apply Kd.R_drew)); exact (Kd.R_mono (Kd.R_far (p := ⟨gb726, 1, none⟩) (Kd.R_far (p := ⟨gb726, 0, none⟩) (Kd.R_types HO_701001.out BK726.out (by decide)) h2__ (.slice Ao71 t720.length co71)) h2__ (.slice Ao77 t723.length co77)) h1__)) hb) (Kd.R_base ho0)) (Kd.R_base ho1)) h1__); have n4_ := Aside0.mk (Kd.R_mono (Kd.R_told (Kd.R_told (Kd.R_old (by (with_reducible repeat (first | apply Kd.R_alloc | apply Kd.R_drewN | apply Kd.R_drew)); exact (Kd.R_mono (Kd.R_far (p := ⟨gb726, 1, none⟩) (Kd.R_far (p := ⟨gb726, 0, none⟩) (Kd.R_types HO_709000.out BK726.out (by decide)) h2__ (.slice Ao71 t720.length co71)) h2__ (.slice Ao77 t723.length co77)) h1__)) hb) (Kd.R_base ho0)) (Kd.R_base ho1)) h1__); have n5_ := Aside0.mk (Kd.R_mono (Kd.R_told (Kd.R_told (Kd.R_old (by (with_reducible repeat (first | apply Kd.R_alloc | apply Kd.R_drewN | apply Kd.R_drew)); exact (Kd.R_mono (Kd.R_far (p := ⟨gb726, 1, none⟩) (Kd.R_far (p := ⟨gb726, 0, none⟩) (Kd.R_types HO_709001.out BK726.out (by decide)) h2__ (.slice Ao71 t720.length co71)) h2__ (.slice Ao77 t723.length co77)) h1__)) hb) (Kd.R_base ho0)) (Kd.R_base ho1)) h1__); have n6_ := Aside0.mk (Kd.R_mono (Kd.R_told (Kd.R_told (Kd.R_old (by (with_reducible repeat (first | apply Kd.R_alloc | apply Kd.R_drewN | apply Kd.R_drew)); exact (Kd.R_mono (Kd.R_far (p := ⟨gb726, 1, none⟩) (Kd.R_far (p := ⟨gb726, 0, none⟩) (Kd.R_types HO715.out BK726.out (by decide)) h2__ (.slice Ao71 t720.length co71)) h2__ (.slice Ao77 t723.length co77)) h1__)) hb) (Kd.R_base ho0)) (Kd.R_base ho1)) h1__); have n7_ := Aside0.mk (Kd.R_mono (Kd.R_told (Kd.R_told (Kd.R_old (by (with_reducible repeat (first | apply Kd.R_alloc | apply Kd.R_drewN | apply Kd.R_drew)); exact (Kd.R_mono (Kd.R_far (p := ⟨gb726, 1, none⟩) (Kd.R_far (p := ⟨gb726, 0, none⟩) (Kd.R_types HO718.out BK726.out (by decide)) h2__ (.slice Ao71 t720.length co71)) h2__ (.slice Ao77 t723.length co77)) h1__)) hb) (Kd.R_base ho0)) (Kd.R_base ho1)) h1__); have n8_ := Aside0.mk (Kd.R_mono (Kd.R_told (Kd.R_told (Kd.R_old (by (with_reducible repeat (first | apply Kd.R_alloc | apply Kd.R_drewN | apply Kd.R_drew)); exact (Kd.R_mono (Kd.R_far (p := ⟨gb726, 1, none⟩) (Kd.R_far (p := ⟨gb726, 0, none⟩) (Kd.R_types HO722.out BK726.out (by decide)) h2__ (.slice Ao71 t720.length co71)) h2__ (.slice Ao77 t723.length co77)) h1__)) hb) (Kd.R_base ho0)) (Kd.R_base ho1)) h1__); have n9_ := Aside0.mk (Kd.R_mono (Kd.R_told (Kd.R_told (Kd.R_old (by (with_reducible repeat (first | apply Kd.R_alloc | apply Kd.R_drewN | apply Kd.R_drew)); exact (Kd.R_mono (Kd.R_far (p := ⟨gb726, 1, none⟩) (Kd.R_far (p := ⟨gb726, 0, none⟩) (Kd.R_types HO725.out BK726.out (by decide)) h2__ (.slice Ao71 t720.length co71)) h2__ (.slice Ao77 t723.length co77)) h1__)) hb) (Kd.R_base ho0)) (Kd.R_base ho1)) h1__); have n10_ := Aside0.mk (Kd.R_lower (Kd.R_new' (Kd.R_new' (Kd.R_new' (Kd.R_new' (Kd.R_new' (Kd.R_new' (Kd.R_new' (Kd.R_new' (Kd.R_new' (Kd.R_new' ho0 (Kd.R_lt (by (with_reducible repeat (first | apply Kd.R_alloc | apply Kd.R_drewN | apply Kd.R_drew)); exact (Kd.R_mono (Kd.R_far (p := ⟨gb726, 1, none⟩) (Kd.R_far (p := ⟨gb726, 0, none⟩) (Kd.R_types HO_685000.out BK726.out (by decide)) h2__ (.slice Ao71 t720.length co71)) h2__ (.slice Ao77 t723.length co77)) h1__)))) (Kd.R_lt (by (with_reducible repeat (first | apply Kd.R_alloc | apply Kd.R_drewN | apply Kd.R_drew)); exact (Kd.R_mono (Kd.R_far (p := ⟨gb726, 1, none⟩) (Kd.R_far (p := ⟨gb726, 0, none⟩) (Kd.R_types HO_685001.out BK726.out (by decide)) h2__ (.slice Ao71 t720.length co71)) h2__ (.slice Ao77 t723.length co77)) h1__)))) (Kd.R_lt (by (with_reducible repeat (first | apply Kd.R_alloc | apply Kd.R_drewN | apply Kd.R_drew)); exact (Kd.R_mono (Kd.R_far (p := ⟨gb726, 1, none⟩) (Kd.R_far (p := ⟨gb726, 0, none⟩) (Kd.R_types HO_701000.out BK726.out (by decide)) h2__ (.slice Ao71 t720.length co71)) h2__ (.slice Ao77 t723.length co77)) h1__)))) (Kd.R_lt (by (with_reducible repeat (first | apply Kd.R_alloc | apply Kd.R_drewN | apply Kd.R_drew)); exact (Kd.R_mono (Kd.R_far (p := ⟨gb726, 1, none⟩) (Kd.R_far (p := ⟨gb726, 0, none⟩) (Kd.R_types HO_701001.out BK726.out (by decide)) h2__ (.slice Ao71 t720.length co71)) h2__ (.slice Ao77 t723.length co77)) h1__)))) (Kd.R_lt (by (with_reducible repeat (first | apply Kd.R_alloc | apply Kd.R_drewN | apply Kd.R_drew)); exact (Kd.R_mono (Kd.R_far (p := ⟨gb726, 1, none⟩) (Kd.R_far (p := ⟨gb726, 0, none⟩) (Kd.R_types HO_709000.out BK726.out (by decide)) h2__ (.slice Ao71 t720.length co71)) h2__ (.slice Ao77 t723.length co77)) h1__)))) (Kd.R_lt (by (with_reducible repeat (first | apply Kd.R_alloc | apply Kd.R_drewN | apply Kd.R_drew)); exact (Kd.R_mono (Kd.R_far (p := ⟨gb726, 1, none⟩) (Kd.R_far (p := ⟨gb726, 0, none⟩) (Kd.R_types HO_709001.out BK726.out (by decide)) h2__ (.slice Ao71 t720.length co71)) h2__ (.slice Ao77 t723.length co77)) h1__)))) (Kd.R_lt (by (with_reducible repeat (first | apply Kd.R_alloc | apply Kd.R_drewN | apply Kd.R_drew)); exact (Kd.R_mono (Kd.R_far (p := ⟨gb726, 1, none⟩) (Kd.R_far (p := ⟨gb726, 0, none⟩) (Kd.R_types HO715.out BK726.out (by decide)) h2__ (.slice Ao71 t720.length co71)) h2__ (.slice Ao77 t723.length co77)) h1__)))) (Kd.R_lt (by (with_reducible repeat (first | apply Kd.R_alloc | apply Kd.R_drewN | apply Kd.R_drew)); exact (Kd.R_mono (Kd.R_far (p := ⟨gb726, 1, none⟩) (Kd.R_far (p := ⟨gb726, 0, none⟩) (Kd.R_types HO718.out BK726.out (by decide)) h2__ (.slice Ao71 t720.length co71)) h2__ (.slice Ao77 t723.length co77)) h1__)))) (Kd.R_lt (by (with_reducible repeat (first | apply Kd.R_alloc | apply Kd.R_drewN | apply Kd.R_drew)); exact (Kd.R_mono (Kd.R_far (p := ⟨gb726, 1, none⟩) (Kd.R_far (p := ⟨gb726, 0, none⟩) (Kd.R_types HO722.out BK726.out (by decide)) h2__ (.slice Ao71 t720.length co71)) h2__ (.slice Ao77 t723.length co77)) h1__)))) (Kd.R_lt (by (with_reducible repeat (first | apply Kd.R_alloc | apply Kd.R_drewN | apply Kd.R_drew)); exact (Kd.R_mono (Kd.R_far (p := ⟨gb726, 1, none⟩) (Kd.R_far (p := ⟨gb726, 0, none⟩) (Kd.R_types HO725.out BK726.out (by decide)) h2__ (.slice Ao71 t720.length co71)) h2__ (.slice Ao77 t723.length co77)) h1__)))) (below_size (bel__))); have n11_ := Aside0.mk (Kd.R_lower (Kd.R_new' (Kd.R_new' (Kd.R_new' (Kd.R_new' (Kd.R_new' (Kd.R_new' (Kd.R_new' (Kd.R_new' (Kd.R_new' (Kd.R_new' ho1 (Kd.R_lt (by (with_reducible repeat (first | apply Kd.R_alloc | apply Kd.R_drewN | apply Kd.R_drew)); exact (Kd.R_mono (Kd.R_far (p := ⟨gb726, 1, none⟩) (Kd.R_far (p := ⟨gb726, 0, none⟩) (Kd.R_types HO_685000.out BK726.out (by decide)) h2__ (.slice Ao71 t720.length co71)) h2__ (.slice Ao77 t723.length co77)) h1__)))) (Kd.R_lt (by (with_reducible repeat (first | apply Kd.R_alloc | apply Kd.R_drewN | apply Kd.R_drew)); exact (Kd.R_mono (Kd.R_far (p := ⟨gb726, 1, none⟩) (Kd.R_far (p := ⟨gb726, 0, none⟩) (Kd.R_types HO_685001.out BK726.out (by decide)) h2__ (.slice Ao71 t720.length co71)) h2__ (.slice Ao77 t723.length co77)) h1__)))) (Kd.R_lt (by (with_reducible repeat (first | apply Kd.R_alloc | apply Kd.R_drewN | apply Kd.R_drew)); exact (Kd.R_mono (Kd.R_far (p := ⟨gb726, 1, none⟩) (Kd.R_far (p := ⟨gb726, 0, none⟩) (Kd.R_types HO_701000.out BK726.out (by decide)) h2__ (.slice Ao71 t720.length co71)) h2__ (.slice Ao77 t723.length co77)) h1__)))) (Kd.R_lt (by (with_reducible repeat (first | apply Kd.R_alloc | apply Kd.R_drewN | apply Kd.R_drew)); exact (Kd.R_mono (Kd.R_far (p := ⟨gb726, 1, none⟩) (Kd.R_far (p := ⟨gb726, 0, none⟩) (Kd.R_types HO_701001.out BK726.out (by decide)) h2__ (.slice Ao71 t720.length co71)) h2__ (.slice Ao77 t723.length co77)) h1__)))) (Kd.R_lt (by (with_reducible repeat (first | apply Kd.R_alloc | apply Kd.R_drewN | apply Kd.R_drew)); exact (Kd.R_mono (Kd.R_far (p := ⟨gb726, 1, none⟩) (Kd.R_far (p := ⟨gb726, 0, none⟩) (Kd.R_types HO_709000.out BK726.out (by decide)) h2__ (.slice Ao71 t720.length co71)) h2__ (.slice Ao77 t723.length co77)) h1__)))) (Kd.R_lt (by (with_reducible repeat (first | apply Kd.R_alloc | apply Kd.R_drewN | apply Kd.R_drew)); exact (Kd.R_mono (Kd.R_far (p := ⟨gb726, 1, none⟩) (Kd.R_far (p := ⟨gb726, 0, none⟩) (Kd.R_types HO_709001.out BK726.out (by decide)) h2__ (.slice Ao71 t720.length co71)) h2__ (.slice Ao77 t723.length co77)) h1__)))) (Kd.R_lt (by (with_reducible repeat (first | apply Kd.R_alloc | apply Kd.R_drewN | apply Kd.R_drew)); exact (Kd.R_mono (Kd.R_far (p := ⟨gb726, 1, none⟩) (Kd.R_far (p := ⟨gb726, 0, none⟩) (Kd.R_types HO715.out BK726.out (by decide)) h2__ (.slice Ao71 t720.length co71)) h2__ (.slice Ao77 t723.length co77)) h1__)))) (Kd.R_lt (by (with_reducible repeat (first | apply Kd.R_alloc | apply Kd.R_drewN | apply Kd.R_drew)); exact (Kd.R_mono (Kd.R_far (p := ⟨gb726, 1, none⟩) (Kd.R_far (p := ⟨gb726, 0, none⟩) (Kd.R_types HO718.out BK726.out (by decide)) h2__ (.slice Ao71 t720.length co71)) h2__ (.slice Ao77 t723.length co77)) h1__)))) (Kd.R_lt (by (with_reducible repeat (first | apply Kd.R_alloc | apply Kd.R_drewN | apply Kd.R_drew)); exact (Kd.R_mono (Kd.R_far (p := ⟨gb726, 1, none⟩) (Kd.R_far (p := ⟨gb726, 0, none⟩) (Kd.R_types HO722.out BK726.out (by decide)) h2__ (.slice Ao71 t720.length co71)) h2__ (.slice Ao77 t723.length co77)) h1__)))) (Kd.R_lt (by (with_reducible repeat (first | apply Kd.R_alloc | apply Kd.R_drewN | apply Kd.R_drew)); exact (Kd.R_mono (Kd.R_far (p := ⟨gb726, 1, none⟩) (Kd.R_far (p := ⟨gb726, 0, none⟩) (Kd.R_types HO725.out BK726.out (by decide)) h2__ (.slice Ao71 t720.length co71)) h2__ (.slice Ao77 t723.length co77)) h1__)))) (below_size (bel__))); have n12_ := Aside0.mk (blk_below (g := gb684) (o := .cells #[.slice Ao7 t677.length co7, .slice Ao9 t680.length co9] 30 (0, 0)) (by (with_reducible repeat (first | refine blk_drewN ?_ _ | refine blk_drew ?_ | refine blk_alloc ?_ _)); refine blk_far ?_ NB684_726.out _; (with_reducible repeat (first | refine blk_drewN ?_ _ | refine blk_drew ?_ | refine blk_alloc ?_ _)); refine blk_far ?_ NB684_726.out _; (with_reducible repeat (first | refine blk_drewN ?_ _ | refine blk_drew ?_ | refine blk_alloc ?_ _)); exact BK684.out) hb); have n13_ := Aside0.mk (blk_below (g := gb700) (o := .cells #[.slice Ao23 t693.length co23, .slice Ao26 t696.length co26] 30 (0, 0)) (by (with_reducible repeat (first | refine blk_drewN ?_ _ | refine blk_drew ?_ | refine blk_alloc ?_ _)); refine blk_far ?_ NB700_726.out _; (with_reducible repeat (first | refine blk_drewN ?_ _ | refine blk_drew ?_ | refine blk_alloc ?_ _)); refine blk_far ?_ NB700_726.out _; (with_reducible repeat (first | refine blk_drewN ?_ _ | refine blk_drew ?_ | refine blk_alloc ?_ _)); exact BK700.out) hb); have n14_ := Aside0.mk (blk_below (g := gb708) (o := .cells #[.slice Ao30 t701.length co30, .slice Ao34 t704.length co34] 30 (0, 0)) (by (with_reducible repeat (first | refine blk_drewN ?_ _ | refine blk_drew ?_ | refine blk_alloc ?_ _)); refine blk_far ?_ NB708_726.out _; (with_reducible repeat (first | refine blk_drewN ?_ _ | refine blk_drew ?_ | refine blk_alloc ?_ _)); refine blk_far ?_ NB708_726.out _; (with_reducible repeat (first | refine blk_drewN ?_ _ | refine blk_drew ?_ | refine blk_alloc ?_ _)); exact BK708.out) hb); have n15_ := Aside0.mk (blk_below (g := gb719) (o := .cells #[.slice Ao62 t713.length co62, .slice Ao67 t716.length co67] 30 (0, 0)) (by (with_reducible repeat (first | refine blk_drewN ?_ _ | refine blk_drew ?_ | refine blk_alloc ?_ _)); refine blk_far ?_ NB719_726.out _; (with_reducible repeat (first | refine blk_drewN ?_ _ | refine blk_drew ?_ | refine blk_alloc ?_ _)); refine blk_far ?_ NB719_726.out _; (with_reducible repeat (first | refine blk_drewN ?_ _ | refine blk_drew ?_ | refine blk_alloc ?_ _)); exact BK719.out) hb); have n16_ := Aside0.mk (blk_below (g := gb726) (o := .cells #[.slice Ao71 t720.length co71, .slice Ao77 t723.length co77] 30 (0, 0)) (by (with_reducible repeat (first | refine blk_drewN ?_ _ | refine blk_drew ?_ | refine blk_alloc ?_ _)); refine blk_put (cs := #[.slice Ao71 t720.length co71, .slice none 0 0]) ?_ 1 _ rfl; (with_reducible repeat (first | refine blk_drewN ?_ _ | refine blk_drew ?_ | refine blk_alloc ?_ _)); refine blk_put (cs := #[.slice none 0 0, .slice none 0 0]) ?_ 0 _ rfl; (with_reducible repeat (first | refine blk_drewN ?_ _ | refine blk_drew ?_ | refine blk_alloc ?_ _)); exact BK726.out) hb); have n17_ := Aside0.mk (below_step (bel__) hb); clear HO_685000; clear HO_685001; clear HO_701000; clear HO_701001; clear HO_709000; clear HO_709001; clear HO715; clear HO718; clear HO722; clear HO725; clear BK684; clear BK700; clear BK708; clear BK719; clear BK726; clear HB; have HO_685000 := n0_; have HO_685001 := n1_; have HO_701000 := n2_; have HO_701001 := n3_; have HO_709000 := n4_; have HO_709001 := n5_; have HO715 := n6_; have HO718 := n7_; have HO722 := n8_; have HO725 := n9_; have HO729 := n10_; have HO732 := n11_; have BK684 := n12_; have BK700 := n13_; have BK708 := n14_; have BK719 := n15_; have BK726 := n16_; have HB := n17_; clear n0_ n1_ n2_ n3_ n4_ n5_ n6_ n7_ n8_ n9_ n10_ n11_ n12_ n13_ n14_ n15_ n16_ n17_; (try clear hb); (try clear hb2); (try clear hk); (try clear hi); (try clear ho0); (try clear ho1)) | ((with_reducible refine gate_dst (N := 13) rfl ?_); (try (refine gate_guard (by rfl) ?_; dsimp only)); refine box_event ?hg (N := 13) ?hd (cs := #[.slice none 0 0, .slice none 0 0]) (t := 30) ?hr ?_; (case hd => rfl); (case hg => rfl); (case hr => first | (go_simp; done) | (go_simp; rfl)); intro gb733 hg w79 hbox hb; have n0_ := Aside0.mk (Kd.R_below (rr__ HO_685000.out) hb); have n1_ := Aside0.mk (Kd.R_below (rr__ HO_685001.out) hb); have n2_ := Aside0.mk (Kd.R_below (rr__ HO_701000.out) hb); have n3_ := Aside0.mk (Kd.R_below (rr__ HO_701001.out) hb); have n4_ := Aside0.mk (Kd.R_below (rr__ HO_709000.out) hb); have n5_ := Aside0.mk (Kd.R_below (rr__ HO_709001.out) hb); have n6_ := Aside0.mk (Kd.R_below (rr__ HO715.out) hb); have n7_ := Aside0.mk (Kd.R_below (rr__ HO718.out) hb); have n8_ := Aside0.mk (Kd.R_below (rr__ HO722.out) hb); have n9_ := Aside0.mk (Kd.R_below (rr__ HO725.out) hb); have n10_ := Aside0.mk (Kd.R_below (rr__ HO729.out) hb); have n11_ := Aside0.mk (Kd.R_below (rr__ HO732.out) hb); have n12_ := Aside0.mk (blb__ BK684.out hb); have n13_ := Aside0.mk (blb__ BK700.out hb); have n14_ := Aside0.mk (blb__ BK708.out hb); have n15_ := Aside0.mk (blb__ BK719.out hb); have n16_ := Aside0.mk (blb__ BK726.out hb); have n17_ := Aside0.mk (below_step (bel__) hb); have n18_ := Aside0.mk (hbox); have n19_ := Aside0.mk ((by rw [hg]; exact (below_size (bel__)) : w.heap.size ≤ gb733)); have n20_ := Aside0.mk ((by rw [hg]; exact (below_size (bel__)) : w.heap.size ≤ gb733)); have n21_ := Aside0.mk ((nl__ hg BK684.out : gb684 ≠ gb733)); have n22_ := Aside0.mk ((ng__ hg BK684.out : gb733 ≠ gb684)); have n23_ := Aside0.mk ((nl__ hg BK700.out : gb700 ≠ gb733)); have n24_ := Aside0.mk ((ng__ hg BK700.out : gb733 ≠ gb700)); have n25_ := Aside0.mk ((nl__ hg BK708.out : gb708 ≠ gb733)); have n26_ := Aside0.mk ((ng__ hg BK708.out : gb733 ≠ gb708)); have n27_ := Aside0.mk ((nl__ hg BK719.out : gb719 ≠ gb733)); have n28_ := Aside0.mk ((ng__ hg BK719.out : gb733 ≠ gb719)); have n29_ := Aside0.mk ((nl__ hg BK726.out : gb726 ≠ gb733)); have n30_ := Aside0.mk ((ng__ hg BK726.out : gb733 ≠ gb726)); clear HO_685000; clear HO_685001; clear HO_701000; clear HO_701001; clear HO_709000; clear HO_709001; clear HO715; clear HO718; clear HO722; clear HO725; clear HO729; clear HO732; clear BK684; clear BK700; clear BK708; clear BK719; clear BK726; clear HB; have HO_685000 := n0_; have HO_685001 := n1_; have HO_701000 := n2_; have HO_701001 := n3_; have HO_709000 := n4_; have HO_709001 := n5_; have HO715 := n6_; have HO718 := n7_; have HO722 := n8_; have HO725 := n9_; have HO729 := n10_; have HO732 := n11_; have BK684 := n12_; have BK700 := n13_; have BK708 := n14_; have BK719 := n15_; have BK726 := n16_; have HB := n17_; have BK733 := n18_; have GW733 := n19_; have GE733 := n20_; have NB684_733 := n21_; have NB733_684 := n22_; have NB700_733 := n23_; have NB733_700 := n24_; have NB708_733 := n25_; have NB733_708 := n26_; have NB719_733 := n27_; have NB733_719 := n28_; have NB726_733 := n29_; have NB733_726 := n30_; clear n0_ n1_ n2_ n3_ n4_ n5_ n6_ n7_ n8_ n9_ n10_ n11_ n12_ n13_ n14_ n15_ n16_ n17_ n18_ n19_ n20_ n21_ n22_ n23_ n24_ n25_ n26_ n27_ n28_ n29_ n30_; clear hb hbox hg; obtain ⟨Ao80, co80, eo80⟩ := Kd.R_slice HO729.out; subst eo80; have hnb81 := NB733_684.out; have hnc81 := NB684_733.out; have hnb82 := NB733_700.out; have hnc82 := NB700_733.out; have hnb83 := NB733_708.out; have hnc83 := NB708_733.out; have hnb84 := NB733_719.out; have hnc84 := NB719_733.out; have hnb85 := NB733_726.out; have hnc85 := NB726_733.out; have hcz86_0 : w79.cell? ⟨gb733, 0, none⟩ = some (.slice none 0 0) := (blk_cell BK733.out 0).trans rfl; have hcz86_1 : w79.cell? ⟨gb733, 1, none⟩ = some (.slice none 0 0) := (blk_cell BK733.out 1).trans rfl; have hfz86_0 := blk_frozen BK733.out 0; have hfz86_1 := blk_frozen BK733.out 1; obtain ⟨Ao87, co87, eo87⟩ := Kd.R_slice HO732.out; subst eo87))
          have n0_ : Aside0 (Kd.R Kd.string 9 ((w79.setCell ⟨gb733, 0, none⟩ (.slice Ao80 t727.length co80)).setCell ⟨gb733, 1, none⟩ (.slice Ao87 t730.length co87)) w.heap.size (fun k_ => some k_ ≠ (ob__ Ao9 t680.length co9) ∧ some k_ ≠ (ob__ Ao23 t693.length co23) ∧ some k_ ≠ (ob__ Ao26 t696.length co26) ∧ some k_ ≠ (ob__ Ao30 t701.length co30) ∧ some k_ ≠ (ob__ Ao34 t704.length co34) ∧ some k_ ≠ (ob__ Ao62 t713.length co62) ∧ some k_ ≠ (ob__ Ao67 t716.length co67) ∧ some k_ ≠ (ob__ Ao71 t720.length co71) ∧ some k_ ≠ (ob__ Ao77 t723.length co77) ∧ some k_ ≠ (ob__ Ao80 t727.length co80) ∧ some k_ ≠ (ob__ Ao87 t730.length co87)) (.slice Ao7 t677.length co7) t677) := ⟨by (with_reducible repeat (first | apply Kd.R_alloc | apply Kd.R_drewN | apply Kd.R_drew)); exact Kd.R_mono (Kd.R_far (p := ⟨gb733, 1, none⟩) (Kd.R_far (p := ⟨gb733, 0, none⟩) (Kd.R_types HO_685000.out BK733.out (by decide)) h2__ (.slice Ao80 t727.length co80)) h2__ (.slice Ao87 t730.length co87)) (fun _ hk => ⟨hk.1.1.1.1.1.1.1.1, ⟨hk.1.1.1.1.1.1.1.2.1, ⟨hk.1.1.1.1.1.1.1.2.2.1, ⟨hk.1.1.1.1.1.1.1.2.2.2.1, ⟨hk.1.1.1.1.1.1.1.2.2.2.2, ⟨hk.1.1.1.1.1.1.2, ⟨hk.1.1.1.1.1.2, ⟨hk.1.1.1.1.2, ⟨hk.1.1.1.2, ⟨hk.1.1.2, hk.1.2⟩⟩⟩⟩⟩⟩⟩⟩⟩⟩)⟩
          have n1_ : Aside0 (Kd.R Kd.string 9 ((w79.setCell ⟨gb733, 0, none⟩ (.slice Ao80 t727.length co80)).setCell ⟨gb733, 1, none⟩ (.slice Ao87 t730.length co87)) w.heap.size (fun k_ => some k_ ≠ (ob__ Ao7 t677.length co7) ∧ some k_ ≠ (ob__ Ao23 t693.length co23) ∧ some k_ ≠ (ob__ Ao26 t696.length co26) ∧ some k_ ≠ (ob__ Ao30 t701.length co30) ∧ some k_ ≠ (ob__ Ao34 t704.length co34) ∧ some k_ ≠ (ob__ Ao62 t713.length co62) ∧ some k_ ≠ (ob__ Ao67 t716.length co67) ∧ some k_ ≠ (ob__ Ao71 t720.length co71) ∧ some k_ ≠ (ob__ Ao77 t723.length co77) ∧ some k_ ≠ (ob__ Ao80 t727.length co80) ∧ some k_ ≠ (ob__ Ao87 t730.length co87)) (.slice Ao9 t680.length co9) t680) := ⟨by (with_reducible repeat (first | apply Kd.R_alloc | apply Kd.R_drewN | apply Kd.R_drew)); exact Kd.R_mono (Kd.R_far (p := ⟨gb733, 1, none⟩) (Kd.R_far (p := ⟨gb733, 0, none⟩) (Kd.R_types HO_685001.out BK733.out (by decide)) h2__ (.slice Ao80 t727.length co80)) h2__ (.slice Ao87 t730.length co87)) (fun _ hk => ⟨hk.1.1.1.1.1.1.1.1, ⟨hk.1.1.1.1.1.1.1.2.1, ⟨hk.1.1.1.1.1.1.1.2.2.1, ⟨hk.1.1.1.1.1.1.1.2.2.2.1, ⟨hk.1.1.1.1.1.1.1.2.2.2.2, ⟨hk.1.1.1.1.1.1.2, ⟨hk.1.1.1.1.1.2, ⟨hk.1.1.1.1.2, ⟨hk.1.1.1.2, ⟨hk.1.1.2, hk.1.2⟩⟩⟩⟩⟩⟩⟩⟩⟩⟩)⟩
          have n2_ : Aside0 (Kd.R Kd.string 9 ((w79.setCell ⟨gb733, 0, none⟩ (.slice Ao80 t727.length co80)).setCell ⟨gb733, 1, none⟩ (.slice Ao87 t730.length co87)) w.heap.size (fun k_ => some k_ ≠ (ob__ Ao7 t677.length co7) ∧ some k_ ≠ (ob__ Ao9 t680.length co9) ∧ some k_ ≠ (ob__ Ao26 t696.length co26) ∧ some k_ ≠ (ob__ Ao30 t701.length co30) ∧ some k_ ≠ (ob__ Ao34 t704.length co34) ∧ some k_ ≠ (ob__ Ao62 t713.length co62) ∧ some k_ ≠ (ob__ Ao67 t716.length co67) ∧ some k_ ≠ (ob__ Ao71 t720.length co71) ∧ some k_ ≠ (ob__ Ao77 t723.length co77) ∧ some k_ ≠ (ob__ Ao80 t727.length co80) ∧ some k_ ≠ (ob__ Ao87 t730.length co87)) (.slice Ao23 t693.length co23) t693) := ⟨by (with_reducible repeat (first | apply Kd.R_alloc | apply Kd.R_drewN | apply Kd.R_drew)); exact Kd.R_mono (Kd.R_far (p := ⟨gb733, 1, none⟩) (Kd.R_far (p := ⟨gb733, 0, none⟩) (Kd.R_types HO_701000.out BK733.out (by decide)) h2__ (.slice Ao80 t727.length co80)) h2__ (.slice Ao87 t730.length co87)) (fun _ hk => ⟨hk.1.1.1.1.1.1.1.1, ⟨hk.1.1.1.1.1.1.1.2.1, ⟨hk.1.1.1.1.1.1.1.2.2.1, ⟨hk.1.1.1.1.1.1.1.2.2.2.1, ⟨hk.1.1.1.1.1.1.1.2.2.2.2, ⟨hk.1.1.1.1.1.1.2, ⟨hk.1.1.1.1.1.2, ⟨hk.1.1.1.1.2, ⟨hk.1.1.1.2, ⟨hk.1.1.2, hk.1.2⟩⟩⟩⟩⟩⟩⟩⟩⟩⟩)⟩
          have n3_ : Aside0 (Kd.R Kd.string 9 ((w79.setCell ⟨gb733, 0, none⟩ (.slice Ao80 t727.length co80)).setCell ⟨gb733, 1, none⟩ (.slice Ao87 t730.length co87)) w.heap.size (fun k_ => some k_ ≠ (ob__ Ao7 t677.length co7) ∧ some k_ ≠ (ob__ Ao9 t680.length co9) ∧ some k_ ≠ (ob__ Ao23 t693.length co23) ∧ some k_ ≠ (ob__ Ao30 t701.length co30) ∧ some k_ ≠ (ob__ Ao34 t704.length co34) ∧ some k_ ≠ (ob__ Ao62 t713.length co62) ∧ some k_ ≠ (ob__ Ao67 t716.length co67) ∧ some k_ ≠ (ob__ Ao71 t720.length co71) ∧ some k_ ≠ (ob__ Ao77 t723.length co77) ∧ some k_ ≠ (ob__ Ao80 t727.length co80) ∧ some k_ ≠ (ob__ Ao87 t730.length co87)) (.slice Ao26 t696.length co26) t696) := ⟨by (with_reducible repeat (first | apply Kd.R_alloc | apply Kd.R_drewN | apply Kd.R_drew)); exact Kd.R_mono (Kd.R_far (p := ⟨gb733, 1, none⟩) (Kd.R_far (p := ⟨gb733, 0, none⟩) (Kd.R_types HO_701001.out BK733.out (by decide)) h2__ (.slice Ao80 t727.length co80)) h2__ (.slice Ao87 t730.length co87)) (fun _ hk => ⟨hk.1.1.1.1.1.1.1.1, ⟨hk.1.1.1.1.1.1.1.2.1, ⟨hk.1.1.1.1.1.1.1.2.2.1, ⟨hk.1.1.1.1.1.1.1.2.2.2.1, ⟨hk.1.1.1.1.1.1.1.2.2.2.2, ⟨hk.1.1.1.1.1.1.2, ⟨hk.1.1.1.1.1.2, ⟨hk.1.1.1.1.2, ⟨hk.1.1.1.2, ⟨hk.1.1.2, hk.1.2⟩⟩⟩⟩⟩⟩⟩⟩⟩⟩)⟩
          have n4_ : Aside0 (Kd.R Kd.string 9 ((w79.setCell ⟨gb733, 0, none⟩ (.slice Ao80 t727.length co80)).setCell ⟨gb733, 1, none⟩ (.slice Ao87 t730.length co87)) w.heap.size (fun k_ => some k_ ≠ (ob__ Ao7 t677.length co7) ∧ some k_ ≠ (ob__ Ao9 t680.length co9) ∧ some k_ ≠ (ob__ Ao23 t693.length co23) ∧ some k_ ≠ (ob__ Ao26 t696.length co26) ∧ some k_ ≠ (ob__ Ao34 t704.length co34) ∧ some k_ ≠ (ob__ Ao62 t713.length co62) ∧ some k_ ≠ (ob__ Ao67 t716.length co67) ∧ some k_ ≠ (ob__ Ao71 t720.length co71) ∧ some k_ ≠ (ob__ Ao77 t723.length co77) ∧ some k_ ≠ (ob__ Ao80 t727.length co80) ∧ some k_ ≠ (ob__ Ao87 t730.length co87)) (.slice Ao30 t701.length co30) t701) := ⟨by (with_reducible repeat (first | apply Kd.R_alloc | apply Kd.R_drewN | apply Kd.R_drew)); exact Kd.R_mono (Kd.R_far (p := ⟨gb733, 1, none⟩) (Kd.R_far (p := ⟨gb733, 0, none⟩) (Kd.R_types HO_709000.out BK733.out (by decide)) h2__ (.slice Ao80 t727.length co80)) h2__ (.slice Ao87 t730.length co87)) (fun _ hk => ⟨hk.1.1.1.1.1.1.1.1, ⟨hk.1.1.1.1.1.1.1.2.1, ⟨hk.1.1.1.1.1.1.1.2.2.1, ⟨hk.1.1.1.1.1.1.1.2.2.2.1, ⟨hk.1.1.1.1.1.1.1.2.2.2.2, ⟨hk.1.1.1.1.1.1.2, ⟨hk.1.1.1.1.1.2, ⟨hk.1.1.1.1.2, ⟨hk.1.1.1.2, ⟨hk.1.1.2, hk.1.2⟩⟩⟩⟩⟩⟩⟩⟩⟩⟩)⟩
          have n5_ : Aside0 (Kd.R Kd.string 9 ((w79.setCell ⟨gb733, 0, none⟩ (.slice Ao80 t727.length co80)).setCell ⟨gb733, 1, none⟩ (.slice Ao87 t730.length co87)) w.heap.size (fun k_ => some k_ ≠ (ob__ Ao7 t677.length co7) ∧ some k_ ≠ (ob__ Ao9 t680.length co9) ∧ some k_ ≠ (ob__ Ao23 t693.length co23) ∧ some k_ ≠ (ob__ Ao26 t696.length co26) ∧ some k_ ≠ (ob__ Ao30 t701.length co30) ∧ some k_ ≠ (ob__ Ao62 t713.length co62) ∧ some k_ ≠ (ob__ Ao67 t716.length co67) ∧ some k_ ≠ (ob__ Ao71 t720.length co71) ∧ some k_ ≠ (ob__ Ao77 t723.length co77) ∧ some k_ ≠ (ob__ Ao80 t727.length co80) ∧ some k_ ≠ (ob__ Ao87 t730.length co87)) (.slice Ao34 t704.length co34) t704) := ⟨by (with_reducible repeat (first | apply Kd.R_alloc | apply Kd.R_drewN | apply Kd.R_drew)); exact Kd.R_mono (Kd.R_far (p := ⟨gb733, 1, none⟩) (Kd.R_far (p := ⟨gb733, 0, none⟩) (Kd.R_types HO_709001.out BK733.out (by decide)) h2__ (.slice Ao80 t727.length co80)) h2__ (.slice Ao87 t730.length co87)) (fun _ hk => ⟨hk.1.1.1.1.1.1.1.1, ⟨hk.1.1.1.1.1.1.1.2.1, ⟨hk.1.1.1.1.1.1.1.2.2.1, ⟨hk.1.1.1.1.1.1.1.2.2.2.1, ⟨hk.1.1.1.1.1.1.1.2.2.2.2, ⟨hk.1.1.1.1.1.1.2, ⟨hk.1.1.1.1.1.2, ⟨hk.1.1.1.1.2, ⟨hk.1.1.1.2, ⟨hk.1.1.2, hk.1.2⟩⟩⟩⟩⟩⟩⟩⟩⟩⟩)⟩
          have n6_ : Aside0 (Kd.R Kd.string 9 ((w79.setCell ⟨gb733, 0, none⟩ (.slice Ao80 t727.length co80)).setCell ⟨gb733, 1, none⟩ (.slice Ao87 t730.length co87)) w.heap.size (fun k_ => some k_ ≠ (ob__ Ao7 t677.length co7) ∧ some k_ ≠ (ob__ Ao9 t680.length co9) ∧ some k_ ≠ (ob__ Ao23 t693.length co23) ∧ some k_ ≠ (ob__ Ao26 t696.length co26) ∧ some k_ ≠ (ob__ Ao30 t701.length co30) ∧ some k_ ≠ (ob__ Ao34 t704.length co34) ∧ some k_ ≠ (ob__ Ao67 t716.length co67) ∧ some k_ ≠ (ob__ Ao71 t720.length co71) ∧ some k_ ≠ (ob__ Ao77 t723.length co77) ∧ some k_ ≠ (ob__ Ao80 t727.length co80) ∧ some k_ ≠ (ob__ Ao87 t730.length co87)) (.slice Ao62 t713.length co62) t713) := ⟨by (with_reducible repeat (first | apply Kd.R_alloc | apply Kd.R_drewN | apply Kd.R_drew)); exact Kd.R_mono (Kd.R_far (p := ⟨gb733, 1, none⟩) (Kd.R_far (p := ⟨gb733, 0, none⟩) (Kd.R_types HO715.out BK733.out (by decide)) h2__ (.slice Ao80 t727.length co80)) h2__ (.slice Ao87 t730.length co87)) (fun _ hk => ⟨hk.1.1.1.1.1.1.1.1.1.1.2, ⟨hk.1.1.1.1.1.1.1.1.1.2, ⟨hk.1.1.1.1.1.1.1.1.2, ⟨hk.1.1.1.1.1.1.1.2, ⟨hk.1.1.1.1.1.1.2, ⟨hk.1.1.1.1.1.2, ⟨hk.1.1.1.1.1.1.1.1.1.1.1, ⟨hk.1.1.1.1.2, ⟨hk.1.1.1.2, ⟨hk.1.1.2, hk.1.2⟩⟩⟩⟩⟩⟩⟩⟩⟩⟩)⟩
          have n7_ : Aside0 (Kd.R Kd.string 9 ((w79.setCell ⟨gb733, 0, none⟩ (.slice Ao80 t727.length co80)).setCell ⟨gb733, 1, none⟩ (.slice Ao87 t730.length co87)) w.heap.size (fun k_ => some k_ ≠ (ob__ Ao7 t677.length co7) ∧ some k_ ≠ (ob__ Ao9 t680.length co9) ∧ some k_ ≠ (ob__ Ao23 t693.length co23) ∧ some k_ ≠ (ob__ Ao26 t696.length co26) ∧ some k_ ≠ (ob__ Ao30 t701.length co30) ∧ some k_ ≠ (ob__ Ao34 t704.length co34) ∧ some k_ ≠ (ob__ Ao62 t713.length co62) ∧ some k_ ≠ (ob__ Ao71 t720.length co71) ∧ some k_ ≠ (ob__ Ao77 t723.length co77) ∧ some k_ ≠ (ob__ Ao80 t727.length co80) ∧ some k_ ≠ (ob__ Ao87 t730.length co87)) (.slice Ao67 t716.length co67) t716) := ⟨by (with_reducible repeat (first | apply Kd.R_alloc | apply Kd.R_drewN | apply Kd.R_drew)); exact Kd.R_mono (Kd.R_far (p := ⟨gb733, 1, none⟩) (Kd.R_far (p := ⟨gb733, 0, none⟩) (Kd.R_types HO718.out BK733.out (by decide)) h2__ (.slice Ao80 t727.length co80)) h2__ (.slice Ao87 t730.length co87)) (fun _ hk => ⟨hk.1.1.1.1.1.1.1.1.1.1.2, ⟨hk.1.1.1.1.1.1.1.1.1.2, ⟨hk.1.1.1.1.1.1.1.1.2, ⟨hk.1.1.1.1.1.1.1.2, ⟨hk.1.1.1.1.1.1.2, ⟨hk.1.1.1.1.1.2, ⟨hk.1.1.1.1.1.1.1.1.1.1.1, ⟨hk.1.1.1.1.2, ⟨hk.1.1.1.2, ⟨hk.1.1.2, hk.1.2⟩⟩⟩⟩⟩⟩⟩⟩⟩⟩)⟩
          have n8_ : Aside0 (Kd.R Kd.string 9 ((w79.setCell ⟨gb733, 0, none⟩ (.slice Ao80 t727.length co80)).setCell ⟨gb733, 1, none⟩ (.slice Ao87 t730.length co87)) w.heap.size (fun k_ => some k_ ≠ (ob__ Ao7 t677.length co7) ∧ some k_ ≠ (ob__ Ao9 t680.length co9) ∧ some k_ ≠ (ob__ Ao23 t693.length co23) ∧ some k_ ≠ (ob__ Ao26 t696.length co26) ∧ some k_ ≠ (ob__ Ao30 t701.length co30) ∧ some k_ ≠ (ob__ Ao34 t704.length co34) ∧ some k_ ≠ (ob__ Ao62 t713.length co62) ∧ some k_ ≠ (ob__ Ao67 t716.length co67) ∧ some k_ ≠ (ob__ Ao77 t723.length co77) ∧ some k_ ≠ (ob__ Ao80 t727.length co80) ∧ some k_ ≠ (ob__ Ao87 t730.length co87)) (.slice Ao71 t720.length co71) t720) := ⟨by (with_reducible repeat (first | apply Kd.R_alloc | apply Kd.R_drewN | apply Kd.R_drew)); exact Kd.R_mono (Kd.R_far (p := ⟨gb733, 1, none⟩) (Kd.R_far (p := ⟨gb733, 0, none⟩) (Kd.R_types HO722.out BK733.out (by decide)) h2__ (.slice Ao80 t727.length co80)) h2__ (.slice Ao87 t730.length co87)) (fun _ hk => ⟨hk.1.1.1.1.1.1.1.1.1.1.2, ⟨hk.1.1.1.1.1.1.1.1.1.2, ⟨hk.1.1.1.1.1.1.1.1.2, ⟨hk.1.1.1.1.1.1.1.2, ⟨hk.1.1.1.1.1.1.2, ⟨hk.1.1.1.1.1.2, ⟨hk.1.1.1.1.2, ⟨hk.1.1.1.2, ⟨hk.1.1.1.1.1.1.1.1.1.1.1, ⟨hk.1.1.2, hk.1.2⟩⟩⟩⟩⟩⟩⟩⟩⟩⟩)⟩
          have n9_ : Aside0 (Kd.R Kd.string 9 ((w79.setCell ⟨gb733, 0, none⟩ (.slice Ao80 t727.length co80)).setCell ⟨gb733, 1, none⟩ (.slice Ao87 t730.length co87)) w.heap.size (fun k_ => some k_ ≠ (ob__ Ao7 t677.length co7) ∧ some k_ ≠ (ob__ Ao9 t680.length co9) ∧ some k_ ≠ (ob__ Ao23 t693.length co23) ∧ some k_ ≠ (ob__ Ao26 t696.length co26) ∧ some k_ ≠ (ob__ Ao30 t701.length co30) ∧ some k_ ≠ (ob__ Ao34 t704.length co34) ∧ some k_ ≠ (ob__ Ao62 t713.length co62) ∧ some k_ ≠ (ob__ Ao67 t716.length co67) ∧ some k_ ≠ (ob__ Ao71 t720.length co71) ∧ some k_ ≠ (ob__ Ao80 t727.length co80) ∧ some k_ ≠ (ob__ Ao87 t730.length co87)) (.slice Ao77 t723.length co77) t723) := ⟨by (with_reducible repeat (first | apply Kd.R_alloc | apply Kd.R_drewN | apply Kd.R_drew)); exact Kd.R_mono (Kd.R_far (p := ⟨gb733, 1, none⟩) (Kd.R_far (p := ⟨gb733, 0, none⟩) (Kd.R_types HO725.out BK733.out (by decide)) h2__ (.slice Ao80 t727.length co80)) h2__ (.slice Ao87 t730.length co87)) (fun _ hk => ⟨hk.1.1.1.1.1.1.1.1.1.1.2, ⟨hk.1.1.1.1.1.1.1.1.1.2, ⟨hk.1.1.1.1.1.1.1.1.2, ⟨hk.1.1.1.1.1.1.1.2, ⟨hk.1.1.1.1.1.1.2, ⟨hk.1.1.1.1.1.2, ⟨hk.1.1.1.1.2, ⟨hk.1.1.1.2, ⟨hk.1.1.1.1.1.1.1.1.1.1.1, ⟨hk.1.1.2, hk.1.2⟩⟩⟩⟩⟩⟩⟩⟩⟩⟩)⟩
          have n10_ : Aside0 (Kd.R Kd.string 9 ((w79.setCell ⟨gb733, 0, none⟩ (.slice Ao80 t727.length co80)).setCell ⟨gb733, 1, none⟩ (.slice Ao87 t730.length co87)) w.heap.size (fun k_ => some k_ ≠ (ob__ Ao7 t677.length co7) ∧ some k_ ≠ (ob__ Ao9 t680.length co9) ∧ some k_ ≠ (ob__ Ao23 t693.length co23) ∧ some k_ ≠ (ob__ Ao26 t696.length co26) ∧ some k_ ≠ (ob__ Ao30 t701.length co30) ∧ some k_ ≠ (ob__ Ao34 t704.length co34) ∧ some k_ ≠ (ob__ Ao62 t713.length co62) ∧ some k_ ≠ (ob__ Ao67 t716.length co67) ∧ some k_ ≠ (ob__ Ao71 t720.length co71) ∧ some k_ ≠ (ob__ Ao77 t723.length co77) ∧ some k_ ≠ (ob__ Ao87 t730.length co87)) (.slice Ao80 t727.length co80) t727) := ⟨by (with_reducible repeat (first | apply Kd.R_alloc | apply Kd.R_drewN | apply Kd.R_drew)); exact Kd.R_mono (Kd.R_far (p := ⟨gb733, 1, none⟩) (Kd.R_far (p := ⟨gb733, 0, none⟩) (Kd.R_types HO729.out BK733.out (by decide)) h2__ (.slice Ao80 t727.length co80)) h2__ (.slice Ao87 t730.length co87)) (fun _ hk => ⟨hk.1.1.1.1.1.1.1.1.1.1.2, ⟨hk.1.1.1.1.1.1.1.1.1.2, ⟨hk.1.1.1.1.1.1.1.1.2, ⟨hk.1.1.1.1.1.1.1.2, ⟨hk.1.1.1.1.1.1.2, ⟨hk.1.1.1.1.1.2, ⟨hk.1.1.1.1.2, ⟨hk.1.1.1.2, ⟨hk.1.1.2, ⟨hk.1.2, hk.1.1.1.1.1.1.1.1.1.1.1⟩⟩⟩⟩⟩⟩⟩⟩⟩⟩)⟩
          have n11_ : Aside0 (Kd.R Kd.string 9 ((w79.setCell ⟨gb733, 0, none⟩ (.slice Ao80 t727.length co80)).setCell ⟨gb733, 1, none⟩ (.slice Ao87 t730.length co87)) w.heap.size (fun k_ => some k_ ≠ (ob__ Ao7 t677.length co7) ∧ some k_ ≠ (ob__ Ao9 t680.length co9) ∧ some k_ ≠ (ob__ Ao23 t693.length co23) ∧ some k_ ≠ (ob__ Ao26 t696.length co26) ∧ some k_ ≠ (ob__ Ao30 t701.length co30) ∧ some k_ ≠ (ob__ Ao34 t704.length co34) ∧ some k_ ≠ (ob__ Ao62 t713.length co62) ∧ some k_ ≠ (ob__ Ao67 t716.length co67) ∧ some k_ ≠ (ob__ Ao71 t720.length co71) ∧ some k_ ≠ (ob__ Ao77 t723.length co77) ∧ some k_ ≠ (ob__ Ao80 t727.length co80)) (.slice Ao87 t730.length co87) t730) := ⟨by (with_reducible repeat (first | apply Kd.R_alloc | apply Kd.R_drewN | apply Kd.R_drew)); exact Kd.R_mono (Kd.R_far (p := ⟨gb733, 1, none⟩) (Kd.R_far (p := ⟨gb733, 0, none⟩) (Kd.R_types HO732.out BK733.out (by decide)) h2__ (.slice Ao80 t727.length co80)) h2__ (.slice Ao87 t730.length co87)) (fun _ hk => ⟨hk.1.1.1.1.1.1.1.1.1.1.2, ⟨hk.1.1.1.1.1.1.1.1.1.2, ⟨hk.1.1.1.1.1.1.1.1.2, ⟨hk.1.1.1.1.1.1.1.2, ⟨hk.1.1.1.1.1.1.2, ⟨hk.1.1.1.1.1.2, ⟨hk.1.1.1.1.2, ⟨hk.1.1.1.2, ⟨hk.1.1.2, ⟨hk.1.2, hk.1.1.1.1.1.1.1.1.1.1.1⟩⟩⟩⟩⟩⟩⟩⟩⟩⟩)⟩
          have n12_ : Aside0 (((w79.setCell ⟨gb733, 0, none⟩ (.slice Ao80 t727.length co80)).setCell ⟨gb733, 1, none⟩ (.slice Ao87 t730.length co87)).heap[gb684]? = some (.cells #[.slice Ao7 t677.length co7, .slice Ao9 t680.length co9] 30 (0, 0))) := ⟨by (with_reducible repeat (first | refine blk_drewN ?_ _ | refine blk_drew ?_ | refine blk_alloc ?_ _)); refine blk_far ?_ NB684_733.out _; (with_reducible repeat (first | refine blk_drewN ?_ _ | refine blk_drew ?_ | refine blk_alloc ?_ _)); refine blk_far ?_ NB684_733.out _; (with_reducible repeat (first | refine blk_drewN ?_ _ | refine blk_drew ?_ | refine blk_alloc ?_ _)); exact BK684.out⟩
          have n13_ : Aside0 (((w79.setCell ⟨gb733, 0, none⟩ (.slice Ao80 t727.length co80)).setCell ⟨gb733, 1, none⟩ (.slice Ao87 t730.length co87)).heap[gb700]? = some (.cells #[.slice Ao23 t693.length co23, .slice Ao26 t696.length co26] 30 (0, 0))) := ⟨by (with_reducible repeat (first | refine blk_drewN ?_ _ | refine blk_drew ?_ | refine blk_alloc ?_ _)); refine blk_far ?_ NB700_733.out _; (with_reducible repeat (first | refine blk_drewN ?_ _ | refine blk_drew ?_ | refine blk_alloc ?_ _)); refine blk_far ?_ NB700_733.out _; (with_reducible repeat (first | refine blk_drewN ?_ _ | refine blk_drew ?_ | refine blk_alloc ?_ _)); exact BK700.out⟩
          have n14_ : Aside0 (((w79.setCell ⟨gb733, 0, none⟩ (.slice Ao80 t727.length co80)).setCell ⟨gb733, 1, none⟩ (.slice Ao87 t730.length co87)).heap[gb708]? = some (.cells #[.slice Ao30 t701.length co30, .slice Ao34 t704.length co34] 30 (0, 0))) := ⟨by (with_reducible repeat (first | refine blk_drewN ?_ _ | refine blk_drew ?_ | refine blk_alloc ?_ _)); refine blk_far ?_ NB708_733.out _; (with_reducible repeat (first | refine blk_drewN ?_ _ | refine blk_drew ?_ | refine blk_alloc ?_ _)); refine blk_far ?_ NB708_733.out _; (with_reducible repeat (first | refine blk_drewN ?_ _ | refine blk_drew ?_ | refine blk_alloc ?_ _)); exact BK708.out⟩
          have n15_ : Aside0 (((w79.setCell ⟨gb733, 0, none⟩ (.slice Ao80 t727.length co80)).setCell ⟨gb733, 1, none⟩ (.slice Ao87 t730.length co87)).heap[gb719]? = some (.cells #[.slice Ao62 t713.length co62, .slice Ao67 t716.length co67] 30 (0, 0))) := ⟨by (with_reducible repeat (first | refine blk_drewN ?_ _ | refine blk_drew ?_ | refine blk_alloc ?_ _)); refine blk_far ?_ NB719_733.out _; (with_reducible repeat (first | refine blk_drewN ?_ _ | refine blk_drew ?_ | refine blk_alloc ?_ _)); refine blk_far ?_ NB719_733.out _; (with_reducible repeat (first | refine blk_drewN ?_ _ | refine blk_drew ?_ | refine blk_alloc ?_ _)); exact BK719.out⟩
          have n16_ : Aside0 (((w79.setCell ⟨gb733, 0, none⟩ (.slice Ao80 t727.length co80)).setCell ⟨gb733, 1, none⟩ (.slice Ao87 t730.length co87)).heap[gb726]? = some (.cells #[.slice Ao71 t720.length co71, .slice Ao77 t723.length co77] 30 (0, 0))) := ⟨by (with_reducible repeat (first | refine blk_drewN ?_ _ | refine blk_drew ?_ | refine blk_alloc ?_ _)); refine blk_far ?_ NB726_733.out _; (with_reducible repeat (first | refine blk_drewN ?_ _ | refine blk_drew ?_ | refine blk_alloc ?_ _)); refine blk_far ?_ NB726_733.out _; (with_reducible repeat (first | refine blk_drewN ?_ _ | refine blk_drew ?_ | refine blk_alloc ?_ _)); exact BK726.out⟩
          have n17_ : Aside0 (((w79.setCell ⟨gb733, 0, none⟩ (.slice Ao80 t727.length co80)).setCell ⟨gb733, 1, none⟩ (.slice Ao87 t730.length co87)).heap[gb733]? = some (.cells #[.slice Ao80 t727.length co80, .slice Ao87 t730.length co87] 30 (0, 0))) := ⟨by (with_reducible repeat (first | refine blk_drewN ?_ _ | refine blk_drew ?_ | refine blk_alloc ?_ _)); refine blk_put (cs := #[.slice Ao80 t727.length co80, .slice none 0 0]) ?_ 1 _ rfl; (with_reducible repeat (first | refine blk_drewN ?_ _ | refine blk_drew ?_ | refine blk_alloc ?_ _)); refine blk_put (cs := #[.slice none 0 0, .slice none 0 0]) ?_ 0 _ rfl; (with_reducible repeat (first | refine blk_drewN ?_ _ | refine blk_drew ?_ | refine blk_alloc ?_ _)); exact BK733.out⟩
          have n18_ : Aside0 (Below w.heap.size w ((w79.setCell ⟨gb733, 0, none⟩ (.slice Ao80 t727.length co80)).setCell ⟨gb733, 1, none⟩ (.slice Ao87 t730.length co87))) := ⟨bel__⟩
          (try clear HO_685000)
          (try clear HO_685001)
          (try clear HO_701000)
          (try clear HO_701001)
          (try clear HO_709000)
          (try clear HO_709001)
          (try clear HO715)
          (try clear HO718)
          (try clear HO722)
          (try clear HO725)
          (try clear HO729)
          (try clear HO732)
          (try clear BK684)
          (try clear BK700)
          (try clear BK708)
          (try clear BK719)
          (try clear BK726)
          (try clear BK733)
          (try clear HB)
          generalize ((w79.setCell ⟨gb733, 0, none⟩ (.slice Ao80 t727.length co80)).setCell ⟨gb733, 1, none⟩ (.slice Ao87 t730.length co87)) = w88 at n0_ n1_ n2_ n3_ n4_ n5_ n6_ n7_ n8_ n9_ n10_ n11_ n12_ n13_ n14_ n15_ n16_ n17_ n18_ ⊢
          have HO_685000 := n0_
          have HO_685001 := n1_
          have HO_701000 := n2_
          have HO_701001 := n3_
          have HO_709000 := n4_
          have HO_709001 := n5_
          have HO715 := n6_
          have HO718 := n7_
          have HO722 := n8_
          have HO725 := n9_
          have HO729 := n10_
          have HO732 := n11_
          have BK684 := n12_
          have BK700 := n13_
          have BK708 := n14_
          have BK719 := n15_
          have BK726 := n16_
          have BK733 := n17_
          have HB := n18_
          clear n0_ n1_ n2_ n3_ n4_ n5_ n6_ n7_ n8_ n9_ n10_ n11_ n12_ n13_ n14_ n15_ n16_ n17_ n18_
          have n0_ := Aside0.mk (Kd.R_drew HO_685000.out)
          have n1_ := Aside0.mk (Kd.R_drew HO_685001.out)
          have n2_ := Aside0.mk (Kd.R_drew HO_701000.out)
          have n3_ := Aside0.mk (Kd.R_drew HO_701001.out)
          have n4_ := Aside0.mk (Kd.R_drew HO_709000.out)
          have n5_ := Aside0.mk (Kd.R_drew HO_709001.out)
          have n6_ := Aside0.mk (Kd.R_drew HO715.out)
          have n7_ := Aside0.mk (Kd.R_drew HO718.out)
          have n8_ := Aside0.mk (Kd.R_drew HO722.out)
          have n9_ := Aside0.mk (Kd.R_drew HO725.out)
          have n10_ := Aside0.mk (Kd.R_drew HO729.out)
          have n11_ := Aside0.mk (Kd.R_drew HO732.out)
          have n12_ := Aside0.mk (blk_drew BK684.out)
          have n13_ := Aside0.mk (blk_drew BK700.out)
          have n14_ := Aside0.mk (blk_drew BK708.out)
          have n15_ := Aside0.mk (blk_drew BK719.out)
          have n16_ := Aside0.mk (blk_drew BK726.out)
          have n17_ := Aside0.mk (blk_drew BK733.out)
          have n18_ := Aside0.mk (below_drew1 HB.out)
          clear HO_685000
          clear HO_685001
          clear HO_701000
          clear HO_701001
          clear HO_709000
          clear HO_709001
          clear HO715
          clear HO718
          clear HO722
          clear HO725
          clear HO729
          clear HO732
          clear BK684
          clear BK700
          clear BK708
          clear BK719
          clear BK726
          clear BK733
          clear HB
          have HO_685000 := n0_
          have HO_685001 := n1_
          have HO_701000 := n2_
          have HO_701001 := n3_
          have HO_709000 := n4_
          have HO_709001 := n5_
          have HO715 := n6_
          have HO718 := n7_
          have HO722 := n8_
          have HO725 := n9_
          have HO729 := n10_
          have HO732 := n11_
          have BK684 := n12_
          have BK700 := n13_
          have BK708 := n14_
          have BK719 := n15_
          have BK726 := n16_
          have BK733 := n17_
          have HB := n18_
          clear n0_ n1_ n2_ n3_ n4_ n5_ n6_ n7_ n8_ n9_ n10_ n11_ n12_ n13_ n14_ n15_ n16_ n17_ n18_
          refine start_ (n := 8) (S := fun w' => w'.cell? ⟨gb684, 0, none⟩ = some (.slice Ao7 t677.length co7) ∧ w'.cell? ⟨gb684, 1, none⟩ = some (.slice Ao9 t680.length co9) ∧ w'.cell? ⟨gb700, 0, none⟩ = some (.slice Ao23 t693.length co23) ∧ w'.cell? ⟨gb700, 1, none⟩ = some (.slice Ao26 t696.length co26)) (ds := []) #[false, false, false, false, false, false, false, false] (by kernel_rfl) rfl rfl ⟨(blk_cell BK684.out 0).trans rfl, (blk_cell BK684.out 1).trans rfl, (blk_cell BK700.out 0).trans rfl, (blk_cell BK700.out 1).trans rfl⟩ (fun hHeld => ?_); refine with_tabW laws_FnLog.tab14 laws_FnLog.bits14 (fun HT_ HW_ => ?_)
          generalize w88.drew = w89 at HO_685000 HO_685001 HO_701000 HO_701001 HO_709000 HO_709001 HO715 HO718 HO722 HO725 HO729 HO732 BK684 BK700 BK708 BK719 BK726 BK733 HB hHeld ⊢
          refine pu__ (i := 1) (N := some 75) #[false, true, false, false, false, false, false, false] HT_.out ?_
          refine pu__ (i := 4) (N := some 78) #[false, true, false, false, true, false, false, false] HT_.out ?_
          refine take_ (i := 2) (N := some 76) (v := ?_) (a' := ?_) #[false, true, true, false, true, false, false, false] rfl rfl (take_ofW HT_.out HW_.out (by kernel_rfl)) (fun _ _ _ h => h) (Or.inl ⟨by rfl, ?_⟩) hHeld ?_ ?_
          rotate_left
          ·rintro w' ⟨s0, s1, s2, s3⟩
           go_simp
           with_reducible rfl
          rotate_left
          ·simp only [Act.put, List.setIfInBounds_toArray, List.set_cons_zero, List.set_cons_succ, i64_w, i32_w]
           rfl
          refine take_ (i := 5) (N := some 79) (v := ?_) (a' := ?_) #[false, true, true, false, true, true, false, false] rfl rfl (take_ofW HT_.out HW_.out (by kernel_rfl)) (fun _ _ _ h => h) (Or.inl ⟨by rfl, ?_⟩) hHeld ?_ ?_
          rotate_left
          ·rintro w' ⟨s0, s1, s2, s3⟩
           go_simp
           with_reducible rfl
          rotate_left
          ·simp only [Act.put, List.setIfInBounds_toArray, List.set_cons_zero, List.set_cons_succ, i64_w, i32_w]
           rfl
          refine one_ (i := 0) (N := some 74) #[true, true, true, false, true, true, false, false] rfl rfl (one_of HT_.out (by kernel_rfl)) (by decide) (fun K hK => ?_)
          refine Kd.R_lit_step Kd.string _ 9 ?hg (N := 74) ?hd (xs := ([] : List ByteArray)) (inner := []) (ok := fun _ => True) (okp := fun _ => True) ?hr ?hp (fun _ hk => hk) trivial (Below.refl _ _) (Nat.le_refl _) (by simp) ?_; (case hd => rfl); (case hg => rfl); (case hr => first | (go_simp; done) | (go_simp; rfl)); (case hp => exact (Reps.none _ _))
          intro v735 w90 ho91 hb hg_ hnew_
          clear hg_ hnew_
          (first | rw [← Ny734.out] at ho91 | (simp only [Int.reduceToNat] at ho91; rw [← Ny734.out] at ho91))
          have n0_ := Aside0.mk (Kd.R_elder' (rr__ HO_685000.out) (Kd.R_base ho91) hb)
          have n1_ := Aside0.mk (Kd.R_elder' (rr__ HO_685001.out) (Kd.R_base ho91) hb)
          have n2_ := Aside0.mk (Kd.R_elder' (rr__ HO_701000.out) (Kd.R_base ho91) hb)
          have n3_ := Aside0.mk (Kd.R_elder' (rr__ HO_701001.out) (Kd.R_base ho91) hb)
          have n4_ := Aside0.mk (Kd.R_elder' (rr__ HO_709000.out) (Kd.R_base ho91) hb)
          have n5_ := Aside0.mk (Kd.R_elder' (rr__ HO_709001.out) (Kd.R_base ho91) hb)
          have n6_ := Aside0.mk (Kd.R_elder' (rr__ HO715.out) (Kd.R_base ho91) hb)
          have n7_ := Aside0.mk (Kd.R_elder' (rr__ HO718.out) (Kd.R_base ho91) hb)
          have n8_ := Aside0.mk (Kd.R_elder' (rr__ HO722.out) (Kd.R_base ho91) hb)
          have n9_ := Aside0.mk (Kd.R_elder' (rr__ HO725.out) (Kd.R_base ho91) hb)
          have n10_ := Aside0.mk (Kd.R_elder' (rr__ HO729.out) (Kd.R_base ho91) hb)
          have n11_ := Aside0.mk (Kd.R_elder' (rr__ HO732.out) (Kd.R_base ho91) hb)
          have n12_ := Aside0.mk (Kd.R_lower (Kd.R_new' (Kd.R_new' (Kd.R_new' (Kd.R_new' (Kd.R_new' (Kd.R_new' (Kd.R_new' (Kd.R_new' (Kd.R_new' (Kd.R_new' (Kd.R_new' (Kd.R_new' ho91 (Kd.R_lt (rr__ HO_685000.out))) (Kd.R_lt (rr__ HO_685001.out))) (Kd.R_lt (rr__ HO_701000.out))) (Kd.R_lt (rr__ HO_701001.out))) (Kd.R_lt (rr__ HO_709000.out))) (Kd.R_lt (rr__ HO_709001.out))) (Kd.R_lt (rr__ HO715.out))) (Kd.R_lt (rr__ HO718.out))) (Kd.R_lt (rr__ HO722.out))) (Kd.R_lt (rr__ HO725.out))) (Kd.R_lt (rr__ HO729.out))) (Kd.R_lt (rr__ HO732.out))) (below_size (bel__)))
          have n13_ := Aside0.mk (blb__ BK684.out hb)
          have n14_ := Aside0.mk (blb__ BK700.out hb)
          have n15_ := Aside0.mk (blb__ BK708.out hb)
          have n16_ := Aside0.mk (blb__ BK719.out hb)
          have n17_ := Aside0.mk (blb__ BK726.out hb)
          have n18_ := Aside0.mk (blb__ BK733.out hb)
          have n19_ := Aside0.mk (below_step (bel__) hb)
          clear HO_685000
          clear HO_685001
          clear HO_701000
          clear HO_701001
          clear HO_709000
          clear HO_709001
          clear HO715
          clear HO718
          clear HO722
          clear HO725
          clear HO729
          clear HO732
          clear BK684
          clear BK700
          clear BK708
          clear BK719
          clear BK726
          clear BK733
          clear HB
          have HO_685000 := n0_
          have HO_685001 := n1_
          have HO_701000 := n2_
          have HO_701001 := n3_
          have HO_709000 := n4_
          have HO_709001 := n5_
          have HO715 := n6_
          have HO718 := n7_
          have HO722 := n8_
          have HO725 := n9_
          have HO729 := n10_
          have HO732 := n11_
          have HO736 := n12_
          have BK684 := n13_
          have BK700 := n14_
          have BK708 := n15_
          have BK719 := n16_
          have BK726 := n17_
          have BK733 := n18_
          have HB := n19_
          clear n0_ n1_ n2_ n3_ n4_ n5_ n6_ n7_ n8_ n9_ n10_ n11_ n12_ n13_ n14_ n15_ n16_ n17_ n18_ n19_
          clear hb ho91
          refine hK.out _ _ ⟨(blk_cell BK684.out 0).trans rfl, (blk_cell BK684.out 1).trans rfl, (blk_cell BK700.out 0).trans rfl, (blk_cell BK700.out 1).trans rfl⟩ (fun hHeld => ?_)
          clear hK K
          refine na__ 74 ?_
          refine one_ (i := 3) (N := some 77) #[true, true, true, true, true, true, false, false] rfl rfl (one_of HT_.out (by kernel_rfl)) (by decide) (fun K hK => ?_)
          refine Kd.R_append_rows_step Kd.string (w0 := w) w.heap.size (by rfl) (.tmp 74) (.tmp 76) 25 9 (.string ⟨#[]⟩) 16 rfl Try.underlying25 info9 rfl (by decide) (by omega) v735 y734 t677 _ _ _ (fun k_ => some k_ ≠ (ob__ Ao7 t677.length co7) ∧ some k_ ≠ (ob__ Ao9 t680.length co9) ∧ some k_ ≠ (ob__ Ao23 t693.length co23) ∧ some k_ ≠ (ob__ Ao26 t696.length co26) ∧ some k_ ≠ (ob__ Ao30 t701.length co30) ∧ some k_ ≠ (ob__ Ao34 t704.length co34) ∧ some k_ ≠ (ob__ Ao62 t713.length co62) ∧ some k_ ≠ (ob__ Ao67 t716.length co67) ∧ some k_ ≠ (ob__ Ao71 t720.length co71) ∧ some k_ ≠ (ob__ Ao77 t723.length co77) ∧ some k_ ≠ (ob__ Ao80 t727.length co80) ∧ some k_ ≠ (ob__ Ao87 t730.length co87)) (fun _ => False) rfl rfl ?aO ?aR (fun _ _ h => h) (fun _ h => h.elim) ?aF ?aB ?aS ?aL ?_
          (case aR => repeat (first | exact (Kd.R_reads' HO_685000.out).2.2 | (with_reducible refine Kd.C_alloc ?_ _) | (with_reducible refine Kd.C_drewN ?_ _) | (with_reducible refine Kd.C_drew ?_)))
          (case aB => exact (bel__))
          (case aF => exact (fun k_ hk => ⟨Kd.fresh' (Kd.R_lt (rr__ HO_685000.out)) k_ hk, Kd.fresh' (Kd.R_lt (rr__ HO_685001.out)) k_ hk, Kd.fresh' (Kd.R_lt (rr__ HO_701000.out)) k_ hk, Kd.fresh' (Kd.R_lt (rr__ HO_701001.out)) k_ hk, Kd.fresh' (Kd.R_lt (rr__ HO_709000.out)) k_ hk, Kd.fresh' (Kd.R_lt (rr__ HO_709001.out)) k_ hk, Kd.fresh' (Kd.R_lt (rr__ HO715.out)) k_ hk, Kd.fresh' (Kd.R_lt (rr__ HO718.out)) k_ hk, Kd.fresh' (Kd.R_lt (rr__ HO722.out)) k_ hk, Kd.fresh' (Kd.R_lt (rr__ HO725.out)) k_ hk, Kd.fresh' (Kd.R_lt (rr__ HO729.out)) k_ hk, Kd.fresh' (Kd.R_lt (rr__ HO732.out)) k_ hk⟩))
          (case aO => exact (by (with_reducible repeat (first | apply Kd.R_alloc | apply Kd.R_drewN | apply Kd.R_drew)); exact Kd.R_mono HO736.out (fun _ hk => ⟨hk.1.1.1.1.1.1.1.1.1.1.1.2, ⟨hk.1.1.1.1.1.1.1.1.1.1.2, ⟨hk.1.1.1.1.1.1.1.1.1.2, ⟨hk.1.1.1.1.1.1.1.1.2, ⟨hk.1.1.1.1.1.1.1.2, ⟨hk.1.1.1.1.1.1.2, ⟨hk.1.1.1.1.1.2, ⟨hk.1.1.1.1.2, ⟨hk.1.1.1.2, ⟨hk.1.1.2, ⟨hk.1.2, hk.2⟩⟩⟩⟩⟩⟩⟩⟩⟩⟩⟩)))
          (case aS => exact (below_size (bel__)))
          (case aL => have := LMc54.out; omega)
          intro v738 w92 ho hb hg hat
          rw [← Ny737.out] at ho
          have n0_ := Aside0.mk (Kd.R_after (ok := (fun k_ => some k_ ≠ (ob__ Ao9 t680.length co9) ∧ some k_ ≠ (ob__ Ao23 t693.length co23) ∧ some k_ ≠ (ob__ Ao26 t696.length co26) ∧ some k_ ≠ (ob__ Ao30 t701.length co30) ∧ some k_ ≠ (ob__ Ao34 t704.length co34) ∧ some k_ ≠ (ob__ Ao62 t713.length co62) ∧ some k_ ≠ (ob__ Ao67 t716.length co67) ∧ some k_ ≠ (ob__ Ao71 t720.length co71) ∧ some k_ ≠ (ob__ Ao77 t723.length co77) ∧ some k_ ≠ (ob__ Ao80 t727.length co80) ∧ some k_ ≠ (ob__ Ao87 t730.length co87))) (rr__ HO_685000.out) hg hat)
          have n1_ := Aside0.mk (Kd.R_after (ok := (fun k_ => some k_ ≠ (ob__ Ao7 t677.length co7) ∧ some k_ ≠ (ob__ Ao23 t693.length co23) ∧ some k_ ≠ (ob__ Ao26 t696.length co26) ∧ some k_ ≠ (ob__ Ao30 t701.length co30) ∧ some k_ ≠ (ob__ Ao34 t704.length co34) ∧ some k_ ≠ (ob__ Ao62 t713.length co62) ∧ some k_ ≠ (ob__ Ao67 t716.length co67) ∧ some k_ ≠ (ob__ Ao71 t720.length co71) ∧ some k_ ≠ (ob__ Ao77 t723.length co77) ∧ some k_ ≠ (ob__ Ao80 t727.length co80) ∧ some k_ ≠ (ob__ Ao87 t730.length co87))) (rr__ HO_685001.out) hg hat)
          have n2_ := Aside0.mk (Kd.R_after (ok := (fun k_ => some k_ ≠ (ob__ Ao7 t677.length co7) ∧ some k_ ≠ (ob__ Ao9 t680.length co9) ∧ some k_ ≠ (ob__ Ao26 t696.length co26) ∧ some k_ ≠ (ob__ Ao30 t701.length co30) ∧ some k_ ≠ (ob__ Ao34 t704.length co34) ∧ some k_ ≠ (ob__ Ao62 t713.length co62) ∧ some k_ ≠ (ob__ Ao67 t716.length co67) ∧ some k_ ≠ (ob__ Ao71 t720.length co71) ∧ some k_ ≠ (ob__ Ao77 t723.length co77) ∧ some k_ ≠ (ob__ Ao80 t727.length co80) ∧ some k_ ≠ (ob__ Ao87 t730.length co87))) (rr__ HO_701000.out) hg hat)
          have n3_ := Aside0.mk (Kd.R_after (ok := (fun k_ => some k_ ≠ (ob__ Ao7 t677.length co7) ∧ some k_ ≠ (ob__ Ao9 t680.length co9) ∧ some k_ ≠ (ob__ Ao23 t693.length co23) ∧ some k_ ≠ (ob__ Ao30 t701.length co30) ∧ some k_ ≠ (ob__ Ao34 t704.length co34) ∧ some k_ ≠ (ob__ Ao62 t713.length co62) ∧ some k_ ≠ (ob__ Ao67 t716.length co67) ∧ some k_ ≠ (ob__ Ao71 t720.length co71) ∧ some k_ ≠ (ob__ Ao77 t723.length co77) ∧ some k_ ≠ (ob__ Ao80 t727.length co80) ∧ some k_ ≠ (ob__ Ao87 t730.length co87))) (rr__ HO_701001.out) hg hat)
          have n4_ := Aside0.mk (Kd.R_after (ok := (fun k_ => some k_ ≠ (ob__ Ao7 t677.length co7) ∧ some k_ ≠ (ob__ Ao9 t680.length co9) ∧ some k_ ≠ (ob__ Ao23 t693.length co23) ∧ some k_ ≠ (ob__ Ao26 t696.length co26) ∧ some k_ ≠ (ob__ Ao34 t704.length co34) ∧ some k_ ≠ (ob__ Ao62 t713.length co62) ∧ some k_ ≠ (ob__ Ao67 t716.length co67) ∧ some k_ ≠ (ob__ Ao71 t720.length co71) ∧ some k_ ≠ (ob__ Ao77 t723.length co77) ∧ some k_ ≠ (ob__ Ao80 t727.length co80) ∧ some k_ ≠ (ob__ Ao87 t730.length co87))) (rr__ HO_709000.out) hg hat)
          have n5_ := Aside0.mk (Kd.R_after (ok := (fun k_ => some k_ ≠ (ob__ Ao7 t677.length co7) ∧ some k_ ≠ (ob__ Ao9 t680.length co9) ∧ some k_ ≠ (ob__ Ao23 t693.length co23) ∧ some k_ ≠ (ob__ Ao26 t696.length co26) ∧ some k_ ≠ (ob__ Ao30 t701.length co30) ∧ some k_ ≠ (ob__ Ao62 t713.length co62) ∧ some k_ ≠ (ob__ Ao67 t716.length co67) ∧ some k_ ≠ (ob__ Ao71 t720.length co71) ∧ some k_ ≠ (ob__ Ao77 t723.length co77) ∧ some k_ ≠ (ob__ Ao80 t727.length co80) ∧ some k_ ≠ (ob__ Ao87 t730.length co87))) (rr__ HO_709001.out) hg hat)
          have n6_ := Aside0.mk (blk_grown (g := gb684) (o := .cells #[.slice Ao7 t677.length co7, .slice Ao9 t680.length co9] 30 (0, 0)) (blk__ BK684.out) hg (Kd.R_ne HO736.out BK684.out (by decide)))
          have n7_ := Aside0.mk (blk_grown (g := gb700) (o := .cells #[.slice Ao23 t693.length co23, .slice Ao26 t696.length co26] 30 (0, 0)) (blk__ BK700.out) hg (Kd.R_ne HO736.out BK700.out (by decide)))
          have n8_ := Aside0.mk (blk_grown (g := gb708) (o := .cells #[.slice Ao30 t701.length co30, .slice Ao34 t704.length co34] 30 (0, 0)) (blk__ BK708.out) hg (Kd.R_ne HO736.out BK708.out (by decide)))
          have n9_ := Aside0.mk (Kd.R_after (ok := (fun k_ => some k_ ≠ (ob__ Ao7 t677.length co7) ∧ some k_ ≠ (ob__ Ao9 t680.length co9) ∧ some k_ ≠ (ob__ Ao23 t693.length co23) ∧ some k_ ≠ (ob__ Ao26 t696.length co26) ∧ some k_ ≠ (ob__ Ao30 t701.length co30) ∧ some k_ ≠ (ob__ Ao34 t704.length co34) ∧ some k_ ≠ (ob__ Ao67 t716.length co67) ∧ some k_ ≠ (ob__ Ao71 t720.length co71) ∧ some k_ ≠ (ob__ Ao77 t723.length co77) ∧ some k_ ≠ (ob__ Ao80 t727.length co80) ∧ some k_ ≠ (ob__ Ao87 t730.length co87))) (rr__ HO715.out) hg hat)
          have n10_ := Aside0.mk (Kd.R_after (ok := (fun k_ => some k_ ≠ (ob__ Ao7 t677.length co7) ∧ some k_ ≠ (ob__ Ao9 t680.length co9) ∧ some k_ ≠ (ob__ Ao23 t693.length co23) ∧ some k_ ≠ (ob__ Ao26 t696.length co26) ∧ some k_ ≠ (ob__ Ao30 t701.length co30) ∧ some k_ ≠ (ob__ Ao34 t704.length co34) ∧ some k_ ≠ (ob__ Ao62 t713.length co62) ∧ some k_ ≠ (ob__ Ao71 t720.length co71) ∧ some k_ ≠ (ob__ Ao77 t723.length co77) ∧ some k_ ≠ (ob__ Ao80 t727.length co80) ∧ some k_ ≠ (ob__ Ao87 t730.length co87))) (rr__ HO718.out) hg hat)
          have n11_ := Aside0.mk (blk_grown (g := gb719) (o := .cells #[.slice Ao62 t713.length co62, .slice Ao67 t716.length co67] 30 (0, 0)) (blk__ BK719.out) hg (Kd.R_ne HO736.out BK719.out (by decide)))
          have n12_ := Aside0.mk (Kd.R_after (ok := (fun k_ => some k_ ≠ (ob__ Ao7 t677.length co7) ∧ some k_ ≠ (ob__ Ao9 t680.length co9) ∧ some k_ ≠ (ob__ Ao23 t693.length co23) ∧ some k_ ≠ (ob__ Ao26 t696.length co26) ∧ some k_ ≠ (ob__ Ao30 t701.length co30) ∧ some k_ ≠ (ob__ Ao34 t704.length co34) ∧ some k_ ≠ (ob__ Ao62 t713.length co62) ∧ some k_ ≠ (ob__ Ao67 t716.length co67) ∧ some k_ ≠ (ob__ Ao77 t723.length co77) ∧ some k_ ≠ (ob__ Ao80 t727.length co80) ∧ some k_ ≠ (ob__ Ao87 t730.length co87))) (rr__ HO722.out) hg hat)
          have n13_ := Aside0.mk (Kd.R_after (ok := (fun k_ => some k_ ≠ (ob__ Ao7 t677.length co7) ∧ some k_ ≠ (ob__ Ao9 t680.length co9) ∧ some k_ ≠ (ob__ Ao23 t693.length co23) ∧ some k_ ≠ (ob__ Ao26 t696.length co26) ∧ some k_ ≠ (ob__ Ao30 t701.length co30) ∧ some k_ ≠ (ob__ Ao34 t704.length co34) ∧ some k_ ≠ (ob__ Ao62 t713.length co62) ∧ some k_ ≠ (ob__ Ao67 t716.length co67) ∧ some k_ ≠ (ob__ Ao71 t720.length co71) ∧ some k_ ≠ (ob__ Ao80 t727.length co80) ∧ some k_ ≠ (ob__ Ao87 t730.length co87))) (rr__ HO725.out) hg hat)
          have n14_ := Aside0.mk (blk_grown (g := gb726) (o := .cells #[.slice Ao71 t720.length co71, .slice Ao77 t723.length co77] 30 (0, 0)) (blk__ BK726.out) hg (Kd.R_ne HO736.out BK726.out (by decide)))
          have n15_ := Aside0.mk (Kd.R_after (ok := (fun k_ => some k_ ≠ (ob__ Ao7 t677.length co7) ∧ some k_ ≠ (ob__ Ao9 t680.length co9) ∧ some k_ ≠ (ob__ Ao23 t693.length co23) ∧ some k_ ≠ (ob__ Ao26 t696.length co26) ∧ some k_ ≠ (ob__ Ao30 t701.length co30) ∧ some k_ ≠ (ob__ Ao34 t704.length co34) ∧ some k_ ≠ (ob__ Ao62 t713.length co62) ∧ some k_ ≠ (ob__ Ao67 t716.length co67) ∧ some k_ ≠ (ob__ Ao71 t720.length co71) ∧ some k_ ≠ (ob__ Ao77 t723.length co77) ∧ some k_ ≠ (ob__ Ao87 t730.length co87))) (rr__ HO729.out) hg hat)
          have n16_ := Aside0.mk (Kd.R_after (ok := (fun k_ => some k_ ≠ (ob__ Ao7 t677.length co7) ∧ some k_ ≠ (ob__ Ao9 t680.length co9) ∧ some k_ ≠ (ob__ Ao23 t693.length co23) ∧ some k_ ≠ (ob__ Ao26 t696.length co26) ∧ some k_ ≠ (ob__ Ao30 t701.length co30) ∧ some k_ ≠ (ob__ Ao34 t704.length co34) ∧ some k_ ≠ (ob__ Ao62 t713.length co62) ∧ some k_ ≠ (ob__ Ao67 t716.length co67) ∧ some k_ ≠ (ob__ Ao71 t720.length co71) ∧ some k_ ≠ (ob__ Ao77 t723.length co77) ∧ some k_ ≠ (ob__ Ao80 t727.length co80))) (rr__ HO732.out) hg hat)
          have n17_ := Aside0.mk (blk_grown (g := gb733) (o := .cells #[.slice Ao80 t727.length co80, .slice Ao87 t730.length co87] 30 (0, 0)) (blk__ BK733.out) hg (Kd.R_ne HO736.out BK733.out (by decide)))
          have n18_ := Aside0.mk (hb)
          have n19_ := Aside0.mk (ho)
          clear HO_685000
          clear HO_685001
          clear HO_701000
          clear HO_701001
          clear HO_709000
          clear HO_709001
          clear BK684
          clear BK700
          clear BK708
          clear HO715
          clear HO718
          clear BK719
          clear HO722
          clear HO725
          clear BK726
          clear HO729
          clear HO732
          clear BK733
          clear HB
          clear HO736
          have HO_685000 := n0_
          have HO_685001 := n1_
          have HO_701000 := n2_
          have HO_701001 := n3_
          have HO_709000 := n4_
          have HO_709001 := n5_
          have BK684 := n6_
          have BK700 := n7_
          have BK708 := n8_
          have HO715 := n9_
          have HO718 := n10_
          have BK719 := n11_
          have HO722 := n12_
          have HO725 := n13_
          have BK726 := n14_
          have HO729 := n15_
          have HO732 := n16_
          have BK733 := n17_
          have HB := n18_
          have HO739 := n19_
          clear n0_ n1_ n2_ n3_ n4_ n5_ n6_ n7_ n8_ n9_ n10_ n11_ n12_ n13_ n14_ n15_ n16_ n17_ n18_ n19_
          clear ho hb hg hat
          refine hK.out _ _ ⟨(blk_cell BK684.out 0).trans rfl, (blk_cell BK684.out 1).trans rfl, (blk_cell BK700.out 0).trans rfl, (blk_cell BK700.out 1).trans rfl⟩ (fun hHeld => ?_)
          clear hK K
          refine na__ 77 ?_
          refine one_ (i := 6) (N := some 80) #[true, true, true, true, true, true, true, false] rfl rfl (one_of HT_.out (by kernel_rfl)) (by decide) (fun K hK => ?_)
          refine Kd.R_append_rows_step Kd.string (w0 := w) w.heap.size (by rfl) (.tmp 77) (.tmp 79) 25 9 (.string ⟨#[]⟩) 16 rfl Try.underlying25 info9 rfl (by decide) (by omega) v738 y737 t696 _ _ _ (fun k_ => some k_ ≠ (ob__ Ao7 t677.length co7) ∧ some k_ ≠ (ob__ Ao9 t680.length co9) ∧ some k_ ≠ (ob__ Ao23 t693.length co23) ∧ some k_ ≠ (ob__ Ao26 t696.length co26) ∧ some k_ ≠ (ob__ Ao30 t701.length co30) ∧ some k_ ≠ (ob__ Ao34 t704.length co34) ∧ some k_ ≠ (ob__ Ao62 t713.length co62) ∧ some k_ ≠ (ob__ Ao67 t716.length co67) ∧ some k_ ≠ (ob__ Ao71 t720.length co71) ∧ some k_ ≠ (ob__ Ao77 t723.length co77) ∧ some k_ ≠ (ob__ Ao80 t727.length co80) ∧ some k_ ≠ (ob__ Ao87 t730.length co87)) (fun _ => False) rfl rfl ?aO ?aR (fun _ _ h => h) (fun _ h => h.elim) ?aF ?aB ?aS ?aL ?_
          (case aR => repeat (first | exact (Kd.R_reads' HO_701001.out).2.2 | (with_reducible refine Kd.C_alloc ?_ _) | (with_reducible refine Kd.C_drewN ?_ _) | (with_reducible refine Kd.C_drew ?_)))
          (case aB => exact (bel__))
          (case aF => exact (fun k_ hk => ⟨Kd.fresh' (Kd.R_lt (rr__ HO_685000.out)) k_ hk, Kd.fresh' (Kd.R_lt (rr__ HO_685001.out)) k_ hk, Kd.fresh' (Kd.R_lt (rr__ HO_701000.out)) k_ hk, Kd.fresh' (Kd.R_lt (rr__ HO_701001.out)) k_ hk, Kd.fresh' (Kd.R_lt (rr__ HO_709000.out)) k_ hk, Kd.fresh' (Kd.R_lt (rr__ HO_709001.out)) k_ hk, Kd.fresh' (Kd.R_lt (rr__ HO715.out)) k_ hk, Kd.fresh' (Kd.R_lt (rr__ HO718.out)) k_ hk, Kd.fresh' (Kd.R_lt (rr__ HO722.out)) k_ hk, Kd.fresh' (Kd.R_lt (rr__ HO725.out)) k_ hk, Kd.fresh' (Kd.R_lt (rr__ HO729.out)) k_ hk, Kd.fresh' (Kd.R_lt (rr__ HO732.out)) k_ hk⟩))
          (case aO => exact (rr__ HO739.out))
          (case aS => exact (below_size (bel__)))
          (case aL => have := LMc55.out; omega)
          intro v741 w93 ho hb hg hat
          rw [← Ny740.out] at ho
          have n0_ := Aside0.mk (Kd.R_after (ok := (fun k_ => some k_ ≠ (ob__ Ao9 t680.length co9) ∧ some k_ ≠ (ob__ Ao23 t693.length co23) ∧ some k_ ≠ (ob__ Ao26 t696.length co26) ∧ some k_ ≠ (ob__ Ao30 t701.length co30) ∧ some k_ ≠ (ob__ Ao34 t704.length co34) ∧ some k_ ≠ (ob__ Ao62 t713.length co62) ∧ some k_ ≠ (ob__ Ao67 t716.length co67) ∧ some k_ ≠ (ob__ Ao71 t720.length co71) ∧ some k_ ≠ (ob__ Ao77 t723.length co77) ∧ some k_ ≠ (ob__ Ao80 t727.length co80) ∧ some k_ ≠ (ob__ Ao87 t730.length co87))) (rr__ HO_685000.out) hg hat)
          have n1_ := Aside0.mk (Kd.R_after (ok := (fun k_ => some k_ ≠ (ob__ Ao7 t677.length co7) ∧ some k_ ≠ (ob__ Ao23 t693.length co23) ∧ some k_ ≠ (ob__ Ao26 t696.length co26) ∧ some k_ ≠ (ob__ Ao30 t701.length co30) ∧ some k_ ≠ (ob__ Ao34 t704.length co34) ∧ some k_ ≠ (ob__ Ao62 t713.length co62) ∧ some k_ ≠ (ob__ Ao67 t716.length co67) ∧ some k_ ≠ (ob__ Ao71 t720.length co71) ∧ some k_ ≠ (ob__ Ao77 t723.length co77) ∧ some k_ ≠ (ob__ Ao80 t727.length co80) ∧ some k_ ≠ (ob__ Ao87 t730.length co87))) (rr__ HO_685001.out) hg hat)
          have n2_ := Aside0.mk (Kd.R_after (ok := (fun k_ => some k_ ≠ (ob__ Ao7 t677.length co7) ∧ some k_ ≠ (ob__ Ao9 t680.length co9) ∧ some k_ ≠ (ob__ Ao26 t696.length co26) ∧ some k_ ≠ (ob__ Ao30 t701.length co30) ∧ some k_ ≠ (ob__ Ao34 t704.length co34) ∧ some k_ ≠ (ob__ Ao62 t713.length co62) ∧ some k_ ≠ (ob__ Ao67 t716.length co67) ∧ some k_ ≠ (ob__ Ao71 t720.length co71) ∧ some k_ ≠ (ob__ Ao77 t723.length co77) ∧ some k_ ≠ (ob__ Ao80 t727.length co80) ∧ some k_ ≠ (ob__ Ao87 t730.length co87))) (rr__ HO_701000.out) hg hat)
          have n3_ := Aside0.mk (Kd.R_after (ok := (fun k_ => some k_ ≠ (ob__ Ao7 t677.length co7) ∧ some k_ ≠ (ob__ Ao9 t680.length co9) ∧ some k_ ≠ (ob__ Ao23 t693.length co23) ∧ some k_ ≠ (ob__ Ao30 t701.length co30) ∧ some k_ ≠ (ob__ Ao34 t704.length co34) ∧ some k_ ≠ (ob__ Ao62 t713.length co62) ∧ some k_ ≠ (ob__ Ao67 t716.length co67) ∧ some k_ ≠ (ob__ Ao71 t720.length co71) ∧ some k_ ≠ (ob__ Ao77 t723.length co77) ∧ some k_ ≠ (ob__ Ao80 t727.length co80) ∧ some k_ ≠ (ob__ Ao87 t730.length co87))) (rr__ HO_701001.out) hg hat)
          have n4_ := Aside0.mk (Kd.R_after (ok := (fun k_ => some k_ ≠ (ob__ Ao7 t677.length co7) ∧ some k_ ≠ (ob__ Ao9 t680.length co9) ∧ some k_ ≠ (ob__ Ao23 t693.length co23) ∧ some k_ ≠ (ob__ Ao26 t696.length co26) ∧ some k_ ≠ (ob__ Ao34 t704.length co34) ∧ some k_ ≠ (ob__ Ao62 t713.length co62) ∧ some k_ ≠ (ob__ Ao67 t716.length co67) ∧ some k_ ≠ (ob__ Ao71 t720.length co71) ∧ some k_ ≠ (ob__ Ao77 t723.length co77) ∧ some k_ ≠ (ob__ Ao80 t727.length co80) ∧ some k_ ≠ (ob__ Ao87 t730.length co87))) (rr__ HO_709000.out) hg hat)
          have n5_ := Aside0.mk (Kd.R_after (ok := (fun k_ => some k_ ≠ (ob__ Ao7 t677.length co7) ∧ some k_ ≠ (ob__ Ao9 t680.length co9) ∧ some k_ ≠ (ob__ Ao23 t693.length co23) ∧ some k_ ≠ (ob__ Ao26 t696.length co26) ∧ some k_ ≠ (ob__ Ao30 t701.length co30) ∧ some k_ ≠ (ob__ Ao62 t713.length co62) ∧ some k_ ≠ (ob__ Ao67 t716.length co67) ∧ some k_ ≠ (ob__ Ao71 t720.length co71) ∧ some k_ ≠ (ob__ Ao77 t723.length co77) ∧ some k_ ≠ (ob__ Ao80 t727.length co80) ∧ some k_ ≠ (ob__ Ao87 t730.length co87))) (rr__ HO_709001.out) hg hat)
          have n6_ := Aside0.mk (blk_grown (g := gb684) (o := .cells #[.slice Ao7 t677.length co7, .slice Ao9 t680.length co9] 30 (0, 0)) (blk__ BK684.out) hg (Kd.R_ne HO739.out BK684.out (by decide)))
          have n7_ := Aside0.mk (blk_grown (g := gb700) (o := .cells #[.slice Ao23 t693.length co23, .slice Ao26 t696.length co26] 30 (0, 0)) (blk__ BK700.out) hg (Kd.R_ne HO739.out BK700.out (by decide)))
          have n8_ := Aside0.mk (blk_grown (g := gb708) (o := .cells #[.slice Ao30 t701.length co30, .slice Ao34 t704.length co34] 30 (0, 0)) (blk__ BK708.out) hg (Kd.R_ne HO739.out BK708.out (by decide)))
          have n9_ := Aside0.mk (Kd.R_after (ok := (fun k_ => some k_ ≠ (ob__ Ao7 t677.length co7) ∧ some k_ ≠ (ob__ Ao9 t680.length co9) ∧ some k_ ≠ (ob__ Ao23 t693.length co23) ∧ some k_ ≠ (ob__ Ao26 t696.length co26) ∧ some k_ ≠ (ob__ Ao30 t701.length co30) ∧ some k_ ≠ (ob__ Ao34 t704.length co34) ∧ some k_ ≠ (ob__ Ao67 t716.length co67) ∧ some k_ ≠ (ob__ Ao71 t720.length co71) ∧ some k_ ≠ (ob__ Ao77 t723.length co77) ∧ some k_ ≠ (ob__ Ao80 t727.length co80) ∧ some k_ ≠ (ob__ Ao87 t730.length co87))) (rr__ HO715.out) hg hat)
          have n10_ := Aside0.mk (Kd.R_after (ok := (fun k_ => some k_ ≠ (ob__ Ao7 t677.length co7) ∧ some k_ ≠ (ob__ Ao9 t680.length co9) ∧ some k_ ≠ (ob__ Ao23 t693.length co23) ∧ some k_ ≠ (ob__ Ao26 t696.length co26) ∧ some k_ ≠ (ob__ Ao30 t701.length co30) ∧ some k_ ≠ (ob__ Ao34 t704.length co34) ∧ some k_ ≠ (ob__ Ao62 t713.length co62) ∧ some k_ ≠ (ob__ Ao71 t720.length co71) ∧ some k_ ≠ (ob__ Ao77 t723.length co77) ∧ some k_ ≠ (ob__ Ao80 t727.length co80) ∧ some k_ ≠ (ob__ Ao87 t730.length co87))) (rr__ HO718.out) hg hat)
          have n11_ := Aside0.mk (blk_grown (g := gb719) (o := .cells #[.slice Ao62 t713.length co62, .slice Ao67 t716.length co67] 30 (0, 0)) (blk__ BK719.out) hg (Kd.R_ne HO739.out BK719.out (by decide)))
          have n12_ := Aside0.mk (Kd.R_after (ok := (fun k_ => some k_ ≠ (ob__ Ao7 t677.length co7) ∧ some k_ ≠ (ob__ Ao9 t680.length co9) ∧ some k_ ≠ (ob__ Ao23 t693.length co23) ∧ some k_ ≠ (ob__ Ao26 t696.length co26) ∧ some k_ ≠ (ob__ Ao30 t701.length co30) ∧ some k_ ≠ (ob__ Ao34 t704.length co34) ∧ some k_ ≠ (ob__ Ao62 t713.length co62) ∧ some k_ ≠ (ob__ Ao67 t716.length co67) ∧ some k_ ≠ (ob__ Ao77 t723.length co77) ∧ some k_ ≠ (ob__ Ao80 t727.length co80) ∧ some k_ ≠ (ob__ Ao87 t730.length co87))) (rr__ HO722.out) hg hat)
          have n13_ := Aside0.mk (Kd.R_after (ok := (fun k_ => some k_ ≠ (ob__ Ao7 t677.length co7) ∧ some k_ ≠ (ob__ Ao9 t680.length co9) ∧ some k_ ≠ (ob__ Ao23 t693.length co23) ∧ some k_ ≠ (ob__ Ao26 t696.length co26) ∧ some k_ ≠ (ob__ Ao30 t701.length co30) ∧ some k_ ≠ (ob__ Ao34 t704.length co34) ∧ some k_ ≠ (ob__ Ao62 t713.length co62) ∧ some k_ ≠ (ob__ Ao67 t716.length co67) ∧ some k_ ≠ (ob__ Ao71 t720.length co71) ∧ some k_ ≠ (ob__ Ao80 t727.length co80) ∧ some k_ ≠ (ob__ Ao87 t730.length co87))) (rr__ HO725.out) hg hat)
          have n14_ := Aside0.mk (blk_grown (g := gb726) (o := .cells #[.slice Ao71 t720.length co71, .slice Ao77 t723.length co77] 30 (0, 0)) (blk__ BK726.out) hg (Kd.R_ne HO739.out BK726.out (by decide)))
          have n15_ := Aside0.mk (Kd.R_after (ok := (fun k_ => some k_ ≠ (ob__ Ao7 t677.length co7) ∧ some k_ ≠ (ob__ Ao9 t680.length co9) ∧ some k_ ≠ (ob__ Ao23 t693.length co23) ∧ some k_ ≠ (ob__ Ao26 t696.length co26) ∧ some k_ ≠ (ob__ Ao30 t701.length co30) ∧ some k_ ≠ (ob__ Ao34 t704.length co34) ∧ some k_ ≠ (ob__ Ao62 t713.length co62) ∧ some k_ ≠ (ob__ Ao67 t716.length co67) ∧ some k_ ≠ (ob__ Ao71 t720.length co71) ∧ some k_ ≠ (ob__ Ao77 t723.length co77) ∧ some k_ ≠ (ob__ Ao87 t730.length co87))) (rr__ HO729.out) hg hat)
          have n16_ := Aside0.mk (Kd.R_after (ok := (fun k_ => some k_ ≠ (ob__ Ao7 t677.length co7) ∧ some k_ ≠ (ob__ Ao9 t680.length co9) ∧ some k_ ≠ (ob__ Ao23 t693.length co23) ∧ some k_ ≠ (ob__ Ao26 t696.length co26) ∧ some k_ ≠ (ob__ Ao30 t701.length co30) ∧ some k_ ≠ (ob__ Ao34 t704.length co34) ∧ some k_ ≠ (ob__ Ao62 t713.length co62) ∧ some k_ ≠ (ob__ Ao67 t716.length co67) ∧ some k_ ≠ (ob__ Ao71 t720.length co71) ∧ some k_ ≠ (ob__ Ao77 t723.length co77) ∧ some k_ ≠ (ob__ Ao80 t727.length co80))) (rr__ HO732.out) hg hat)
          have n17_ := Aside0.mk (blk_grown (g := gb733) (o := .cells #[.slice Ao80 t727.length co80, .slice Ao87 t730.length co87] 30 (0, 0)) (blk__ BK733.out) hg (Kd.R_ne HO739.out BK733.out (by decide)))
          have n18_ := Aside0.mk (hb)
          have n19_ := Aside0.mk (ho)
          clear HO_685000
          clear HO_685001
          clear HO_701000
          clear HO_701001
          clear HO_709000
          clear HO_709001
          clear BK684
          clear BK700
          clear BK708
          clear HO715
          clear HO718
          clear BK719
          clear HO722
          clear HO725
          clear BK726
          clear HO729
          clear HO732
          clear BK733
          clear HB
          clear HO739
          have HO_685000 := n0_
          have HO_685001 := n1_
          have HO_701000 := n2_
          have HO_701001 := n3_
          have HO_709000 := n4_
          have HO_709001 := n5_
          have BK684 := n6_
          have BK700 := n7_
          have BK708 := n8_
          have HO715 := n9_
          have HO718 := n10_
          have BK719 := n11_
          have HO722 := n12_
          have HO725 := n13_
          have BK726 := n14_
          have HO729 := n15_
          have HO732 := n16_
          have BK733 := n17_
          have HB := n18_
          have HO742 := n19_
          clear n0_ n1_ n2_ n3_ n4_ n5_ n6_ n7_ n8_ n9_ n10_ n11_ n12_ n13_ n14_ n15_ n16_ n17_ n18_ n19_
          clear ho hb hg hat
          refine hK.out _ _ ⟨(blk_cell BK684.out 0).trans rfl, (blk_cell BK684.out 1).trans rfl, (blk_cell BK700.out 0).trans rfl, (blk_cell BK700.out 1).trans rfl⟩ (fun hHeld => ?_)
          clear hK K
          refine na__ 80 ?_
          refine pu__ (i := 7) (N := some 14) #[true, true, true, true, true, true, true, true] HT_.out ?_
          refine done_ (done_of HT_.out (by kernel_rfl)) ?_
          go_upto_region 15 with (fail)
          go_cut [123] (fun v123 wc => ∃ (kq : Nat) (x123_55 : Bool), v123 = .bool x123_55 ∧ Aside0 (laws_FnLog.j2 kq x6_3 y740 x123_55 t677 t680 t693 t696 t713 t716 = some r) ∧ Aside0 (kq ≤ kj18) ∧ Aside0 (Kd.R Kd.string 9 wc w.heap.size (fun k_ => some k_ ≠ (ob__ Ao7 t677.length co7) ∧ some k_ ≠ (ob__ Ao9 t680.length co9) ∧ some k_ ≠ (ob__ Ao23 t693.length co23) ∧ some k_ ≠ (ob__ Ao26 t696.length co26) ∧ some k_ ≠ (ob__ Ao30 t701.length co30) ∧ some k_ ≠ (ob__ Ao34 t704.length co34) ∧ some k_ ≠ (ob__ Ao62 t713.length co62) ∧ some k_ ≠ (ob__ Ao67 t716.length co67) ∧ some k_ ≠ (ob__ Ao71 t720.length co71) ∧ some k_ ≠ (ob__ Ao77 t723.length co77) ∧ some k_ ≠ (ob__ Ao80 t727.length co80) ∧ some k_ ≠ (ob__ Ao87 t730.length co87)) v741 y740) ∧ Aside0 (Kd.R Kd.string 9 wc w.heap.size (fun k_ => some k_ ≠ (v741 : Value).ownBlock ∧ some k_ ≠ (ob__ Ao9 t680.length co9) ∧ some k_ ≠ (ob__ Ao23 t693.length co23) ∧ some k_ ≠ (ob__ Ao26 t696.length co26) ∧ some k_ ≠ (ob__ Ao30 t701.length co30) ∧ some k_ ≠ (ob__ Ao34 t704.length co34) ∧ some k_ ≠ (ob__ Ao62 t713.length co62) ∧ some k_ ≠ (ob__ Ao67 t716.length co67) ∧ some k_ ≠ (ob__ Ao71 t720.length co71) ∧ some k_ ≠ (ob__ Ao77 t723.length co77) ∧ some k_ ≠ (ob__ Ao80 t727.length co80) ∧ some k_ ≠ (ob__ Ao87 t730.length co87)) (.slice Ao7 t677.length co7) t677) ∧ Aside0 (Kd.R Kd.string 9 wc w.heap.size (fun k_ => some k_ ≠ (v741 : Value).ownBlock ∧ some k_ ≠ (ob__ Ao7 t677.length co7) ∧ some k_ ≠ (ob__ Ao23 t693.length co23) ∧ some k_ ≠ (ob__ Ao26 t696.length co26) ∧ some k_ ≠ (ob__ Ao30 t701.length co30) ∧ some k_ ≠ (ob__ Ao34 t704.length co34) ∧ some k_ ≠ (ob__ Ao62 t713.length co62) ∧ some k_ ≠ (ob__ Ao67 t716.length co67) ∧ some k_ ≠ (ob__ Ao71 t720.length co71) ∧ some k_ ≠ (ob__ Ao77 t723.length co77) ∧ some k_ ≠ (ob__ Ao80 t727.length co80) ∧ some k_ ≠ (ob__ Ao87 t730.length co87)) (.slice Ao9 t680.length co9) t680) ∧ Aside0 (Kd.R Kd.string 9 wc w.heap.size (fun k_ => some k_ ≠ (v741 : Value).ownBlock ∧ some k_ ≠ (ob__ Ao7 t677.length co7) ∧ some k_ ≠ (ob__ Ao9 t680.length co9) ∧ some k_ ≠ (ob__ Ao26 t696.length co26) ∧ some k_ ≠ (ob__ Ao30 t701.length co30) ∧ some k_ ≠ (ob__ Ao34 t704.length co34) ∧ some k_ ≠ (ob__ Ao62 t713.length co62) ∧ some k_ ≠ (ob__ Ao67 t716.length co67) ∧ some k_ ≠ (ob__ Ao71 t720.length co71) ∧ some k_ ≠ (ob__ Ao77 t723.length co77) ∧ some k_ ≠ (ob__ Ao80 t727.length co80) ∧ some k_ ≠ (ob__ Ao87 t730.length co87)) (.slice Ao23 t693.length co23) t693) ∧ Aside0 (Kd.R Kd.string 9 wc w.heap.size (fun k_ => some k_ ≠ (v741 : Value).ownBlock ∧ some k_ ≠ (ob__ Ao7 t677.length co7) ∧ some k_ ≠ (ob__ Ao9 t680.length co9) ∧ some k_ ≠ (ob__ Ao23 t693.length co23) ∧ some k_ ≠ (ob__ Ao30 t701.length co30) ∧ some k_ ≠ (ob__ Ao34 t704.length co34) ∧ some k_ ≠ (ob__ Ao62 t713.length co62) ∧ some k_ ≠ (ob__ Ao67 t716.length co67) ∧ some k_ ≠ (ob__ Ao71 t720.length co71) ∧ some k_ ≠ (ob__ Ao77 t723.length co77) ∧ some k_ ≠ (ob__ Ao80 t727.length co80) ∧ some k_ ≠ (ob__ Ao87 t730.length co87)) (.slice Ao26 t696.length co26) t696) ∧ Aside0 (Kd.R Kd.string 9 wc w.heap.size (fun k_ => some k_ ≠ (v741 : Value).ownBlock ∧ some k_ ≠ (ob__ Ao7 t677.length co7) ∧ some k_ ≠ (ob__ Ao9 t680.length co9) ∧ some k_ ≠ (ob__ Ao23 t693.length co23) ∧ some k_ ≠ (ob__ Ao26 t696.length co26) ∧ some k_ ≠ (ob__ Ao34 t704.length co34) ∧ some k_ ≠ (ob__ Ao62 t713.length co62) ∧ some k_ ≠ (ob__ Ao67 t716.length co67) ∧ some k_ ≠ (ob__ Ao71 t720.length co71) ∧ some k_ ≠ (ob__ Ao77 t723.length co77) ∧ some k_ ≠ (ob__ Ao80 t727.length co80) ∧ some k_ ≠ (ob__ Ao87 t730.length co87)) (.slice Ao30 t701.length co30) t701) ∧ Aside0 (Kd.R Kd.string 9 wc w.heap.size (fun k_ => some k_ ≠ (v741 : Value).ownBlock ∧ some k_ ≠ (ob__ Ao7 t677.length co7) ∧ some k_ ≠ (ob__ Ao9 t680.length co9) ∧ some k_ ≠ (ob__ Ao23 t693.length co23) ∧ some k_ ≠ (ob__ Ao26 t696.length co26) ∧ some k_ ≠ (ob__ Ao30 t701.length co30) ∧ some k_ ≠ (ob__ Ao62 t713.length co62) ∧ some k_ ≠ (ob__ Ao67 t716.length co67) ∧ some k_ ≠ (ob__ Ao71 t720.length co71) ∧ some k_ ≠ (ob__ Ao77 t723.length co77) ∧ some k_ ≠ (ob__ Ao80 t727.length co80) ∧ some k_ ≠ (ob__ Ao87 t730.length co87)) (.slice Ao34 t704.length co34) t704) ∧ Aside0 (Kd.R Kd.string 9 wc w.heap.size (fun k_ => some k_ ≠ (v741 : Value).ownBlock ∧ some k_ ≠ (ob__ Ao7 t677.length co7) ∧ some k_ ≠ (ob__ Ao9 t680.length co9) ∧ some k_ ≠ (ob__ Ao23 t693.length co23) ∧ some k_ ≠ (ob__ Ao26 t696.length co26) ∧ some k_ ≠ (ob__ Ao30 t701.length co30) ∧ some k_ ≠ (ob__ Ao34 t704.length co34) ∧ some k_ ≠ (ob__ Ao67 t716.length co67) ∧ some k_ ≠ (ob__ Ao71 t720.length co71) ∧ some k_ ≠ (ob__ Ao77 t723.length co77) ∧ some k_ ≠ (ob__ Ao80 t727.length co80) ∧ some k_ ≠ (ob__ Ao87 t730.length co87)) (.slice Ao62 t713.length co62) t713) ∧ Aside0 (Kd.R Kd.string 9 wc w.heap.size (fun k_ => some k_ ≠ (v741 : Value).ownBlock ∧ some k_ ≠ (ob__ Ao7 t677.length co7) ∧ some k_ ≠ (ob__ Ao9 t680.length co9) ∧ some k_ ≠ (ob__ Ao23 t693.length co23) ∧ some k_ ≠ (ob__ Ao26 t696.length co26) ∧ some k_ ≠ (ob__ Ao30 t701.length co30) ∧ some k_ ≠ (ob__ Ao34 t704.length co34) ∧ some k_ ≠ (ob__ Ao62 t713.length co62) ∧ some k_ ≠ (ob__ Ao71 t720.length co71) ∧ some k_ ≠ (ob__ Ao77 t723.length co77) ∧ some k_ ≠ (ob__ Ao80 t727.length co80) ∧ some k_ ≠ (ob__ Ao87 t730.length co87)) (.slice Ao67 t716.length co67) t716) ∧ Aside0 (Kd.R Kd.string 9 wc w.heap.size (fun k_ => some k_ ≠ (v741 : Value).ownBlock ∧ some k_ ≠ (ob__ Ao7 t677.length co7) ∧ some k_ ≠ (ob__ Ao9 t680.length co9) ∧ some k_ ≠ (ob__ Ao23 t693.length co23) ∧ some k_ ≠ (ob__ Ao26 t696.length co26) ∧ some k_ ≠ (ob__ Ao30 t701.length co30) ∧ some k_ ≠ (ob__ Ao34 t704.length co34) ∧ some k_ ≠ (ob__ Ao62 t713.length co62) ∧ some k_ ≠ (ob__ Ao67 t716.length co67) ∧ some k_ ≠ (ob__ Ao77 t723.length co77) ∧ some k_ ≠ (ob__ Ao80 t727.length co80) ∧ some k_ ≠ (ob__ Ao87 t730.length co87)) (.slice Ao71 t720.length co71) t720) ∧ Aside0 (Kd.R Kd.string 9 wc w.heap.size (fun k_ => some k_ ≠ (v741 : Value).ownBlock ∧ some k_ ≠ (ob__ Ao7 t677.length co7) ∧ some k_ ≠ (ob__ Ao9 t680.length co9) ∧ some k_ ≠ (ob__ Ao23 t693.length co23) ∧ some k_ ≠ (ob__ Ao26 t696.length co26) ∧ some k_ ≠ (ob__ Ao30 t701.length co30) ∧ some k_ ≠ (ob__ Ao34 t704.length co34) ∧ some k_ ≠ (ob__ Ao62 t713.length co62) ∧ some k_ ≠ (ob__ Ao67 t716.length co67) ∧ some k_ ≠ (ob__ Ao71 t720.length co71) ∧ some k_ ≠ (ob__ Ao80 t727.length co80) ∧ some k_ ≠ (ob__ Ao87 t730.length co87)) (.slice Ao77 t723.length co77) t723) ∧ Aside0 (Kd.R Kd.string 9 wc w.heap.size (fun k_ => some k_ ≠ (v741 : Value).ownBlock ∧ some k_ ≠ (ob__ Ao7 t677.length co7) ∧ some k_ ≠ (ob__ Ao9 t680.length co9) ∧ some k_ ≠ (ob__ Ao23 t693.length co23) ∧ some k_ ≠ (ob__ Ao26 t696.length co26) ∧ some k_ ≠ (ob__ Ao30 t701.length co30) ∧ some k_ ≠ (ob__ Ao34 t704.length co34) ∧ some k_ ≠ (ob__ Ao62 t713.length co62) ∧ some k_ ≠ (ob__ Ao67 t716.length co67) ∧ some k_ ≠ (ob__ Ao71 t720.length co71) ∧ some k_ ≠ (ob__ Ao77 t723.length co77) ∧ some k_ ≠ (ob__ Ao87 t730.length co87)) (.slice Ao80 t727.length co80) t727) ∧ Aside0 (Kd.R Kd.string 9 wc w.heap.size (fun k_ => some k_ ≠ (v741 : Value).ownBlock ∧ some k_ ≠ (ob__ Ao7 t677.length co7) ∧ some k_ ≠ (ob__ Ao9 t680.length co9) ∧ some k_ ≠ (ob__ Ao23 t693.length co23) ∧ some k_ ≠ (ob__ Ao26 t696.length co26) ∧ some k_ ≠ (ob__ Ao30 t701.length co30) ∧ some k_ ≠ (ob__ Ao34 t704.length co34) ∧ some k_ ≠ (ob__ Ao62 t713.length co62) ∧ some k_ ≠ (ob__ Ao67 t716.length co67) ∧ some k_ ≠ (ob__ Ao71 t720.length co71) ∧ some k_ ≠ (ob__ Ao77 t723.length co77) ∧ some k_ ≠ (ob__ Ao80 t727.length co80)) (.slice Ao87 t730.length co87) t730) ∧ Aside0 (wc.heap[gb684]? = some (.cells #[(.slice Ao7 t677.length co7), (.slice Ao9 t680.length co9)] 30 (0, 0))) ∧ Aside0 (wc.heap[gb700]? = some (.cells #[(.slice Ao23 t693.length co23), (.slice Ao26 t696.length co26)] 30 (0, 0))) ∧ Aside0 (wc.heap[gb708]? = some (.cells #[(.slice Ao30 t701.length co30), (.slice Ao34 t704.length co34)] 30 (0, 0))) ∧ Aside0 (wc.heap[gb719]? = some (.cells #[(.slice Ao62 t713.length co62), (.slice Ao67 t716.length co67)] 30 (0, 0))) ∧ Aside0 (wc.heap[gb726]? = some (.cells #[(.slice Ao71 t720.length co71), (.slice Ao77 t723.length co77)] 30 (0, 0))) ∧ Aside0 (wc.heap[gb733]? = some (.cells #[(.slice Ao80 t727.length co80), (.slice Ao87 t730.length co87)] 30 (0, 0))) ∧ Aside0 (Below w.heap.size w wc))
          case first =>
           have H := HC56.out
           clear HC56
           by_cases c94 : (wrap64 ((wrap64 ((t716.length : Int) + (t723.length : Int))) + (t730.length : Int))) > 0
           ·rw [if_pos c94] at H
            have c94b0 : decide (0 < (wrap64 ((wrap64 ((t716.length : Int) + (t723.length : Int))) + (t730.length : Int)))) = true := decide_eq_true c94
            clear c94
            (first | rw [c94b0] | (simp only [i64_w, i32_w]; rw [c94b0]) | skip)
            have H' := Aside0.mk H
            clear H
            have hnb95 := NB719_684.out
            have hnc95 := NB684_719.out
            have hnb96 := NB719_700.out
            have hnc96 := NB700_719.out
            have hnb97 := NB719_708.out
            have hnc97 := NB708_719.out
            have hnb98 := NB719_726.out
            have hnc98 := NB726_719.out
            have hnb99 := NB719_733.out
            have hnc99 := NB733_719.out
            have hcz100_0 : w93.cell? ⟨gb719, 0, none⟩ = some (.slice Ao62 t713.length co62) := (blk_cell BK719.out 0).trans rfl
            have hcz100_1 : w93.cell? ⟨gb719, 1, none⟩ = some (.slice Ao67 t716.length co67) := (blk_cell BK719.out 1).trans rfl
            have hfz100_0 := blk_frozen BK719.out 0
            have hfz100_1 := blk_frozen BK719.out 1
            have hnb101 := NB726_684.out
            have hnc101 := NB684_726.out
            have hnb102 := NB726_700.out
            have hnc102 := NB700_726.out
            have hnb103 := NB726_708.out
            have hnc103 := NB708_726.out
            have hnb104 := NB726_733.out
            have hnc104 := NB733_726.out
            have hcz105_0 : w93.cell? ⟨gb726, 0, none⟩ = some (.slice Ao71 t720.length co71) := (blk_cell BK726.out 0).trans rfl
            have hcz105_1 : w93.cell? ⟨gb726, 1, none⟩ = some (.slice Ao77 t723.length co77) := (blk_cell BK726.out 1).trans rfl
            have hfz105_0 := blk_frozen BK726.out 0
            have hfz105_1 := blk_frozen BK726.out 1
            have hnb106 := NB733_684.out
            have hnc106 := NB684_733.out
            have hnb107 := NB733_700.out
            have hnc107 := NB700_733.out
            have hnb108 := NB733_708.out
            have hnc108 := NB708_733.out
            have hcz109_0 : w93.cell? ⟨gb733, 0, none⟩ = some (.slice Ao80 t727.length co80) := (blk_cell BK733.out 0).trans rfl
            have hcz109_1 : w93.cell? ⟨gb733, 1, none⟩ = some (.slice Ao87 t730.length co87) := (blk_cell BK733.out 1).trans rfl
            have hfz109_0 := blk_frozen BK733.out 0
            have hfz109_1 := blk_frozen BK733.out 1
            go_wp2
            go_meet
            case rel => exact ⟨_, (true), (rf__), H', ⟨by have := HJ3.out; have := HJ18.out; first | omega | exact Nat.le_refl _⟩, ⟨rr__ HO742.out⟩, ⟨by (with_reducible repeat (first | apply Kd.R_alloc | apply Kd.R_drewN | apply Kd.R_drew)); exact Kd.R_mono HO_685000.out (fun _ hk => ⟨hk.2, ⟨hk.1.1, ⟨hk.1.2.1, ⟨hk.1.2.2.1, ⟨hk.1.2.2.2.1, ⟨hk.1.2.2.2.2.1, ⟨hk.1.2.2.2.2.2.1, ⟨hk.1.2.2.2.2.2.2.1, ⟨hk.1.2.2.2.2.2.2.2.1, ⟨hk.1.2.2.2.2.2.2.2.2.1, ⟨hk.1.2.2.2.2.2.2.2.2.2.1, hk.1.2.2.2.2.2.2.2.2.2.2⟩⟩⟩⟩⟩⟩⟩⟩⟩⟩⟩)⟩, ⟨by (with_reducible repeat (first | apply Kd.R_alloc | apply Kd.R_drewN | apply Kd.R_drew)); exact Kd.R_mono HO_685001.out (fun _ hk => ⟨hk.2, ⟨hk.1.1, ⟨hk.1.2.1, ⟨hk.1.2.2.1, ⟨hk.1.2.2.2.1, ⟨hk.1.2.2.2.2.1, ⟨hk.1.2.2.2.2.2.1, ⟨hk.1.2.2.2.2.2.2.1, ⟨hk.1.2.2.2.2.2.2.2.1, ⟨hk.1.2.2.2.2.2.2.2.2.1, ⟨hk.1.2.2.2.2.2.2.2.2.2.1, hk.1.2.2.2.2.2.2.2.2.2.2⟩⟩⟩⟩⟩⟩⟩⟩⟩⟩⟩)⟩, ⟨by (with_reducible repeat (first | apply Kd.R_alloc | apply Kd.R_drewN | apply Kd.R_drew)); exact Kd.R_mono HO_701000.out (fun _ hk => ⟨hk.2, ⟨hk.1.1, ⟨hk.1.2.1, ⟨hk.1.2.2.1, ⟨hk.1.2.2.2.1, ⟨hk.1.2.2.2.2.1, ⟨hk.1.2.2.2.2.2.1, ⟨hk.1.2.2.2.2.2.2.1, ⟨hk.1.2.2.2.2.2.2.2.1, ⟨hk.1.2.2.2.2.2.2.2.2.1, ⟨hk.1.2.2.2.2.2.2.2.2.2.1, hk.1.2.2.2.2.2.2.2.2.2.2⟩⟩⟩⟩⟩⟩⟩⟩⟩⟩⟩)⟩, ⟨by (with_reducible repeat (first | apply Kd.R_alloc | apply Kd.R_drewN | apply Kd.R_drew)); exact Kd.R_mono HO_701001.out (fun _ hk => ⟨hk.2, ⟨hk.1.1, ⟨hk.1.2.1, ⟨hk.1.2.2.1, ⟨hk.1.2.2.2.1, ⟨hk.1.2.2.2.2.1, ⟨hk.1.2.2.2.2.2.1, ⟨hk.1.2.2.2.2.2.2.1, ⟨hk.1.2.2.2.2.2.2.2.1, ⟨hk.1.2.2.2.2.2.2.2.2.1, ⟨hk.1.2.2.2.2.2.2.2.2.2.1, hk.1.2.2.2.2.2.2.2.2.2.2⟩⟩⟩⟩⟩⟩⟩⟩⟩⟩⟩)⟩, ⟨by (with_reducible repeat (first | apply Kd.R_alloc | apply Kd.R_drewN | apply Kd.R_drew)); exact Kd.R_mono HO_709000.out (fun _ hk => ⟨hk.2, ⟨hk.1.1, ⟨hk.1.2.1, ⟨hk.1.2.2.1, ⟨hk.1.2.2.2.1, ⟨hk.1.2.2.2.2.1, ⟨hk.1.2.2.2.2.2.1, ⟨hk.1.2.2.2.2.2.2.1, ⟨hk.1.2.2.2.2.2.2.2.1, ⟨hk.1.2.2.2.2.2.2.2.2.1, ⟨hk.1.2.2.2.2.2.2.2.2.2.1, hk.1.2.2.2.2.2.2.2.2.2.2⟩⟩⟩⟩⟩⟩⟩⟩⟩⟩⟩)⟩, ⟨by (with_reducible repeat (first | apply Kd.R_alloc | apply Kd.R_drewN | apply Kd.R_drew)); exact Kd.R_mono HO_709001.out (fun _ hk => ⟨hk.2, ⟨hk.1.1, ⟨hk.1.2.1, ⟨hk.1.2.2.1, ⟨hk.1.2.2.2.1, ⟨hk.1.2.2.2.2.1, ⟨hk.1.2.2.2.2.2.1, ⟨hk.1.2.2.2.2.2.2.1, ⟨hk.1.2.2.2.2.2.2.2.1, ⟨hk.1.2.2.2.2.2.2.2.2.1, ⟨hk.1.2.2.2.2.2.2.2.2.2.1, hk.1.2.2.2.2.2.2.2.2.2.2⟩⟩⟩⟩⟩⟩⟩⟩⟩⟩⟩)⟩, ⟨by (with_reducible repeat (first | apply Kd.R_alloc | apply Kd.R_drewN | apply Kd.R_drew)); exact Kd.R_mono HO715.out (fun _ hk => ⟨hk.2, ⟨hk.1.1, ⟨hk.1.2.1, ⟨hk.1.2.2.1, ⟨hk.1.2.2.2.1, ⟨hk.1.2.2.2.2.1, ⟨hk.1.2.2.2.2.2.1, ⟨hk.1.2.2.2.2.2.2.1, ⟨hk.1.2.2.2.2.2.2.2.1, ⟨hk.1.2.2.2.2.2.2.2.2.1, ⟨hk.1.2.2.2.2.2.2.2.2.2.1, hk.1.2.2.2.2.2.2.2.2.2.2⟩⟩⟩⟩⟩⟩⟩⟩⟩⟩⟩)⟩, ⟨by (with_reducible repeat (first | apply Kd.R_alloc | apply Kd.R_drewN | apply Kd.R_drew)); exact Kd.R_mono HO718.out (fun _ hk => ⟨hk.2, ⟨hk.1.1, ⟨hk.1.2.1, ⟨hk.1.2.2.1, ⟨hk.1.2.2.2.1, ⟨hk.1.2.2.2.2.1, ⟨hk.1.2.2.2.2.2.1, ⟨hk.1.2.2.2.2.2.2.1, ⟨hk.1.2.2.2.2.2.2.2.1, ⟨hk.1.2.2.2.2.2.2.2.2.1, ⟨hk.1.2.2.2.2.2.2.2.2.2.1, hk.1.2.2.2.2.2.2.2.2.2.2⟩⟩⟩⟩⟩⟩⟩⟩⟩⟩⟩)⟩, ⟨by (with_reducible repeat (first | apply Kd.R_alloc | apply Kd.R_drewN | apply Kd.R_drew)); exact Kd.R_mono HO722.out (fun _ hk => ⟨hk.2, ⟨hk.1.1, ⟨hk.1.2.1, ⟨hk.1.2.2.1, ⟨hk.1.2.2.2.1, ⟨hk.1.2.2.2.2.1, ⟨hk.1.2.2.2.2.2.1, ⟨hk.1.2.2.2.2.2.2.1, ⟨hk.1.2.2.2.2.2.2.2.1, ⟨hk.1.2.2.2.2.2.2.2.2.1, ⟨hk.1.2.2.2.2.2.2.2.2.2.1, hk.1.2.2.2.2.2.2.2.2.2.2⟩⟩⟩⟩⟩⟩⟩⟩⟩⟩⟩)⟩, ⟨by (with_reducible repeat (first | apply Kd.R_alloc | apply Kd.R_drewN | apply Kd.R_drew)); exact Kd.R_mono HO725.out (fun _ hk => ⟨hk.2, ⟨hk.1.1, ⟨hk.1.2.1, ⟨hk.1.2.2.1, ⟨hk.1.2.2.2.1, ⟨hk.1.2.2.2.2.1, ⟨hk.1.2.2.2.2.2.1, ⟨hk.1.2.2.2.2.2.2.1, ⟨hk.1.2.2.2.2.2.2.2.1, ⟨hk.1.2.2.2.2.2.2.2.2.1, ⟨hk.1.2.2.2.2.2.2.2.2.2.1, hk.1.2.2.2.2.2.2.2.2.2.2⟩⟩⟩⟩⟩⟩⟩⟩⟩⟩⟩)⟩, ⟨by (with_reducible repeat (first | apply Kd.R_alloc | apply Kd.R_drewN | apply Kd.R_drew)); exact Kd.R_mono HO729.out (fun _ hk => ⟨hk.2, ⟨hk.1.1, ⟨hk.1.2.1, ⟨hk.1.2.2.1, ⟨hk.1.2.2.2.1, ⟨hk.1.2.2.2.2.1, ⟨hk.1.2.2.2.2.2.1, ⟨hk.1.2.2.2.2.2.2.1, ⟨hk.1.2.2.2.2.2.2.2.1, ⟨hk.1.2.2.2.2.2.2.2.2.1, ⟨hk.1.2.2.2.2.2.2.2.2.2.1, hk.1.2.2.2.2.2.2.2.2.2.2⟩⟩⟩⟩⟩⟩⟩⟩⟩⟩⟩)⟩, ⟨by (with_reducible repeat (first | apply Kd.R_alloc | apply Kd.R_drewN | apply Kd.R_drew)); exact Kd.R_mono HO732.out (fun _ hk => ⟨hk.2, ⟨hk.1.1, ⟨hk.1.2.1, ⟨hk.1.2.2.1, ⟨hk.1.2.2.2.1, ⟨hk.1.2.2.2.2.1, ⟨hk.1.2.2.2.2.2.1, ⟨hk.1.2.2.2.2.2.2.1, ⟨hk.1.2.2.2.2.2.2.2.1, ⟨hk.1.2.2.2.2.2.2.2.2.1, ⟨hk.1.2.2.2.2.2.2.2.2.2.1, hk.1.2.2.2.2.2.2.2.2.2.2⟩⟩⟩⟩⟩⟩⟩⟩⟩⟩⟩)⟩, ⟨blk__ BK684.out⟩, ⟨blk__ BK700.out⟩, ⟨blk__ BK708.out⟩, ⟨blk__ BK719.out⟩, ⟨blk__ BK726.out⟩, ⟨blk__ BK733.out⟩, ⟨bel__⟩⟩
           ·rw [if_neg c94] at H
            have c94b0 : decide (0 < (wrap64 ((wrap64 ((t716.length : Int) + (t723.length : Int))) + (t730.length : Int)))) = false := decide_eq_false c94
            clear c94
            (first | rw [c94b0] | (simp only [i64_w, i32_w]; rw [c94b0]) | skip)
            by_cases c110 : (t713.length : Int) < (t677.length : Int)
            ·rw [if_pos c110] at H
             have c110b0 : decide ((t713.length : Int) < (t677.length : Int)) = true := decide_eq_true c110
             have c110b1 : decide (t713.length < t677.length) = true := decide_eq_true (Int.ofNat_lt.mp c110)
             clear c110
             have H' := Aside0.mk H
             clear H
             have hnb111 := NB719_684.out
             have hnc111 := NB684_719.out
             have hnb112 := NB719_700.out
             have hnc112 := NB700_719.out
             have hnb113 := NB719_708.out
             have hnc113 := NB708_719.out
             have hnb114 := NB719_726.out
             have hnc114 := NB726_719.out
             have hnb115 := NB719_733.out
             have hnc115 := NB733_719.out
             have hcz116_0 : w93.cell? ⟨gb719, 0, none⟩ = some (.slice Ao62 t713.length co62) := (blk_cell BK719.out 0).trans rfl
             have hcz116_1 : w93.cell? ⟨gb719, 1, none⟩ = some (.slice Ao67 t716.length co67) := (blk_cell BK719.out 1).trans rfl
             have hfz116_0 := blk_frozen BK719.out 0
             have hfz116_1 := blk_frozen BK719.out 1
             have hnb117 := NB726_684.out
             have hnc117 := NB684_726.out
             have hnb118 := NB726_700.out
             have hnc118 := NB700_726.out
             have hnb119 := NB726_708.out
             have hnc119 := NB708_726.out
             have hnb120 := NB726_733.out
             have hnc120 := NB733_726.out
             have hcz121_0 : w93.cell? ⟨gb726, 0, none⟩ = some (.slice Ao71 t720.length co71) := (blk_cell BK726.out 0).trans rfl
             have hcz121_1 : w93.cell? ⟨gb726, 1, none⟩ = some (.slice Ao77 t723.length co77) := (blk_cell BK726.out 1).trans rfl
             have hfz121_0 := blk_frozen BK726.out 0
             have hfz121_1 := blk_frozen BK726.out 1
             have hnb122 := NB733_684.out
             have hnc122 := NB684_733.out
             have hnb123 := NB733_700.out
             have hnc123 := NB700_733.out
             have hnb124 := NB733_708.out
             have hnc124 := NB708_733.out
             have hcz125_0 : w93.cell? ⟨gb733, 0, none⟩ = some (.slice Ao80 t727.length co80) := (blk_cell BK733.out 0).trans rfl
             have hcz125_1 : w93.cell? ⟨gb733, 1, none⟩ = some (.slice Ao87 t730.length co87) := (blk_cell BK733.out 1).trans rfl
             have hfz125_0 := blk_frozen BK733.out 0
             have hfz125_1 := blk_frozen BK733.out 1
             have hnb126 := NB684_700.out
             have hnc126 := NB700_684.out
             have hnb127 := NB684_708.out
             have hnc127 := NB708_684.out
             have hcz128_0 : w93.cell? ⟨gb684, 0, none⟩ = some (.slice Ao7 t677.length co7) := (blk_cell BK684.out 0).trans rfl
             have hcz128_1 : w93.cell? ⟨gb684, 1, none⟩ = some (.slice Ao9 t680.length co9) := (blk_cell BK684.out 1).trans rfl
             have hfz128_0 := blk_frozen BK684.out 0
             have hfz128_1 := blk_frozen BK684.out 1
             go_wp2
             go_meet
             case rel => exact ⟨_, (true), (rf__), H', ⟨by have := HJ3.out; have := HJ18.out; first | omega | exact Nat.le_refl _⟩, ⟨rr__ HO742.out⟩, ⟨by (with_reducible repeat (first | apply Kd.R_alloc | apply Kd.R_drewN | apply Kd.R_drew)); exact Kd.R_mono HO_685000.out (fun _ hk => ⟨hk.2, ⟨hk.1.1, ⟨hk.1.2.1, ⟨hk.1.2.2.1, ⟨hk.1.2.2.2.1, ⟨hk.1.2.2.2.2.1, ⟨hk.1.2.2.2.2.2.1, ⟨hk.1.2.2.2.2.2.2.1, ⟨hk.1.2.2.2.2.2.2.2.1, ⟨hk.1.2.2.2.2.2.2.2.2.1, ⟨hk.1.2.2.2.2.2.2.2.2.2.1, hk.1.2.2.2.2.2.2.2.2.2.2⟩⟩⟩⟩⟩⟩⟩⟩⟩⟩⟩)⟩, ⟨by (with_reducible repeat (first | apply Kd.R_alloc | apply Kd.R_drewN | apply Kd.R_drew)); exact Kd.R_mono HO_685001.out (fun _ hk => ⟨hk.2, ⟨hk.1.1, ⟨hk.1.2.1, ⟨hk.1.2.2.1, ⟨hk.1.2.2.2.1, ⟨hk.1.2.2.2.2.1, ⟨hk.1.2.2.2.2.2.1, ⟨hk.1.2.2.2.2.2.2.1, ⟨hk.1.2.2.2.2.2.2.2.1, ⟨hk.1.2.2.2.2.2.2.2.2.1, ⟨hk.1.2.2.2.2.2.2.2.2.2.1, hk.1.2.2.2.2.2.2.2.2.2.2⟩⟩⟩⟩⟩⟩⟩⟩⟩⟩⟩)⟩, ⟨by (with_reducible repeat (first | apply Kd.R_alloc | apply Kd.R_drewN | apply Kd.R_drew)); exact Kd.R_mono HO_701000.out (fun _ hk => ⟨hk.2, ⟨hk.1.1, ⟨hk.1.2.1, ⟨hk.1.2.2.1, ⟨hk.1.2.2.2.1, ⟨hk.1.2.2.2.2.1, ⟨hk.1.2.2.2.2.2.1, ⟨hk.1.2.2.2.2.2.2.1, ⟨hk.1.2.2.2.2.2.2.2.1, ⟨hk.1.2.2.2.2.2.2.2.2.1, ⟨hk.1.2.2.2.2.2.2.2.2.2.1, hk.1.2.2.2.2.2.2.2.2.2.2⟩⟩⟩⟩⟩⟩⟩⟩⟩⟩⟩)⟩, ⟨by (with_reducible repeat (first | apply Kd.R_alloc | apply Kd.R_drewN | apply Kd.R_drew)); exact Kd.R_mono HO_701001.out (fun _ hk => ⟨hk.2, ⟨hk.1.1, ⟨hk.1.2.1, ⟨hk.1.2.2.1, ⟨hk.1.2.2.2.1, ⟨hk.1.2.2.2.2.1, ⟨hk.1.2.2.2.2.2.1, ⟨hk.1.2.2.2.2.2.2.1, ⟨hk.1.2.2.2.2.2.2.2.1, ⟨hk.1.2.2.2.2.2.2.2.2.1, ⟨hk.1.2.2.2.2.2.2.2.2.2.1, hk.1.2.2.2.2.2.2.2.2.2.2⟩⟩⟩⟩⟩⟩⟩⟩⟩⟩⟩)⟩, ⟨by (with_reducible repeat (first | apply Kd.R_alloc | apply Kd.R_drewN | apply Kd.R_drew)); exact Kd.R_mono HO_709000.out (fun _ hk => ⟨hk.2, ⟨hk.1.1, ⟨hk.1.2.1, ⟨hk.1.2.2.1, ⟨hk.1.2.2.2.1, ⟨hk.1.2.2.2.2.1, ⟨hk.1.2.2.2.2.2.1, ⟨hk.1.2.2.2.2.2.2.1, ⟨hk.1.2.2.2.2.2.2.2.1, ⟨hk.1.2.2.2.2.2.2.2.2.1, ⟨hk.1.2.2.2.2.2.2.2.2.2.1, hk.1.2.2.2.2.2.2.2.2.2.2⟩⟩⟩⟩⟩⟩⟩⟩⟩⟩⟩)⟩, ⟨by (with_reducible repeat (first | apply Kd.R_alloc | apply Kd.R_drewN | apply Kd.R_drew)); exact Kd.R_mono HO_709001.out (fun _ hk => ⟨hk.2, ⟨hk.1.1, ⟨hk.1.2.1, ⟨hk.1.2.2.1, ⟨hk.1.2.2.2.1, ⟨hk.1.2.2.2.2.1, ⟨hk.1.2.2.2.2.2.1, ⟨hk.1.2.2.2.2.2.2.1, ⟨hk.1.2.2.2.2.2.2.2.1, ⟨hk.1.2.2.2.2.2.2.2.2.1, ⟨hk.1.2.2.2.2.2.2.2.2.2.1, hk.1.2.2.2.2.2.2.2.2.2.2⟩⟩⟩⟩⟩⟩⟩⟩⟩⟩⟩)⟩, ⟨by (with_reducible repeat (first | apply Kd.R_alloc | apply Kd.R_drewN | apply Kd.R_drew)); exact Kd.R_mono HO715.out (fun _ hk => ⟨hk.2, ⟨hk.1.1, ⟨hk.1.2.1, ⟨hk.1.2.2.1, ⟨hk.1.2.2.2.1, ⟨hk.1.2.2.2.2.1, ⟨hk.1.2.2.2.2.2.1, ⟨hk.1.2.2.2.2.2.2.1, ⟨hk.1.2.2.2.2.2.2.2.1, ⟨hk.1.2.2.2.2.2.2.2.2.1, ⟨hk.1.2.2.2.2.2.2.2.2.2.1, hk.1.2.2.2.2.2.2.2.2.2.2⟩⟩⟩⟩⟩⟩⟩⟩⟩⟩⟩)⟩, ⟨by (with_reducible repeat (first | apply Kd.R_alloc | apply Kd.R_drewN | apply Kd.R_drew)); exact Kd.R_mono HO718.out (fun _ hk => ⟨hk.2, ⟨hk.1.1, ⟨hk.1.2.1, ⟨hk.1.2.2.1, ⟨hk.1.2.2.2.1, ⟨hk.1.2.2.2.2.1, ⟨hk.1.2.2.2.2.2.1, ⟨hk.1.2.2.2.2.2.2.1, ⟨hk.1.2.2.2.2.2.2.2.1, ⟨hk.1.2.2.2.2.2.2.2.2.1, ⟨hk.1.2.2.2.2.2.2.2.2.2.1, hk.1.2.2.2.2.2.2.2.2.2.2⟩⟩⟩⟩⟩⟩⟩⟩⟩⟩⟩)⟩, ⟨by (with_reducible repeat (first | apply Kd.R_alloc | apply Kd.R_drewN | apply Kd.R_drew)); exact Kd.R_mono HO722.out (fun _ hk => ⟨hk.2, ⟨hk.1.1, ⟨hk.1.2.1, ⟨hk.1.2.2.1, ⟨hk.1.2.2.2.1, ⟨hk.1.2.2.2.2.1, ⟨hk.1.2.2.2.2.2.1, ⟨hk.1.2.2.2.2.2.2.1, ⟨hk.1.2.2.2.2.2.2.2.1, ⟨hk.1.2.2.2.2.2.2.2.2.1, ⟨hk.1.2.2.2.2.2.2.2.2.2.1, hk.1.2.2.2.2.2.2.2.2.2.2⟩⟩⟩⟩⟩⟩⟩⟩⟩⟩⟩)⟩, ⟨by (with_reducible repeat (first | apply Kd.R_alloc | apply Kd.R_drewN | apply Kd.R_drew)); exact Kd.R_mono HO725.out (fun _ hk => ⟨hk.2, ⟨hk.1.1, ⟨hk.1.2.1, ⟨hk.1.2.2.1, ⟨hk.1.2.2.2.1, ⟨hk.1.2.2.2.2.1, ⟨hk.1.2.2.2.2.2.1, ⟨hk.1.2.2.2.2.2.2.1, ⟨hk.1.2.2.2.2.2.2.2.1, ⟨hk.1.2.2.2.2.2.2.2.2.1, ⟨hk.1.2.2.2.2.2.2.2.2.2.1, hk.1.2.2.2.2.2.2.2.2.2.2⟩⟩⟩⟩⟩⟩⟩⟩⟩⟩⟩)⟩, ⟨by (with_reducible repeat (first | apply Kd.R_alloc | apply Kd.R_drewN | apply Kd.R_drew)); exact Kd.R_mono HO729.out (fun _ hk => ⟨hk.2, ⟨hk.1.1, ⟨hk.1.2.1, ⟨hk.1.2.2.1, ⟨hk.1.2.2.2.1, ⟨hk.1.2.2.2.2.1, ⟨hk.1.2.2.2.2.2.1, ⟨hk.1.2.2.2.2.2.2.1, ⟨hk.1.2.2.2.2.2.2.2.1, ⟨hk.1.2.2.2.2.2.2.2.2.1, ⟨hk.1.2.2.2.2.2.2.2.2.2.1, hk.1.2.2.2.2.2.2.2.2.2.2⟩⟩⟩⟩⟩⟩⟩⟩⟩⟩⟩)⟩, ⟨by (with_reducible repeat (first | apply Kd.R_alloc | apply Kd.R_drewN | apply Kd.R_drew)); exact Kd.R_mono HO732.out (fun _ hk => ⟨hk.2, ⟨hk.1.1, ⟨hk.1.2.1, ⟨hk.1.2.2.1, ⟨hk.1.2.2.2.1, ⟨hk.1.2.2.2.2.1, ⟨hk.1.2.2.2.2.2.1, ⟨hk.1.2.2.2.2.2.2.1, ⟨hk.1.2.2.2.2.2.2.2.1, ⟨hk.1.2.2.2.2.2.2.2.2.1, ⟨hk.1.2.2.2.2.2.2.2.2.2.1, hk.1.2.2.2.2.2.2.2.2.2.2⟩⟩⟩⟩⟩⟩⟩⟩⟩⟩⟩)⟩, ⟨blk__ BK684.out⟩, ⟨blk__ BK700.out⟩, ⟨blk__ BK708.out⟩, ⟨blk__ BK719.out⟩, ⟨blk__ BK726.out⟩, ⟨blk__ BK733.out⟩, ⟨bel__⟩⟩
            ·rw [if_neg c110] at H
             have c110b0 : decide ((t713.length : Int) < (t677.length : Int)) = false := decide_eq_false c110
             have c110b1 : decide (t713.length < t677.length) = false := decide_eq_false (fun h => c110 (Int.ofNat_lt.mpr h))
             clear c110
             by_cases c129 : (t713.length : Int) > (y740.length : Int)
             ·rw [if_pos c129] at H
              have c129b0 : decide ((y740.length : Int) < (t713.length : Int)) = true := decide_eq_true c129
              have c129b1 : decide (y740.length < t713.length) = true := decide_eq_true (Int.ofNat_lt.mp c129)
              clear c129
              have H' := Aside0.mk H
              clear H
              have hnb130 := NB719_684.out
              have hnc130 := NB684_719.out
              have hnb131 := NB719_700.out
              have hnc131 := NB700_719.out
              have hnb132 := NB719_708.out
              have hnc132 := NB708_719.out
              have hnb133 := NB719_726.out
              have hnc133 := NB726_719.out
              have hnb134 := NB719_733.out
              have hnc134 := NB733_719.out
              have hcz135_0 : w93.cell? ⟨gb719, 0, none⟩ = some (.slice Ao62 t713.length co62) := (blk_cell BK719.out 0).trans rfl
              have hcz135_1 : w93.cell? ⟨gb719, 1, none⟩ = some (.slice Ao67 t716.length co67) := (blk_cell BK719.out 1).trans rfl
              have hfz135_0 := blk_frozen BK719.out 0
              have hfz135_1 := blk_frozen BK719.out 1
              have hnb136 := NB726_684.out
              have hnc136 := NB684_726.out
              have hnb137 := NB726_700.out
              have hnc137 := NB700_726.out
              have hnb138 := NB726_708.out
              have hnc138 := NB708_726.out
              have hnb139 := NB726_733.out
              have hnc139 := NB733_726.out
              have hcz140_0 : w93.cell? ⟨gb726, 0, none⟩ = some (.slice Ao71 t720.length co71) := (blk_cell BK726.out 0).trans rfl
              have hcz140_1 : w93.cell? ⟨gb726, 1, none⟩ = some (.slice Ao77 t723.length co77) := (blk_cell BK726.out 1).trans rfl
              have hfz140_0 := blk_frozen BK726.out 0
              have hfz140_1 := blk_frozen BK726.out 1
              have hnb141 := NB733_684.out
              have hnc141 := NB684_733.out
              have hnb142 := NB733_700.out
              have hnc142 := NB700_733.out
              have hnb143 := NB733_708.out
              have hnc143 := NB708_733.out
              have hcz144_0 : w93.cell? ⟨gb733, 0, none⟩ = some (.slice Ao80 t727.length co80) := (blk_cell BK733.out 0).trans rfl
              have hcz144_1 : w93.cell? ⟨gb733, 1, none⟩ = some (.slice Ao87 t730.length co87) := (blk_cell BK733.out 1).trans rfl
              have hfz144_0 := blk_frozen BK733.out 0
              have hfz144_1 := blk_frozen BK733.out 1
              have hnb145 := NB684_700.out
              have hnc145 := NB700_684.out
              have hnb146 := NB684_708.out
              have hnc146 := NB708_684.out
              have hcz147_0 : w93.cell? ⟨gb684, 0, none⟩ = some (.slice Ao7 t677.length co7) := (blk_cell BK684.out 0).trans rfl
              have hcz147_1 : w93.cell? ⟨gb684, 1, none⟩ = some (.slice Ao9 t680.length co9) := (blk_cell BK684.out 1).trans rfl
              have hfz147_0 := blk_frozen BK684.out 0
              have hfz147_1 := blk_frozen BK684.out 1
              obtain ⟨Ao148, co148, eo148⟩ := Kd.R_slice HO742.out
              subst eo148
              go_wp2
              go_meet
              case rel => exact ⟨_, (true), (rf__), H', ⟨by have := HJ3.out; have := HJ18.out; first | omega | exact Nat.le_refl _⟩, ⟨rr__ HO742.out⟩, ⟨by (with_reducible repeat (first | apply Kd.R_alloc | apply Kd.R_drewN | apply Kd.R_drew)); exact Kd.R_mono HO_685000.out (fun _ hk => ⟨hk.2, ⟨hk.1.1, ⟨hk.1.2.1, ⟨hk.1.2.2.1, ⟨hk.1.2.2.2.1, ⟨hk.1.2.2.2.2.1, ⟨hk.1.2.2.2.2.2.1, ⟨hk.1.2.2.2.2.2.2.1, ⟨hk.1.2.2.2.2.2.2.2.1, ⟨hk.1.2.2.2.2.2.2.2.2.1, ⟨hk.1.2.2.2.2.2.2.2.2.2.1, hk.1.2.2.2.2.2.2.2.2.2.2⟩⟩⟩⟩⟩⟩⟩⟩⟩⟩⟩)⟩, ⟨by (with_reducible repeat (first | apply Kd.R_alloc | apply Kd.R_drewN | apply Kd.R_drew)); exact Kd.R_mono HO_685001.out (fun _ hk => ⟨hk.2, ⟨hk.1.1, ⟨hk.1.2.1, ⟨hk.1.2.2.1, ⟨hk.1.2.2.2.1, ⟨hk.1.2.2.2.2.1, ⟨hk.1.2.2.2.2.2.1, ⟨hk.1.2.2.2.2.2.2.1, ⟨hk.1.2.2.2.2.2.2.2.1, ⟨hk.1.2.2.2.2.2.2.2.2.1, ⟨hk.1.2.2.2.2.2.2.2.2.2.1, hk.1.2.2.2.2.2.2.2.2.2.2⟩⟩⟩⟩⟩⟩⟩⟩⟩⟩⟩)⟩, ⟨by (with_reducible repeat (first | apply Kd.R_alloc | apply Kd.R_drewN | apply Kd.R_drew)); exact Kd.R_mono HO_701000.out (fun _ hk => ⟨hk.2, ⟨hk.1.1, ⟨hk.1.2.1, ⟨hk.1.2.2.1, ⟨hk.1.2.2.2.1, ⟨hk.1.2.2.2.2.1, ⟨hk.1.2.2.2.2.2.1, ⟨hk.1.2.2.2.2.2.2.1, ⟨hk.1.2.2.2.2.2.2.2.1, ⟨hk.1.2.2.2.2.2.2.2.2.1, ⟨hk.1.2.2.2.2.2.2.2.2.2.1, hk.1.2.2.2.2.2.2.2.2.2.2⟩⟩⟩⟩⟩⟩⟩⟩⟩⟩⟩)⟩, ⟨by (with_reducible repeat (first | apply Kd.R_alloc | apply Kd.R_drewN | apply Kd.R_drew)); exact Kd.R_mono HO_701001.out (fun _ hk => ⟨hk.2, ⟨hk.1.1, ⟨hk.1.2.1, ⟨hk.1.2.2.1, ⟨hk.1.2.2.2.1, ⟨hk.1.2.2.2.2.1, ⟨hk.1.2.2.2.2.2.1, ⟨hk.1.2.2.2.2.2.2.1, ⟨hk.1.2.2.2.2.2.2.2.1, ⟨hk.1.2.2.2.2.2.2.2.2.1, ⟨hk.1.2.2.2.2.2.2.2.2.2.1, hk.1.2.2.2.2.2.2.2.2.2.2⟩⟩⟩⟩⟩⟩⟩⟩⟩⟩⟩)⟩, ⟨by (with_reducible repeat (first | apply Kd.R_alloc | apply Kd.R_drewN | apply Kd.R_drew)); exact Kd.R_mono HO_709000.out (fun _ hk => ⟨hk.2, ⟨hk.1.1, ⟨hk.1.2.1, ⟨hk.1.2.2.1, ⟨hk.1.2.2.2.1, ⟨hk.1.2.2.2.2.1, ⟨hk.1.2.2.2.2.2.1, ⟨hk.1.2.2.2.2.2.2.1, ⟨hk.1.2.2.2.2.2.2.2.1, ⟨hk.1.2.2.2.2.2.2.2.2.1, ⟨hk.1.2.2.2.2.2.2.2.2.2.1, hk.1.2.2.2.2.2.2.2.2.2.2⟩⟩⟩⟩⟩⟩⟩⟩⟩⟩⟩)⟩, ⟨by (with_reducible repeat (first | apply Kd.R_alloc | apply Kd.R_drewN | apply Kd.R_drew)); exact Kd.R_mono HO_709001.out (fun _ hk => ⟨hk.2, ⟨hk.1.1, ⟨hk.1.2.1, ⟨hk.1.2.2.1, ⟨hk.1.2.2.2.1, ⟨hk.1.2.2.2.2.1, ⟨hk.1.2.2.2.2.2.1, ⟨hk.1.2.2.2.2.2.2.1, ⟨hk.1.2.2.2.2.2.2.2.1, ⟨hk.1.2.2.2.2.2.2.2.2.1, ⟨hk.1.2.2.2.2.2.2.2.2.2.1, hk.1.2.2.2.2.2.2.2.2.2.2⟩⟩⟩⟩⟩⟩⟩⟩⟩⟩⟩)⟩, ⟨by (with_reducible repeat (first | apply Kd.R_alloc | apply Kd.R_drewN | apply Kd.R_drew)); exact Kd.R_mono HO715.out (fun _ hk => ⟨hk.2, ⟨hk.1.1, ⟨hk.1.2.1, ⟨hk.1.2.2.1, ⟨hk.1.2.2.2.1, ⟨hk.1.2.2.2.2.1, ⟨hk.1.2.2.2.2.2.1, ⟨hk.1.2.2.2.2.2.2.1, ⟨hk.1.2.2.2.2.2.2.2.1, ⟨hk.1.2.2.2.2.2.2.2.2.1, ⟨hk.1.2.2.2.2.2.2.2.2.2.1, hk.1.2.2.2.2.2.2.2.2.2.2⟩⟩⟩⟩⟩⟩⟩⟩⟩⟩⟩)⟩, ⟨by (with_reducible repeat (first | apply Kd.R_alloc | apply Kd.R_drewN | apply Kd.R_drew)); exact Kd.R_mono HO718.out (fun _ hk => ⟨hk.2, ⟨hk.1.1, ⟨hk.1.2.1, ⟨hk.1.2.2.1, ⟨hk.1.2.2.2.1, ⟨hk.1.2.2.2.2.1, ⟨hk.1.2.2.2.2.2.1, ⟨hk.1.2.2.2.2.2.2.1, ⟨hk.1.2.2.2.2.2.2.2.1, ⟨hk.1.2.2.2.2.2.2.2.2.1, ⟨hk.1.2.2.2.2.2.2.2.2.2.1, hk.1.2.2.2.2.2.2.2.2.2.2⟩⟩⟩⟩⟩⟩⟩⟩⟩⟩⟩)⟩, ⟨by (with_reducible repeat (first | apply Kd.R_alloc | apply Kd.R_drewN | apply Kd.R_drew)); exact Kd.R_mono HO722.out (fun _ hk => ⟨hk.2, ⟨hk.1.1, ⟨hk.1.2.1, ⟨hk.1.2.2.1, ⟨hk.1.2.2.2.1, ⟨hk.1.2.2.2.2.1, ⟨hk.1.2.2.2.2.2.1, ⟨hk.1.2.2.2.2.2.2.1, ⟨hk.1.2.2.2.2.2.2.2.1, ⟨hk.1.2.2.2.2.2.2.2.2.1, ⟨hk.1.2.2.2.2.2.2.2.2.2.1, hk.1.2.2.2.2.2.2.2.2.2.2⟩⟩⟩⟩⟩⟩⟩⟩⟩⟩⟩)⟩, ⟨by (with_reducible repeat (first | apply Kd.R_alloc | apply Kd.R_drewN | apply Kd.R_drew)); exact Kd.R_mono HO725.out (fun _ hk => ⟨hk.2, ⟨hk.1.1, ⟨hk.1.2.1, ⟨hk.1.2.2.1, ⟨hk.1.2.2.2.1, ⟨hk.1.2.2.2.2.1, ⟨hk.1.2.2.2.2.2.1, ⟨hk.1.2.2.2.2.2.2.1, ⟨hk.1.2.2.2.2.2.2.2.1, ⟨hk.1.2.2.2.2.2.2.2.2.1, ⟨hk.1.2.2.2.2.2.2.2.2.2.1, hk.1.2.2.2.2.2.2.2.2.2.2⟩⟩⟩⟩⟩⟩⟩⟩⟩⟩⟩)⟩, ⟨by (with_reducible repeat (first | apply Kd.R_alloc | apply Kd.R_drewN | apply Kd.R_drew)); exact Kd.R_mono HO729.out (fun _ hk => ⟨hk.2, ⟨hk.1.1, ⟨hk.1.2.1, ⟨hk.1.2.2.1, ⟨hk.1.2.2.2.1, ⟨hk.1.2.2.2.2.1, ⟨hk.1.2.2.2.2.2.1, ⟨hk.1.2.2.2.2.2.2.1, ⟨hk.1.2.2.2.2.2.2.2.1, ⟨hk.1.2.2.2.2.2.2.2.2.1, ⟨hk.1.2.2.2.2.2.2.2.2.2.1, hk.1.2.2.2.2.2.2.2.2.2.2⟩⟩⟩⟩⟩⟩⟩⟩⟩⟩⟩)⟩, ⟨by (with_reducible repeat (first | apply Kd.R_alloc | apply Kd.R_drewN | apply Kd.R_drew)); exact Kd.R_mono HO732.out (fun _ hk => ⟨hk.2, ⟨hk.1.1, ⟨hk.1.2.1, ⟨hk.1.2.2.1, ⟨hk.1.2.2.2.1, ⟨hk.1.2.2.2.2.1, ⟨hk.1.2.2.2.2.2.1, ⟨hk.1.2.2.2.2.2.2.1, ⟨hk.1.2.2.2.2.2.2.2.1, ⟨hk.1.2.2.2.2.2.2.2.2.1, ⟨hk.1.2.2.2.2.2.2.2.2.2.1, hk.1.2.2.2.2.2.2.2.2.2.2⟩⟩⟩⟩⟩⟩⟩⟩⟩⟩⟩)⟩, ⟨blk__ BK684.out⟩, ⟨blk__ BK700.out⟩, ⟨blk__ BK708.out⟩, ⟨blk__ BK719.out⟩, ⟨blk__ BK726.out⟩, ⟨blk__ BK733.out⟩, ⟨bel__⟩⟩
             ·rw [if_neg c129] at H
              have c129b0 : decide ((y740.length : Int) < (t713.length : Int)) = false := decide_eq_false c129
              have c129b1 : decide (y740.length < t713.length) = false := decide_eq_false (fun h => c129 (Int.ofNat_lt.mpr h))
              clear c129
              replace H := Option.bind_eq_some_iff.mp H
              obtain ⟨t743, A1490, H⟩ := H
              replace H : (if t743 = true then ((laws_wList.f kj18 t727 y740).bind fun t744 => (laws_FnLog.j2 kj18 x6_3 y740 (!t744) t677 t680 t693 t696 t713 t716)) else (laws_FnLog.j2 kj18 x6_3 y740 true t677 t680 t693 t696 t713 t716)) = some r := H
              have A149 := Aside0.mk A1490
              clear A1490
              by_cases c150 : t743 = true
              ·subst c150
               have H1 : ((laws_wList.f kj18 t727 y740).bind fun t744 => (laws_FnLog.j2 kj18 x6_3 y740 (!t744) t677 t680 t693 t696 t713 t716)) = some r := by rw [if_pos rfl] at H; exact H
               clear H
               have H := H1
               clear H1
               replace H := Option.bind_eq_some_iff.mp H
               obtain ⟨t744, A1510, H⟩ := H
               replace H : (laws_FnLog.j2 kj18 x6_3 y740 (!t744) t677 t680 t693 t696 t713 t716) = some r := H
               have A151 := Aside0.mk A1510
               clear A1510
               have H' := Aside0.mk H
               clear H
               have hnb152 := NB719_684.out
               have hnc152 := NB684_719.out
               have hnb153 := NB719_700.out
               have hnc153 := NB700_719.out
               have hnb154 := NB719_708.out
               have hnc154 := NB708_719.out
               have hnb155 := NB719_726.out
               have hnc155 := NB726_719.out
               have hnb156 := NB719_733.out
               have hnc156 := NB733_719.out
               have hcz157_0 : w93.cell? ⟨gb719, 0, none⟩ = some (.slice Ao62 t713.length co62) := (blk_cell BK719.out 0).trans rfl
               have hcz157_1 : w93.cell? ⟨gb719, 1, none⟩ = some (.slice Ao67 t716.length co67) := (blk_cell BK719.out 1).trans rfl
               have hfz157_0 := blk_frozen BK719.out 0
               have hfz157_1 := blk_frozen BK719.out 1
               have hnb158 := NB726_684.out
               have hnc158 := NB684_726.out
               have hnb159 := NB726_700.out
               have hnc159 := NB700_726.out
               have hnb160 := NB726_708.out
               have hnc160 := NB708_726.out
               have hnb161 := NB726_733.out
               have hnc161 := NB733_726.out
               have hcz162_0 : w93.cell? ⟨gb726, 0, none⟩ = some (.slice Ao71 t720.length co71) := (blk_cell BK726.out 0).trans rfl
               have hcz162_1 : w93.cell? ⟨gb726, 1, none⟩ = some (.slice Ao77 t723.length co77) := (blk_cell BK726.out 1).trans rfl
               have hfz162_0 := blk_frozen BK726.out 0
               have hfz162_1 := blk_frozen BK726.out 1
               have hnb163 := NB733_684.out
               have hnc163 := NB684_733.out
               have hnb164 := NB733_700.out
               have hnc164 := NB700_733.out
               have hnb165 := NB733_708.out
               have hnc165 := NB708_733.out
               have hcz166_0 : w93.cell? ⟨gb733, 0, none⟩ = some (.slice Ao80 t727.length co80) := (blk_cell BK733.out 0).trans rfl
               have hcz166_1 : w93.cell? ⟨gb733, 1, none⟩ = some (.slice Ao87 t730.length co87) := (blk_cell BK733.out 1).trans rfl
               have hfz166_0 := blk_frozen BK733.out 0
               have hfz166_1 := blk_frozen BK733.out 1
               have hnb167 := NB684_700.out
               have hnc167 := NB700_684.out
               have hnb168 := NB684_708.out
               have hnc168 := NB708_684.out
               have hcz169_0 : w93.cell? ⟨gb684, 0, none⟩ = some (.slice Ao7 t677.length co7) := (blk_cell BK684.out 0).trans rfl
               have hcz169_1 : w93.cell? ⟨gb684, 1, none⟩ = some (.slice Ao9 t680.length co9) := (blk_cell BK684.out 1).trans rfl
               have hfz169_0 := blk_frozen BK684.out 0
               have hfz169_1 := blk_frozen BK684.out 1
               obtain ⟨Ao170, co170, eo170⟩ := Kd.R_slice HO742.out
               subst eo170
               go_wp2_with (first | (go_at_call 41; (with_reducible refine (laws_wList.calls kj18 _ _ t720 _ _ y740 true _ ?side1 ?side2 ?side3 ?side4 A149.out).mono ?_); (case side1 => repeat (first | exact (Kd.R_reads' HO722.out).2.2 | (with_reducible refine Kd.C_alloc ?_ _) | (with_reducible refine Kd.C_drewN ?_ _) | (with_reducible refine Kd.C_drew ?_))); (case side2 => exact (Kd.R_reads' HO722.out).2.1); (case side3 => repeat (first | exact (Kd.R_reads' HO742.out).2.2 | (with_reducible refine Kd.C_alloc ?_ _) | (with_reducible refine Kd.C_drewN ?_ _) | (with_reducible refine Kd.C_drew ?_))); (case side4 => exact (Kd.R_reads' HO742.out).2.1); rintro e w' ⟨rfl, ⟨nd, rfl⟩⟩) | (go_at_call 41; (with_reducible refine (laws_wList.calls kj18 _ _ t727 _ _ y740 t744 _ ?side1 ?side2 ?side3 ?side4 A151.out).mono ?_); (case side1 => repeat (first | exact (Kd.R_reads' HO729.out).2.2 | (with_reducible refine Kd.C_alloc ?_ _) | (with_reducible refine Kd.C_drewN ?_ _) | (with_reducible refine Kd.C_drew ?_))); (case side2 => exact (Kd.R_reads' HO729.out).2.1); (case side3 => repeat (first | exact (Kd.R_reads' HO742.out).2.2 | (with_reducible refine Kd.C_alloc ?_ _) | (with_reducible refine Kd.C_drewN ?_ _) | (with_reducible refine Kd.C_drew ?_))); (case side4 => exact (Kd.R_reads' HO742.out).2.1); rintro e w' ⟨rfl, ⟨nd, rfl⟩⟩))
               go_meet
               case rel => exact ⟨_, (!t744), (rf__), H', ⟨by have := HJ3.out; have := HJ18.out; first | omega | exact Nat.le_refl _⟩, ⟨rr__ HO742.out⟩, ⟨by (with_reducible repeat (first | apply Kd.R_alloc | apply Kd.R_drewN | apply Kd.R_drew)); exact Kd.R_mono HO_685000.out (fun _ hk => ⟨hk.2, ⟨hk.1.1, ⟨hk.1.2.1, ⟨hk.1.2.2.1, ⟨hk.1.2.2.2.1, ⟨hk.1.2.2.2.2.1, ⟨hk.1.2.2.2.2.2.1, ⟨hk.1.2.2.2.2.2.2.1, ⟨hk.1.2.2.2.2.2.2.2.1, ⟨hk.1.2.2.2.2.2.2.2.2.1, ⟨hk.1.2.2.2.2.2.2.2.2.2.1, hk.1.2.2.2.2.2.2.2.2.2.2⟩⟩⟩⟩⟩⟩⟩⟩⟩⟩⟩)⟩, ⟨by (with_reducible repeat (first | apply Kd.R_alloc | apply Kd.R_drewN | apply Kd.R_drew)); exact Kd.R_mono HO_685001.out (fun _ hk => ⟨hk.2, ⟨hk.1.1, ⟨hk.1.2.1, ⟨hk.1.2.2.1, ⟨hk.1.2.2.2.1, ⟨hk.1.2.2.2.2.1, ⟨hk.1.2.2.2.2.2.1, ⟨hk.1.2.2.2.2.2.2.1, ⟨hk.1.2.2.2.2.2.2.2.1, ⟨hk.1.2.2.2.2.2.2.2.2.1, ⟨hk.1.2.2.2.2.2.2.2.2.2.1, hk.1.2.2.2.2.2.2.2.2.2.2⟩⟩⟩⟩⟩⟩⟩⟩⟩⟩⟩)⟩, ⟨by (with_reducible repeat (first | apply Kd.R_alloc | apply Kd.R_drewN | apply Kd.R_drew)); exact Kd.R_mono HO_701000.out (fun _ hk => ⟨hk.2, ⟨hk.1.1, ⟨hk.1.2.1, ⟨hk.1.2.2.1, ⟨hk.1.2.2.2.1, ⟨hk.1.2.2.2.2.1, ⟨hk.1.2.2.2.2.2.1, ⟨hk.1.2.2.2.2.2.2.1, ⟨hk.1.2.2.2.2.2.2.2.1, ⟨hk.1.2.2.2.2.2.2.2.2.1, ⟨hk.1.2.2.2.2.2.2.2.2.2.1, hk.1.2.2.2.2.2.2.2.2.2.2⟩⟩⟩⟩⟩⟩⟩⟩⟩⟩⟩)⟩, ⟨by (with_reducible repeat (first | apply Kd.R_alloc | apply Kd.R_drewN | apply Kd.R_drew)); exact Kd.R_mono HO_701001.out (fun _ hk => ⟨hk.2, ⟨hk.1.1, ⟨hk.1.2.1, ⟨hk.1.2.2.1, ⟨hk.1.2.2.2.1, ⟨hk.1.2.2.2.2.1, ⟨hk.1.2.2.2.2.2.1, ⟨hk.1.2.2.2.2.2.2.1, ⟨hk.1.2.2.2.2.2.2.2.1, ⟨hk.1.2.2.2.2.2.2.2.2.1, ⟨hk.1.2.2.2.2.2.2.2.2.2.1, hk.1.2.2.2.2.2.2.2.2.2.2⟩⟩⟩⟩⟩⟩⟩⟩⟩⟩⟩)⟩, ⟨by (with_reducible repeat (first | apply Kd.R_alloc | apply Kd.R_drewN | apply Kd.R_drew)); exact Kd.R_mono HO_709000.out (fun _ hk => ⟨hk.2, ⟨hk.1.1, ⟨hk.1.2.1, ⟨hk.1.2.2.1, ⟨hk.1.2.2.2.1, ⟨hk.1.2.2.2.2.1, ⟨hk.1.2.2.2.2.2.1, ⟨hk.1.2.2.2.2.2.2.1, ⟨hk.1.2.2.2.2.2.2.2.1, ⟨hk.1.2.2.2.2.2.2.2.2.1, ⟨hk.1.2.2.2.2.2.2.2.2.2.1, hk.1.2.2.2.2.2.2.2.2.2.2⟩⟩⟩⟩⟩⟩⟩⟩⟩⟩⟩)⟩, ⟨by (with_reducible repeat (first | apply Kd.R_alloc | apply Kd.R_drewN | apply Kd.R_drew)); exact Kd.R_mono HO_709001.out (fun _ hk => ⟨hk.2, ⟨hk.1.1, ⟨hk.1.2.1, ⟨hk.1.2.2.1, ⟨hk.1.2.2.2.1, ⟨hk.1.2.2.2.2.1, ⟨hk.1.2.2.2.2.2.1, ⟨hk.1.2.2.2.2.2.2.1, ⟨hk.1.2.2.2.2.2.2.2.1, ⟨hk.1.2.2.2.2.2.2.2.2.1, ⟨hk.1.2.2.2.2.2.2.2.2.2.1, hk.1.2.2.2.2.2.2.2.2.2.2⟩⟩⟩⟩⟩⟩⟩⟩⟩⟩⟩)⟩, ⟨by (with_reducible repeat (first | apply Kd.R_alloc | apply Kd.R_drewN | apply Kd.R_drew)); exact Kd.R_mono HO715.out (fun _ hk => ⟨hk.2, ⟨hk.1.1, ⟨hk.1.2.1, ⟨hk.1.2.2.1, ⟨hk.1.2.2.2.1, ⟨hk.1.2.2.2.2.1, ⟨hk.1.2.2.2.2.2.1, ⟨hk.1.2.2.2.2.2.2.1, ⟨hk.1.2.2.2.2.2.2.2.1, ⟨hk.1.2.2.2.2.2.2.2.2.1, ⟨hk.1.2.2.2.2.2.2.2.2.2.1, hk.1.2.2.2.2.2.2.2.2.2.2⟩⟩⟩⟩⟩⟩⟩⟩⟩⟩⟩)⟩, ⟨by (with_reducible repeat (first | apply Kd.R_alloc | apply Kd.R_drewN | apply Kd.R_drew)); exact Kd.R_mono HO718.out (fun _ hk => ⟨hk.2, ⟨hk.1.1, ⟨hk.1.2.1, ⟨hk.1.2.2.1, ⟨hk.1.2.2.2.1, ⟨hk.1.2.2.2.2.1, ⟨hk.1.2.2.2.2.2.1, ⟨hk.1.2.2.2.2.2.2.1, ⟨hk.1.2.2.2.2.2.2.2.1, ⟨hk.1.2.2.2.2.2.2.2.2.1, ⟨hk.1.2.2.2.2.2.2.2.2.2.1, hk.1.2.2.2.2.2.2.2.2.2.2⟩⟩⟩⟩⟩⟩⟩⟩⟩⟩⟩)⟩, ⟨by (with_reducible repeat (first | apply Kd.R_alloc | apply Kd.R_drewN | apply Kd.R_drew)); exact Kd.R_mono HO722.out (fun _ hk => ⟨hk.2, ⟨hk.1.1, ⟨hk.1.2.1, ⟨hk.1.2.2.1, ⟨hk.1.2.2.2.1, ⟨hk.1.2.2.2.2.1, ⟨hk.1.2.2.2.2.2.1, ⟨hk.1.2.2.2.2.2.2.1, ⟨hk.1.2.2.2.2.2.2.2.1, ⟨hk.1.2.2.2.2.2.2.2.2.1, ⟨hk.1.2.2.2.2.2.2.2.2.2.1, hk.1.2.2.2.2.2.2.2.2.2.2⟩⟩⟩⟩⟩⟩⟩⟩⟩⟩⟩)⟩, ⟨by (with_reducible repeat (first | apply Kd.R_alloc | apply Kd.R_drewN | apply Kd.R_drew)); exact Kd.R_mono HO725.out (fun _ hk => ⟨hk.2, ⟨hk.1.1, ⟨hk.1.2.1, ⟨hk.1.2.2.1, ⟨hk.1.2.2.2.1, ⟨hk.1.2.2.2.2.1, ⟨hk.1.2.2.2.2.2.1, ⟨hk.1.2.2.2.2.2.2.1, ⟨hk.1.2.2.2.2.2.2.2.1, ⟨hk.1.2.2.2.2.2.2.2.2.1, ⟨hk.1.2.2.2.2.2.2.2.2.2.1, hk.1.2.2.2.2.2.2.2.2.2.2⟩⟩⟩⟩⟩⟩⟩⟩⟩⟩⟩)⟩, ⟨by (with_reducible repeat (first | apply Kd.R_alloc | apply Kd.R_drewN | apply Kd.R_drew)); exact Kd.R_mono HO729.out (fun _ hk => ⟨hk.2, ⟨hk.1.1, ⟨hk.1.2.1, ⟨hk.1.2.2.1, ⟨hk.1.2.2.2.1, ⟨hk.1.2.2.2.2.1, ⟨hk.1.2.2.2.2.2.1, ⟨hk.1.2.2.2.2.2.2.1, ⟨hk.1.2.2.2.2.2.2.2.1, ⟨hk.1.2.2.2.2.2.2.2.2.1, ⟨hk.1.2.2.2.2.2.2.2.2.2.1, hk.1.2.2.2.2.2.2.2.2.2.2⟩⟩⟩⟩⟩⟩⟩⟩⟩⟩⟩)⟩, ⟨by (with_reducible repeat (first | apply Kd.R_alloc | apply Kd.R_drewN | apply Kd.R_drew)); exact Kd.R_mono HO732.out (fun _ hk => ⟨hk.2, ⟨hk.1.1, ⟨hk.1.2.1, ⟨hk.1.2.2.1, ⟨hk.1.2.2.2.1, ⟨hk.1.2.2.2.2.1, ⟨hk.1.2.2.2.2.2.1, ⟨hk.1.2.2.2.2.2.2.1, ⟨hk.1.2.2.2.2.2.2.2.1, ⟨hk.1.2.2.2.2.2.2.2.2.1, ⟨hk.1.2.2.2.2.2.2.2.2.2.1, hk.1.2.2.2.2.2.2.2.2.2.2⟩⟩⟩⟩⟩⟩⟩⟩⟩⟩⟩)⟩, ⟨blk__ BK684.out⟩, ⟨blk__ BK700.out⟩, ⟨blk__ BK708.out⟩, ⟨blk__ BK719.out⟩, ⟨blk__ BK726.out⟩, ⟨blk__ BK733.out⟩, ⟨bel__⟩⟩
              ·replace c150 := Bool.eq_false_iff.mpr c150
               subst c150
               have H1 : (laws_FnLog.j2 kj18 x6_3 y740 true t677 t680 t693 t696 t713 t716) = some r := by rw [if_neg (show ¬ (false = true) by decide)] at H; exact H
               clear H
               have H := H1
               clear H1
               have H' := Aside0.mk H
               clear H
               have hnb171 := NB719_684.out
               have hnc171 := NB684_719.out
               have hnb172 := NB719_700.out
               have hnc172 := NB700_719.out
               have hnb173 := NB719_708.out
               have hnc173 := NB708_719.out
               have hnb174 := NB719_726.out
               have hnc174 := NB726_719.out
               have hnb175 := NB719_733.out
               have hnc175 := NB733_719.out
               have hcz176_0 : w93.cell? ⟨gb719, 0, none⟩ = some (.slice Ao62 t713.length co62) := (blk_cell BK719.out 0).trans rfl
               have hcz176_1 : w93.cell? ⟨gb719, 1, none⟩ = some (.slice Ao67 t716.length co67) := (blk_cell BK719.out 1).trans rfl
               have hfz176_0 := blk_frozen BK719.out 0
               have hfz176_1 := blk_frozen BK719.out 1
               have hnb177 := NB726_684.out
               have hnc177 := NB684_726.out
               have hnb178 := NB726_700.out
               have hnc178 := NB700_726.out
               have hnb179 := NB726_708.out
               have hnc179 := NB708_726.out
               have hnb180 := NB726_733.out
               have hnc180 := NB733_726.out
               have hcz181_0 : w93.cell? ⟨gb726, 0, none⟩ = some (.slice Ao71 t720.length co71) := (blk_cell BK726.out 0).trans rfl
               have hcz181_1 : w93.cell? ⟨gb726, 1, none⟩ = some (.slice Ao77 t723.length co77) := (blk_cell BK726.out 1).trans rfl
               have hfz181_0 := blk_frozen BK726.out 0
               have hfz181_1 := blk_frozen BK726.out 1
               have hnb182 := NB733_684.out
               have hnc182 := NB684_733.out
               have hnb183 := NB733_700.out
               have hnc183 := NB700_733.out
               have hnb184 := NB733_708.out
               have hnc184 := NB708_733.out
               have hcz185_0 : w93.cell? ⟨gb733, 0, none⟩ = some (.slice Ao80 t727.length co80) := (blk_cell BK733.out 0).trans rfl
               have hcz185_1 : w93.cell? ⟨gb733, 1, none⟩ = some (.slice Ao87 t730.length co87) := (blk_cell BK733.out 1).trans rfl
               have hfz185_0 := blk_frozen BK733.out 0
               have hfz185_1 := blk_frozen BK733.out 1
               have hnb186 := NB684_700.out
               have hnc186 := NB700_684.out
               have hnb187 := NB684_708.out
               have hnc187 := NB708_684.out
               have hcz188_0 : w93.cell? ⟨gb684, 0, none⟩ = some (.slice Ao7 t677.length co7) := (blk_cell BK684.out 0).trans rfl
               have hcz188_1 : w93.cell? ⟨gb684, 1, none⟩ = some (.slice Ao9 t680.length co9) := (blk_cell BK684.out 1).trans rfl
               have hfz188_0 := blk_frozen BK684.out 0
               have hfz188_1 := blk_frozen BK684.out 1
               obtain ⟨Ao189, co189, eo189⟩ := Kd.R_slice HO742.out
               subst eo189
               go_wp2_with (first | (go_at_call 41; (with_reducible refine (laws_wList.calls kj18 _ _ t720 _ _ y740 false _ ?side1 ?side2 ?side3 ?side4 A149.out).mono ?_); (case side1 => repeat (first | exact (Kd.R_reads' HO722.out).2.2 | (with_reducible refine Kd.C_alloc ?_ _) | (with_reducible refine Kd.C_drewN ?_ _) | (with_reducible refine Kd.C_drew ?_))); (case side2 => exact (Kd.R_reads' HO722.out).2.1); (case side3 => repeat (first | exact (Kd.R_reads' HO742.out).2.2 | (with_reducible refine Kd.C_alloc ?_ _) | (with_reducible refine Kd.C_drewN ?_ _) | (with_reducible refine Kd.C_drew ?_))); (case side4 => exact (Kd.R_reads' HO742.out).2.1); rintro e w' ⟨rfl, ⟨nd, rfl⟩⟩))
               go_meet
               case rel => exact ⟨_, (true), (rf__), H', ⟨by have := HJ3.out; have := HJ18.out; first | omega | exact Nat.le_refl _⟩, ⟨rr__ HO742.out⟩, ⟨by (with_reducible repeat (first | apply Kd.R_alloc | apply Kd.R_drewN | apply Kd.R_drew)); exact Kd.R_mono HO_685000.out (fun _ hk => ⟨hk.2, ⟨hk.1.1, ⟨hk.1.2.1, ⟨hk.1.2.2.1, ⟨hk.1.2.2.2.1, ⟨hk.1.2.2.2.2.1, ⟨hk.1.2.2.2.2.2.1, ⟨hk.1.2.2.2.2.2.2.1, ⟨hk.1.2.2.2.2.2.2.2.1, ⟨hk.1.2.2.2.2.2.2.2.2.1, ⟨hk.1.2.2.2.2.2.2.2.2.2.1, hk.1.2.2.2.2.2.2.2.2.2.2⟩⟩⟩⟩⟩⟩⟩⟩⟩⟩⟩)⟩, ⟨by (with_reducible repeat (first | apply Kd.R_alloc | apply Kd.R_drewN | apply Kd.R_drew)); exact Kd.R_mono HO_685001.out (fun _ hk => ⟨hk.2, ⟨hk.1.1, ⟨hk.1.2.1, ⟨hk.1.2.2.1, ⟨hk.1.2.2.2.1, ⟨hk.1.2.2.2.2.1, ⟨hk.1.2.2.2.2.2.1, ⟨hk.1.2.2.2.2.2.2.1, ⟨hk.1.2.2.2.2.2.2.2.1, ⟨hk.1.2.2.2.2.2.2.2.2.1, ⟨hk.1.2.2.2.2.2.2.2.2.2.1, hk.1.2.2.2.2.2.2.2.2.2.2⟩⟩⟩⟩⟩⟩⟩⟩⟩⟩⟩)⟩, ⟨by (with_reducible repeat (first | apply Kd.R_alloc | apply Kd.R_drewN | apply Kd.R_drew)); exact Kd.R_mono HO_701000.out (fun _ hk => ⟨hk.2, ⟨hk.1.1, ⟨hk.1.2.1, ⟨hk.1.2.2.1, ⟨hk.1.2.2.2.1, ⟨hk.1.2.2.2.2.1, ⟨hk.1.2.2.2.2.2.1, ⟨hk.1.2.2.2.2.2.2.1, ⟨hk.1.2.2.2.2.2.2.2.1, ⟨hk.1.2.2.2.2.2.2.2.2.1, ⟨hk.1.2.2.2.2.2.2.2.2.2.1, hk.1.2.2.2.2.2.2.2.2.2.2⟩⟩⟩⟩⟩⟩⟩⟩⟩⟩⟩)⟩, ⟨by (with_reducible repeat (first | apply Kd.R_alloc | apply Kd.R_drewN | apply Kd.R_drew)); exact Kd.R_mono HO_701001.out (fun _ hk => ⟨hk.2, ⟨hk.1.1, ⟨hk.1.2.1, ⟨hk.1.2.2.1, ⟨hk.1.2.2.2.1, ⟨hk.1.2.2.2.2.1, ⟨hk.1.2.2.2.2.2.1, ⟨hk.1.2.2.2.2.2.2.1, ⟨hk.1.2.2.2.2.2.2.2.1, ⟨hk.1.2.2.2.2.2.2.2.2.1, ⟨hk.1.2.2.2.2.2.2.2.2.2.1, hk.1.2.2.2.2.2.2.2.2.2.2⟩⟩⟩⟩⟩⟩⟩⟩⟩⟩⟩)⟩, ⟨by (with_reducible repeat (first | apply Kd.R_alloc | apply Kd.R_drewN | apply Kd.R_drew)); exact Kd.R_mono HO_709000.out (fun _ hk => ⟨hk.2, ⟨hk.1.1, ⟨hk.1.2.1, ⟨hk.1.2.2.1, ⟨hk.1.2.2.2.1, ⟨hk.1.2.2.2.2.1, ⟨hk.1.2.2.2.2.2.1, ⟨hk.1.2.2.2.2.2.2.1, ⟨hk.1.2.2.2.2.2.2.2.1, ⟨hk.1.2.2.2.2.2.2.2.2.1, ⟨hk.1.2.2.2.2.2.2.2.2.2.1, hk.1.2.2.2.2.2.2.2.2.2.2⟩⟩⟩⟩⟩⟩⟩⟩⟩⟩⟩)⟩, ⟨by (with_reducible repeat (first | apply Kd.R_alloc | apply Kd.R_drewN | apply Kd.R_drew)); exact Kd.R_mono HO_709001.out (fun _ hk => ⟨hk.2, ⟨hk.1.1, ⟨hk.1.2.1, ⟨hk.1.2.2.1, ⟨hk.1.2.2.2.1, ⟨hk.1.2.2.2.2.1, ⟨hk.1.2.2.2.2.2.1, ⟨hk.1.2.2.2.2.2.2.1, ⟨hk.1.2.2.2.2.2.2.2.1, ⟨hk.1.2.2.2.2.2.2.2.2.1, ⟨hk.1.2.2.2.2.2.2.2.2.2.1, hk.1.2.2.2.2.2.2.2.2.2.2⟩⟩⟩⟩⟩⟩⟩⟩⟩⟩⟩)⟩, ⟨by (with_reducible repeat (first | apply Kd.R_alloc | apply Kd.R_drewN | apply Kd.R_drew)); exact Kd.R_mono HO715.out (fun _ hk => ⟨hk.2, ⟨hk.1.1, ⟨hk.1.2.1, ⟨hk.1.2.2.1, ⟨hk.1.2.2.2.1, ⟨hk.1.2.2.2.2.1, ⟨hk.1.2.2.2.2.2.1, ⟨hk.1.2.2.2.2.2.2.1, ⟨hk.1.2.2.2.2.2.2.2.1, ⟨hk.1.2.2.2.2.2.2.2.2.1, ⟨hk.1.2.2.2.2.2.2.2.2.2.1, hk.1.2.2.2.2.2.2.2.2.2.2⟩⟩⟩⟩⟩⟩⟩⟩⟩⟩⟩)⟩, ⟨by (with_reducible repeat (first | apply Kd.R_alloc | apply Kd.R_drewN | apply Kd.R_drew)); exact Kd.R_mono HO718.out (fun _ hk => ⟨hk.2, ⟨hk.1.1, ⟨hk.1.2.1, ⟨hk.1.2.2.1, ⟨hk.1.2.2.2.1, ⟨hk.1.2.2.2.2.1, ⟨hk.1.2.2.2.2.2.1, ⟨hk.1.2.2.2.2.2.2.1, ⟨hk.1.2.2.2.2.2.2.2.1, ⟨hk.1.2.2.2.2.2.2.2.2.1, ⟨hk.1.2.2.2.2.2.2.2.2.2.1, hk.1.2.2.2.2.2.2.2.2.2.2⟩⟩⟩⟩⟩⟩⟩⟩⟩⟩⟩)⟩, ⟨by (with_reducible repeat (first | apply Kd.R_alloc | apply Kd.R_drewN | apply Kd.R_drew)); exact Kd.R_mono HO722.out (fun _ hk => ⟨hk.2, ⟨hk.1.1, ⟨hk.1.2.1, ⟨hk.1.2.2.1, ⟨hk.1.2.2.2.1, ⟨hk.1.2.2.2.2.1, ⟨hk.1.2.2.2.2.2.1, ⟨hk.1.2.2.2.2.2.2.1, ⟨hk.1.2.2.2.2.2.2.2.1, ⟨hk.1.2.2.2.2.2.2.2.2.1, ⟨hk.1.2.2.2.2.2.2.2.2.2.1, hk.1.2.2.2.2.2.2.2.2.2.2⟩⟩⟩⟩⟩⟩⟩⟩⟩⟩⟩)⟩, ⟨by (with_reducible repeat (first | apply Kd.R_alloc | apply Kd.R_drewN | apply Kd.R_drew)); exact Kd.R_mono HO725.out (fun _ hk => ⟨hk.2, ⟨hk.1.1, ⟨hk.1.2.1, ⟨hk.1.2.2.1, ⟨hk.1.2.2.2.1, ⟨hk.1.2.2.2.2.1, ⟨hk.1.2.2.2.2.2.1, ⟨hk.1.2.2.2.2.2.2.1, ⟨hk.1.2.2.2.2.2.2.2.1, ⟨hk.1.2.2.2.2.2.2.2.2.1, ⟨hk.1.2.2.2.2.2.2.2.2.2.1, hk.1.2.2.2.2.2.2.2.2.2.2⟩⟩⟩⟩⟩⟩⟩⟩⟩⟩⟩)⟩, ⟨by (with_reducible repeat (first | apply Kd.R_alloc | apply Kd.R_drewN | apply Kd.R_drew)); exact Kd.R_mono HO729.out (fun _ hk => ⟨hk.2, ⟨hk.1.1, ⟨hk.1.2.1, ⟨hk.1.2.2.1, ⟨hk.1.2.2.2.1, ⟨hk.1.2.2.2.2.1, ⟨hk.1.2.2.2.2.2.1, ⟨hk.1.2.2.2.2.2.2.1, ⟨hk.1.2.2.2.2.2.2.2.1, ⟨hk.1.2.2.2.2.2.2.2.2.1, ⟨hk.1.2.2.2.2.2.2.2.2.2.1, hk.1.2.2.2.2.2.2.2.2.2.2⟩⟩⟩⟩⟩⟩⟩⟩⟩⟩⟩)⟩, ⟨by (with_reducible repeat (first | apply Kd.R_alloc | apply Kd.R_drewN | apply Kd.R_drew)); exact Kd.R_mono HO732.out (fun _ hk => ⟨hk.2, ⟨hk.1.1, ⟨hk.1.2.1, ⟨hk.1.2.2.1, ⟨hk.1.2.2.2.1, ⟨hk.1.2.2.2.2.1, ⟨hk.1.2.2.2.2.2.1, ⟨hk.1.2.2.2.2.2.2.1, ⟨hk.1.2.2.2.2.2.2.2.1, ⟨hk.1.2.2.2.2.2.2.2.2.1, ⟨hk.1.2.2.2.2.2.2.2.2.2.1, hk.1.2.2.2.2.2.2.2.2.2.2⟩⟩⟩⟩⟩⟩⟩⟩⟩⟩⟩)⟩, ⟨blk__ BK684.out⟩, ⟨blk__ BK700.out⟩, ⟨blk__ BK708.out⟩, ⟨blk__ BK719.out⟩, ⟨blk__ BK726.out⟩, ⟨blk__ BK733.out⟩, ⟨bel__⟩⟩
          case rest =>
           clear HC56
           try clear c1
           try clear p2
           try clear c5
           try clear p6
           try clear c9
           try clear c10
           try clear c11
           try clear c12
           try clear c13
           try clear c14
           try clear c15
           try clear c16
           try clear c17
           try clear c18
           try clear c54
           try clear c55
           try clear p64
           try clear c94
           try clear c94b0
           try clear c95
           try clear c96
           try clear c97
           try clear c98
           try clear c99
           try clear c101
           try clear c102
           try clear c103
           try clear c104
           try clear c106
           try clear c107
           try clear c108
           try clear c110
           try clear c110b0
           try clear c110b1
           try clear c111
           try clear c112
           try clear c113
           try clear c114
           try clear c115
           try clear c117
           try clear c118
           try clear c119
           try clear c120
           try clear c122
           try clear c123
           try clear c124
           try clear c126
           try clear c127
           try clear c129
           try clear c129b0
           try clear c129b1
           try clear c130
           try clear c131
           try clear c132
           try clear c133
           try clear c134
           try clear c136
           try clear c137
           try clear c138
           try clear c139
           try clear c141
           try clear c142
           try clear c143
           try clear c145
           try clear c146
           try clear c150
           try clear c152
           try clear c153
           try clear c154
           try clear c155
           try clear c156
           try clear c158
           try clear c159
           try clear c160
           try clear c161
           try clear c163
           try clear c164
           try clear c165
           try clear c167
           try clear c168
           try clear c171
           try clear c172
           try clear c173
           try clear c174
           try clear c175
           try clear c177
           try clear c178
           try clear c179
           try clear c180
           try clear c182
           try clear c183
           try clear c184
           try clear c186
           try clear c187
           try clear hcz100_0
           try clear hcz100_1
           try clear hcz105_0
           try clear hcz105_1
           try clear hcz109_0
           try clear hcz109_1
           try clear hcz116_0
           try clear hcz116_1
           try clear hcz121_0
           try clear hcz121_1
           try clear hcz125_0
           try clear hcz125_1
           try clear hcz128_0
           try clear hcz128_1
           try clear hcz135_0
           try clear hcz135_1
           try clear hcz140_0
           try clear hcz140_1
           try clear hcz144_0
           try clear hcz144_1
           try clear hcz147_0
           try clear hcz147_1
           try clear hcz157_0
           try clear hcz157_1
           try clear hcz162_0
           try clear hcz162_1
           try clear hcz166_0
           try clear hcz166_1
           try clear hcz169_0
           try clear hcz169_1
           try clear hcz176_0
           try clear hcz176_1
           try clear hcz181_0
           try clear hcz181_1
           try clear hcz185_0
           try clear hcz185_1
           try clear hcz188_0
           try clear hcz188_1
           try clear hfz100_0
           try clear hfz100_1
           try clear hfz105_0
           try clear hfz105_1
           try clear hfz109_0
           try clear hfz109_1
           try clear hfz116_0
           try clear hfz116_1
           try clear hfz121_0
           try clear hfz121_1
           try clear hfz125_0
           try clear hfz125_1
           try clear hfz128_0
           try clear hfz128_1
           try clear hfz135_0
           try clear hfz135_1
           try clear hfz140_0
           try clear hfz140_1
           try clear hfz144_0
           try clear hfz144_1
           try clear hfz147_0
           try clear hfz147_1
           try clear hfz157_0
           try clear hfz157_1
           try clear hfz162_0
           try clear hfz162_1
           try clear hfz166_0
           try clear hfz166_1
           try clear hfz169_0
           try clear hfz169_1
           try clear hfz176_0
           try clear hfz176_1
           try clear hfz181_0
           try clear hfz181_1
           try clear hfz185_0
           try clear hfz185_1
           try clear hfz188_0
           try clear hfz188_1
           obtain ⟨kq, x123_55, rfl, HA, HJ55, HO_14, HO_685000, HO_685001, HO_701000, HO_701001, HO_709000, HO_709001, HO_720000, HO_720001, HO_727000, HO_727001, HO_734000, HO_734001, BK684, BK700, BK708, BK719, BK726, BK733, HB⟩ := hcut
           cases kq with
           | zero => exact absurd HA.out (by simp [laws_FnLog.j2])
           | succ kj55 =>
            have H := HA.out
            clear HA
            simp only [laws_FnLog.j2] at H
            by_cases c190 : x123_55 = true
            ·subst c190
             have H1 : (none) = some r := by rw [if_pos rfl] at H; exact H
             clear H
             have H := H1
             clear H1
             exact absurd H (by simp)
            ·replace c190 := Bool.eq_false_iff.mpr c190
             subst c190
             have H1 : (if 0 ≤ (t713.length : Int) then (if (t713.length : Int) ≤ (y740.length : Int) then ((laws_wList.f kj55 t713 (y740.take ((t713.length : Int) : Int).toNat)).bind fun t749 => (if t749 = true then (if x6_3 < 0 then (some true) else (if x6_3 > (t696.length : Int) then (some true) else (some ((t713.length : Int) == (wrap64 ((t677.length : Int) + x6_3)))))) else (none))) else (none)) else (none)) = some r := by rw [if_neg (show ¬ (false = true) by decide)] at H; exact H
             clear H
             have H := H1
             clear H1
             by_cases c191 : 0 ≤ (t713.length : Int)
             ·rw [if_pos c191] at H
              have c191b0 := eq_true c191
              have c191b1 : decide (0 ≤ (t713.length : Int)) = true := decide_eq_true c191
              clear c191
              by_cases c192 : (t713.length : Int) ≤ (y740.length : Int)
              ·rw [if_pos c192] at H
               have c192b0 := eq_true c192
               have c192b1 : decide ((t713.length : Int) ≤ (y740.length : Int)) = true := decide_eq_true c192
               clear c192
               obtain ⟨y745, hy745⟩ : ∃ y_ : List ByteArray, y_ = (y740.take ((t713.length : Int) : Int).toNat) := ⟨_, rfl⟩
               replace H : ((laws_wList.f kj55 t713 y745).bind fun t749 => (if t749 = true then (if x6_3 < 0 then (some true) else (if x6_3 > (t696.length : Int) then (some true) else (some ((t713.length : Int) == (wrap64 ((t677.length : Int) + x6_3)))))) else (none))) = some r := by first | (rw [hy745]; with_reducible exact H) | (have H2_ := (Option.bind_some _ _).symm.trans H; rw [hy745]; with_reducible exact H2_) | (have H2_ := (Option.bind_some _ _).symm.trans H; with_reducible exact H2_) | with_reducible exact H | (rw [hy745]; exact H) | exact H
               have Ny745 := Aside0.mk hy745
               clear hy745
               replace H := Option.bind_eq_some_iff.mp H
               obtain ⟨t749, A1930, H⟩ := H
               replace H : (if t749 = true then (if x6_3 < 0 then (some true) else (if x6_3 > (t696.length : Int) then (some true) else (some ((t713.length : Int) == (wrap64 ((t677.length : Int) + x6_3)))))) else (none)) = some r := H
               have A193 := Aside0.mk A1930
               clear A1930
               by_cases c194 : t749 = true
               ·subst c194
                have H1 : (if x6_3 < 0 then (some true) else (if x6_3 > (t696.length : Int) then (some true) else (some ((t713.length : Int) == (wrap64 ((t677.length : Int) + x6_3)))))) = some r := by rw [if_pos rfl] at H; exact H
                clear H
                have H := H1
                clear H1
                by_cases c195 : x6_3 < 0
                ·rw [if_pos c195] at H
                 have c195b0 : decide (x6_3 < 0) = true := decide_eq_true c195
                 clear c195
                 obtain rfl := Option.some.inj H
                 try go_wp2
                 have n0_ := Aside0.mk (Kd.R_drew HO_14.out)
                 have n1_ := Aside0.mk (Kd.R_drew HO_685000.out)
                 have n2_ := Aside0.mk (Kd.R_drew HO_685001.out)
                 have n3_ := Aside0.mk (Kd.R_drew HO_701000.out)
                 have n4_ := Aside0.mk (Kd.R_drew HO_701001.out)
                 have n5_ := Aside0.mk (Kd.R_drew HO_709000.out)
                 have n6_ := Aside0.mk (Kd.R_drew HO_709001.out)
                 have n7_ := Aside0.mk (Kd.R_drew HO_720000.out)
                 have n8_ := Aside0.mk (Kd.R_drew HO_720001.out)
                 have n9_ := Aside0.mk (Kd.R_drew HO_727000.out)
                 have n10_ := Aside0.mk (Kd.R_drew HO_727001.out)
                 have n11_ := Aside0.mk (Kd.R_drew HO_734000.out)
                 have n12_ := Aside0.mk (Kd.R_drew HO_734001.out)
                 have n13_ := Aside0.mk (blk_drew BK684.out)
                 have n14_ := Aside0.mk (blk_drew BK700.out)
                 have n15_ := Aside0.mk (blk_drew BK708.out)
                 have n16_ := Aside0.mk (blk_drew BK719.out)
                 have n17_ := Aside0.mk (blk_drew BK726.out)
                 have n18_ := Aside0.mk (blk_drew BK733.out)
                 have n19_ := Aside0.mk (below_drew1 HB.out)
                 clear HO_14
                 clear HO_685000
                 clear HO_685001
                 clear HO_701000
                 clear HO_701001
                 clear HO_709000
                 clear HO_709001
                 clear HO_720000
                 clear HO_720001
                 clear HO_727000
                 clear HO_727001
                 clear HO_734000
                 clear HO_734001
                 clear BK684
                 clear BK700
                 clear BK708
                 clear BK719
                 clear BK726
                 clear BK733
                 clear HB
                 have HO_14 := n0_
                 have HO_685000 := n1_
                 have HO_685001 := n2_
                 have HO_701000 := n3_
                 have HO_701001 := n4_
                 have HO_709000 := n5_
                 have HO_709001 := n6_
                 have HO_720000 := n7_
                 have HO_720001 := n8_
                 have HO_727000 := n9_
                 have HO_727001 := n10_
                 have HO_734000 := n11_
                 have HO_734001 := n12_
                 have BK684 := n13_
                 have BK700 := n14_
                 have BK708 := n15_
                 have BK719 := n16_
                 have BK726 := n17_
                 have BK733 := n18_
                 have HB := n19_
                 clear n0_ n1_ n2_ n3_ n4_ n5_ n6_ n7_ n8_ n9_ n10_ n11_ n12_ n13_ n14_ n15_ n16_ n17_ n18_ n19_
                 obtain ⟨Ao198, co198, eo198⟩ := Kd.R_slice HO_14.out
                 (first | subst eo198 | (injection eo198 with f1_ f2_ f3_; have f4_ := f1_.symm; have f5_ := f3_.symm; clear f1_ f2_ f3_; subst f4_; subst f5_))
                 have q197 : ((t713.length : Int) : Int) ≤ ((y740.length : Int) : Int) := of_decide_eq_true (by first | (with_reducible assumption) | assumption)
                 obtain ⟨i0197, hi0197, _, hsz197, _⟩ := info_parts info9
                 have hroom197 : y740.length ≤ co198 := (Kd.R_reads' HO_14.out).2.1
                 have hC197 : Kd.C Kd.string _ Ao198 y740.length y740 := (Kd.R_reads' HO_14.out).2.2
                 have hcut197 := cut_to (P := Try.prog) 25 9 .i64 Try.underlying25 hi0197 Ao198 y740.length co198 (t713.length : Int) (of_decide_eq_true (by first | (with_reducible assumption) | assumption)) q197 hroom197
                 have hr197 := Kd.C_take (m := ((t713.length : Int) : Int).toNat) hC197 (by omega)
                 have hy197 : y745.length = ((t713.length : Int) : Int).toNat := (by rw [Ny745.out, List.length_take]; omega)
                 rw [← Ny745.out] at hr197
                 rw [← hy197] at hcut197
                 have HR748 := Aside0.mk hr197
                 have HC748 := Aside0.mk (show y745.length ≤ co198 from by omega)
                 clear hr197 hC197 hroom197 hi0197 hsz197
                 have KY197 := Aside0.mk hy197
                 clear hy197
                 have KL197 := Aside0.mk (show ((t713.length : Int) : Int).toNat ≤ y740.length from by omega)
                 replace q197 := eq_true q197
                 refine start_ (n := 31) (S := fun w' => w'.cell? ⟨gb719, 0, none⟩ = some (.slice Ao62 t713.length co62) ∧ w'.cell? ⟨gb719, 1, none⟩ = some (.slice Ao67 t716.length co67)) (ds := []) #[false, false, false, false, false, false, false, false, false, false, false, false, false, false, false, false, false, false, false, false, false, false, false, false, false, false, false, false, false, false, false] (by kernel_rfl) rfl rfl ⟨(blk_cell BK719.out 0).trans rfl, (blk_cell BK719.out 1).trans rfl⟩ (fun hHeld => ?_); refine with_tabW laws_FnLog.tab17 laws_FnLog.bits17 (fun HT_ HW_ => ?_)
                 generalize wc.drew = w196 at HO_14 HO_685000 HO_685001 HO_701000 HO_701001 HO_709000 HO_709001 HO_720000 HO_720001 HO_727000 HO_727001 HO_734000 HO_734001 BK684 BK700 BK708 BK719 BK726 BK733 HB HR748 hHeld ⊢
                 refine pu__ (i := 0) (N := some 124) #[true, false, false, false, false, false, false, false, false, false, false, false, false, false, false, false, false, false, false, false, false, false, false, false, false, false, false, false, false, false, false] HT_.out ?_
                 refine pu__ (i := 2) (N := some 126) #[true, false, true, false, false, false, false, false, false, false, false, false, false, false, false, false, false, false, false, false, false, false, false, false, false, false, false, false, false, false, false] HT_.out ?_
                 refine pu__ (i := 3) (N := some 127) #[true, false, true, true, false, false, false, false, false, false, false, false, false, false, false, false, false, false, false, false, false, false, false, false, false, false, false, false, false, false, false] HT_.out ?_
                 refine take_ (i := 1) (N := some 125) (v := ?_) (a' := ?_) #[true, true, true, true, false, false, false, false, false, false, false, false, false, false, false, false, false, false, false, false, false, false, false, false, false, false, false, false, false, false, false] rfl rfl (take_ofW HT_.out HW_.out (by kernel_rfl)) (fun _ _ _ h => h) (Or.inl ⟨by rfl, ?_⟩) hHeld ?_ ?_
                 rotate_left
                 ·rintro w' ⟨s0, s1⟩
                  go_simp
                  with_reducible rfl
                 rotate_left
                 ·simp only [Act.put, List.setIfInBounds_toArray, List.set_cons_zero, List.set_cons_succ, i64_w, i32_w]
                  rfl
                 refine take_ (i := 4) (N := some 128) (v := ?_) (a' := ?_) #[true, true, true, true, true, false, false, false, false, false, false, false, false, false, false, false, false, false, false, false, false, false, false, false, false, false, false, false, false, false, false] rfl rfl (take_ofW HT_.out HW_.out (by kernel_rfl)) (fun _ _ _ h => h) (Or.inl ⟨by rfl, ?_⟩) hHeld ?_ ?_
                 rotate_left
                 ·rintro w' ⟨s0, s1⟩
                  go_simp
                  with_reducible rfl
                 rotate_left
                 ·simp only [Act.put, List.setIfInBounds_toArray, List.set_cons_zero, List.set_cons_succ, i64_w, i32_w]
                  rfl
                 refine pu__ (i := 5) (N := some 129) #[true, true, true, true, true, true, false, false, false, false, false, false, false, false, false, false, false, false, false, false, false, false, false, false, false, false, false, false, false, false, false] HT_.out ?_
                 refine pu__ (i := 6) (N := some 130) #[true, true, true, true, true, true, true, false, false, false, false, false, false, false, false, false, false, false, false, false, false, false, false, false, false, false, false, false, false, false, false] HT_.out ?_
                 refine one_ (i := 7) (N := some 131) #[true, true, true, true, true, true, true, true, false, false, false, false, false, false, false, false, false, false, false, false, false, false, false, false, false, false, false, false, false, false, false] rfl rfl (one_of HT_.out (by kernel_rfl)) (by decide) (fun K hK => ?_)
                 refine goes_ Try.func41 (by kernel_rfl) rfl #[.slice Ao62 t713.length co62, .slice Ao198 y745.length co198] (by rfl) rfl rfl (ar__) ?_
                 with_reducible refine (laws_wList.calls kj55 _ _ t713 _ _ y745 true _ ?side1 ?side2 ?side3 ?side4 A193.out).mono ?_
                 (case side1 => repeat (first | exact (Kd.R_reads' HO_720000.out).2.2 | (with_reducible refine Kd.C_alloc ?_ _) | (with_reducible refine Kd.C_drewN ?_ _) | (with_reducible refine Kd.C_drew ?_)))
                 (case side2 => exact (Kd.R_reads' HO_720000.out).2.1)
                 (case side3 => repeat (first | exact (by repeat (first | (with_reducible exact HR748.out) | (with_reducible refine Kd.C_alloc ?_ _) | (with_reducible refine Kd.C_drewN ?_ _) | (with_reducible refine Kd.C_drew ?_) | exact HR748.out)) | (with_reducible refine Kd.C_alloc ?_ _) | (with_reducible refine Kd.C_drewN ?_ _) | (with_reducible refine Kd.C_drew ?_)))
                 (case side4 => exact HC748.out)
                 rintro e w' ⟨rfl, ⟨nd, rfl⟩⟩
                 refine ⟨_, rfl, ?_⟩
                 refine hK.out _ _ ⟨(blk_cell BK719.out 0).trans rfl, (blk_cell BK719.out 1).trans rfl⟩ (fun hHeld => ?_)
                 clear hK K
                 refine na__ 131 ?_
                 refine pu__ (i := 8) (N := some 132) #[true, true, true, true, true, true, true, true, true, false, false, false, false, false, false, false, false, false, false, false, false, false, false, false, false, false, false, false, false, false, false] HT_.out ?_
                 refine pu__ (i := 9) (N := some 133) #[true, true, true, true, true, true, true, true, true, true, false, false, false, false, false, false, false, false, false, false, false, false, false, false, false, false, false, false, false, false, false] HT_.out ?_
                 refine pu__ (i := 10) (N := some 134) #[true, true, true, true, true, true, true, true, true, true, true, false, false, false, false, false, false, false, false, false, false, false, false, false, false, false, false, false, false, false, false] HT_.out ?_
                 refine pu__ (i := 11) (N := some 135) #[true, true, true, true, true, true, true, true, true, true, true, true, false, false, false, false, false, false, false, false, false, false, false, false, false, false, false, false, false, false, false] HT_.out ?_
                 refine pure_ (i := 12) (N := some 136) (v := undef) (a' := ?_) #[true, true, true, true, true, true, true, true, true, true, true, true, true, false, false, false, false, false, false, false, false, false, false, false, false, false, false, false, false, false, false] rfl rfl (any_of HT_.out (by kernel_rfl)) (fun _ _ _ h => h) (Or.inr ⟨by rfl, rfl⟩) ?_ ?_
                 rotate_left
                 ·simp only [Act.put, List.setIfInBounds_toArray, List.set_cons_zero, List.set_cons_succ, i64_w, i32_w]
                  rfl
                 refine pure_ (i := 13) (N := some 137) (v := undef) (a' := ?_) #[true, true, true, true, true, true, true, true, true, true, true, true, true, true, false, false, false, false, false, false, false, false, false, false, false, false, false, false, false, false, false] rfl rfl (any_of HT_.out (by kernel_rfl)) (fun _ _ _ h => h) (Or.inr ⟨by rfl, rfl⟩) ?_ ?_
                 rotate_left
                 ·simp only [Act.put, List.setIfInBounds_toArray, List.set_cons_zero, List.set_cons_succ, i64_w, i32_w]
                  rfl
                 refine pure_ (i := 14) (N := some 138) (v := undef) (a' := ?_) #[true, true, true, true, true, true, true, true, true, true, true, true, true, true, true, false, false, false, false, false, false, false, false, false, false, false, false, false, false, false, false] rfl rfl (any_of HT_.out (by kernel_rfl)) (fun _ _ _ h => h) (Or.inr ⟨by rfl, rfl⟩) ?_ ?_
                 rotate_left
                 ·simp only [Act.put, List.setIfInBounds_toArray, List.set_cons_zero, List.set_cons_succ, i64_w, i32_w]
                  rfl
                 refine pure_ (i := 15) (N := some 139) (v := undef) (a' := ?_) #[true, true, true, true, true, true, true, true, true, true, true, true, true, true, true, true, false, false, false, false, false, false, false, false, false, false, false, false, false, false, false] rfl rfl (any_of HT_.out (by kernel_rfl)) (fun _ _ _ h => h) (Or.inr ⟨by rfl, rfl⟩) ?_ ?_
                 rotate_left
                 ·simp only [Act.put, List.setIfInBounds_toArray, List.set_cons_zero, List.set_cons_succ, i64_w, i32_w]
                  rfl
                 refine pure_ (i := 16) (N := some 140) (v := undef) (a' := ?_) #[true, true, true, true, true, true, true, true, true, true, true, true, true, true, true, true, true, false, false, false, false, false, false, false, false, false, false, false, false, false, false] rfl rfl (any_of HT_.out (by kernel_rfl)) (fun _ _ _ h => h) (Or.inr ⟨by rfl, rfl⟩) ?_ ?_
                 rotate_left
                 ·simp only [Act.put, List.setIfInBounds_toArray, List.set_cons_zero, List.set_cons_succ, i64_w, i32_w]
                  rfl
                 refine pu__ (i := 17) (N := some 141) #[true, true, true, true, true, true, true, true, true, true, true, true, true, true, true, true, true, true, false, false, false, false, false, false, false, false, false, false, false, false, false] HT_.out ?_
                 refine pu__ (i := 18) (N := some 142) #[true, true, true, true, true, true, true, true, true, true, true, true, true, true, true, true, true, true, true, false, false, false, false, false, false, false, false, false, false, false, false] HT_.out ?_
                 refine pure_ (i := 19) (N := some 143) (v := undef) (a' := ?_) #[true, true, true, true, true, true, true, true, true, true, true, true, true, true, true, true, true, true, true, true, false, false, false, false, false, false, false, false, false, false, false] rfl rfl (any_of HT_.out (by kernel_rfl)) (fun _ _ _ h => h) (Or.inr ⟨by rfl, rfl⟩) ?_ ?_
                 rotate_left
                 ·simp only [Act.put, List.setIfInBounds_toArray, List.set_cons_zero, List.set_cons_succ, i64_w, i32_w]
                  rfl
                 refine pure_ (i := 20) (N := some 144) (v := undef) (a' := ?_) #[true, true, true, true, true, true, true, true, true, true, true, true, true, true, true, true, true, true, true, true, true, false, false, false, false, false, false, false, false, false, false] rfl rfl (any_of HT_.out (by kernel_rfl)) (fun _ _ _ h => h) (Or.inr ⟨by rfl, rfl⟩) ?_ ?_
                 rotate_left
                 ·simp only [Act.put, List.setIfInBounds_toArray, List.set_cons_zero, List.set_cons_succ, i64_w, i32_w]
                  rfl
                 refine pure_ (i := 21) (N := some 145) (v := undef) (a' := ?_) #[true, true, true, true, true, true, true, true, true, true, true, true, true, true, true, true, true, true, true, true, true, true, false, false, false, false, false, false, false, false, false] rfl rfl (any_of HT_.out (by kernel_rfl)) (fun _ _ _ h => h) (Or.inr ⟨by rfl, rfl⟩) ?_ ?_
                 rotate_left
                 ·simp only [Act.put, List.setIfInBounds_toArray, List.set_cons_zero, List.set_cons_succ, i64_w, i32_w]
                  rfl
                 refine pure_ (i := 22) (N := some 146) (v := undef) (a' := ?_) #[true, true, true, true, true, true, true, true, true, true, true, true, true, true, true, true, true, true, true, true, true, true, true, false, false, false, false, false, false, false, false] rfl rfl (any_of HT_.out (by kernel_rfl)) (fun _ _ _ h => h) (Or.inr ⟨by rfl, rfl⟩) ?_ ?_
                 rotate_left
                 ·simp only [Act.put, List.setIfInBounds_toArray, List.set_cons_zero, List.set_cons_succ, i64_w, i32_w]
                  rfl
                 refine pure_ (i := 23) (N := some 147) (v := undef) (a' := ?_) #[true, true, true, true, true, true, true, true, true, true, true, true, true, true, true, true, true, true, true, true, true, true, true, true, false, false, false, false, false, false, false] rfl rfl (any_of HT_.out (by kernel_rfl)) (fun _ _ _ h => h) (Or.inr ⟨by rfl, rfl⟩) ?_ ?_
                 rotate_left
                 ·simp only [Act.put, List.setIfInBounds_toArray, List.set_cons_zero, List.set_cons_succ, i64_w, i32_w]
                  rfl
                 refine pure_ (i := 24) (N := some 148) (v := undef) (a' := ?_) #[true, true, true, true, true, true, true, true, true, true, true, true, true, true, true, true, true, true, true, true, true, true, true, true, true, false, false, false, false, false, false] rfl rfl (any_of HT_.out (by kernel_rfl)) (fun _ _ _ h => h) (Or.inr ⟨by rfl, rfl⟩) ?_ ?_
                 rotate_left
                 ·simp only [Act.put, List.setIfInBounds_toArray, List.set_cons_zero, List.set_cons_succ, i64_w, i32_w]
                  rfl
                 refine pure_ (i := 25) (N := some 149) (v := undef) (a' := ?_) #[true, true, true, true, true, true, true, true, true, true, true, true, true, true, true, true, true, true, true, true, true, true, true, true, true, true, false, false, false, false, false] rfl rfl (any_of HT_.out (by kernel_rfl)) (fun _ _ _ h => h) (Or.inr ⟨by rfl, rfl⟩) ?_ ?_
                 rotate_left
                 ·simp only [Act.put, List.setIfInBounds_toArray, List.set_cons_zero, List.set_cons_succ, i64_w, i32_w]
                  rfl
                 refine pure_ (i := 26) (N := some 150) (v := undef) (a' := ?_) #[true, true, true, true, true, true, true, true, true, true, true, true, true, true, true, true, true, true, true, true, true, true, true, true, true, true, true, false, false, false, false] rfl rfl (any_of HT_.out (by kernel_rfl)) (fun _ _ _ h => h) (Or.inr ⟨by rfl, rfl⟩) ?_ ?_
                 rotate_left
                 ·simp only [Act.put, List.setIfInBounds_toArray, List.set_cons_zero, List.set_cons_succ, i64_w, i32_w]
                  rfl
                 refine pure_ (i := 27) (N := some 151) (v := undef) (a' := ?_) #[true, true, true, true, true, true, true, true, true, true, true, true, true, true, true, true, true, true, true, true, true, true, true, true, true, true, true, true, false, false, false] rfl rfl (any_of HT_.out (by kernel_rfl)) (fun _ _ _ h => h) (Or.inr ⟨by rfl, rfl⟩) ?_ ?_
                 rotate_left
                 ·simp only [Act.put, List.setIfInBounds_toArray, List.set_cons_zero, List.set_cons_succ, i64_w, i32_w]
                  rfl
                 refine pu__ (i := 28) (N := some 152) #[true, true, true, true, true, true, true, true, true, true, true, true, true, true, true, true, true, true, true, true, true, true, true, true, true, true, true, true, true, false, false] HT_.out ?_
                 refine pu__ (i := 29) (N := some 153) #[true, true, true, true, true, true, true, true, true, true, true, true, true, true, true, true, true, true, true, true, true, true, true, true, true, true, true, true, true, true, false] HT_.out ?_
                 refine pu__ (i := 30) (N := some 2) #[true, true, true, true, true, true, true, true, true, true, true, true, true, true, true, true, true, true, true, true, true, true, true, true, true, true, true, true, true, true, true] HT_.out ?_
                 refine done_ (done_of HT_.out (by kernel_rfl)) ?_
                 try go_wp2
                 go_ret
                 exact ⟨by first | rfl | (simp [errW_none, errW_some] <;> rfl) | (simp [*, errW_none, errW_some] <;> rfl), bel__⟩
                ·rw [if_neg c195] at H
                 have c195b0 : decide (x6_3 < 0) = false := decide_eq_false c195
                 clear c195
                 by_cases c199 : x6_3 > (t696.length : Int)
                 ·rw [if_pos c199] at H
                  have c199b0 : decide ((t696.length : Int) < x6_3) = true := decide_eq_true c199
                  clear c199
                  obtain rfl := Option.some.inj H
                  try go_wp2
                  have n0_ := Aside0.mk (Kd.R_drew HO_14.out)
                  have n1_ := Aside0.mk (Kd.R_drew HO_685000.out)
                  have n2_ := Aside0.mk (Kd.R_drew HO_685001.out)
                  have n3_ := Aside0.mk (Kd.R_drew HO_701000.out)
                  have n4_ := Aside0.mk (Kd.R_drew HO_701001.out)
                  have n5_ := Aside0.mk (Kd.R_drew HO_709000.out)
                  have n6_ := Aside0.mk (Kd.R_drew HO_709001.out)
                  have n7_ := Aside0.mk (Kd.R_drew HO_720000.out)
                  have n8_ := Aside0.mk (Kd.R_drew HO_720001.out)
                  have n9_ := Aside0.mk (Kd.R_drew HO_727000.out)
                  have n10_ := Aside0.mk (Kd.R_drew HO_727001.out)
                  have n11_ := Aside0.mk (Kd.R_drew HO_734000.out)
                  have n12_ := Aside0.mk (Kd.R_drew HO_734001.out)
                  have n13_ := Aside0.mk (blk_drew BK684.out)
                  have n14_ := Aside0.mk (blk_drew BK700.out)
                  have n15_ := Aside0.mk (blk_drew BK708.out)
                  have n16_ := Aside0.mk (blk_drew BK719.out)
                  have n17_ := Aside0.mk (blk_drew BK726.out)
                  have n18_ := Aside0.mk (blk_drew BK733.out)
                  have n19_ := Aside0.mk (below_drew1 HB.out)
                  clear HO_14
                  clear HO_685000
                  clear HO_685001
                  clear HO_701000
                  clear HO_701001
                  clear HO_709000
                  clear HO_709001
                  clear HO_720000
                  clear HO_720001
                  clear HO_727000
                  clear HO_727001
                  clear HO_734000
                  clear HO_734001
                  clear BK684
                  clear BK700
                  clear BK708
                  clear BK719
                  clear BK726
                  clear BK733
                  clear HB
                  have HO_14 := n0_
                  have HO_685000 := n1_
                  have HO_685001 := n2_
                  have HO_701000 := n3_
                  have HO_701001 := n4_
                  have HO_709000 := n5_
                  have HO_709001 := n6_
                  have HO_720000 := n7_
                  have HO_720001 := n8_
                  have HO_727000 := n9_
                  have HO_727001 := n10_
                  have HO_734000 := n11_
                  have HO_734001 := n12_
                  have BK684 := n13_
                  have BK700 := n14_
                  have BK708 := n15_
                  have BK719 := n16_
                  have BK726 := n17_
                  have BK733 := n18_
                  have HB := n19_
                  clear n0_ n1_ n2_ n3_ n4_ n5_ n6_ n7_ n8_ n9_ n10_ n11_ n12_ n13_ n14_ n15_ n16_ n17_ n18_ n19_
                  obtain ⟨Ao202, co202, eo202⟩ := Kd.R_slice HO_14.out
                  (first | subst eo202 | (injection eo202 with f1_ f2_ f3_; have f4_ := f1_.symm; have f5_ := f3_.symm; clear f1_ f2_ f3_; subst f4_; subst f5_))
                  have q201 : ((t713.length : Int) : Int) ≤ ((y740.length : Int) : Int) := of_decide_eq_true (by first | (with_reducible assumption) | assumption)
                  obtain ⟨i0201, hi0201, _, hsz201, _⟩ := info_parts info9
                  have hroom201 : y740.length ≤ co202 := (Kd.R_reads' HO_14.out).2.1
                  have hC201 : Kd.C Kd.string _ Ao202 y740.length y740 := (Kd.R_reads' HO_14.out).2.2
                  have hcut201 := cut_to (P := Try.prog) 25 9 .i64 Try.underlying25 hi0201 Ao202 y740.length co202 (t713.length : Int) (of_decide_eq_true (by first | (with_reducible assumption) | assumption)) q201 hroom201
                  have hr201 := Kd.C_take (m := ((t713.length : Int) : Int).toNat) hC201 (by omega)
                  have hy201 : y745.length = ((t713.length : Int) : Int).toNat := (by rw [Ny745.out, List.length_take]; omega)
                  rw [← Ny745.out] at hr201
                  rw [← hy201] at hcut201
                  have HR748 := Aside0.mk hr201
                  have HC748 := Aside0.mk (show y745.length ≤ co202 from by omega)
                  clear hr201 hC201 hroom201 hi0201 hsz201
                  have KY201 := Aside0.mk hy201
                  clear hy201
                  have KL201 := Aside0.mk (show ((t713.length : Int) : Int).toNat ≤ y740.length from by omega)
                  replace q201 := eq_true q201
                  refine start_ (n := 31) (S := fun w' => w'.cell? ⟨gb719, 0, none⟩ = some (.slice Ao62 t713.length co62) ∧ w'.cell? ⟨gb719, 1, none⟩ = some (.slice Ao67 t716.length co67) ∧ w'.cell? ⟨gb700, 0, none⟩ = some (.slice Ao23 t693.length co23) ∧ w'.cell? ⟨gb700, 1, none⟩ = some (.slice Ao26 t696.length co26)) (ds := []) #[false, false, false, false, false, false, false, false, false, false, false, false, false, false, false, false, false, false, false, false, false, false, false, false, false, false, false, false, false, false, false] (by kernel_rfl) rfl rfl ⟨(blk_cell BK719.out 0).trans rfl, (blk_cell BK719.out 1).trans rfl, (blk_cell BK700.out 0).trans rfl, (blk_cell BK700.out 1).trans rfl⟩ (fun hHeld => ?_); refine with_tabW laws_FnLog.tab17 laws_FnLog.bits17 (fun HT_ HW_ => ?_)
                  generalize wc.drew = w200 at HO_14 HO_685000 HO_685001 HO_701000 HO_701001 HO_709000 HO_709001 HO_720000 HO_720001 HO_727000 HO_727001 HO_734000 HO_734001 BK684 BK700 BK708 BK719 BK726 BK733 HB HR748 hHeld ⊢
                  refine pu__ (i := 0) (N := some 124) #[true, false, false, false, false, false, false, false, false, false, false, false, false, false, false, false, false, false, false, false, false, false, false, false, false, false, false, false, false, false, false] HT_.out ?_
                  refine pu__ (i := 2) (N := some 126) #[true, false, true, false, false, false, false, false, false, false, false, false, false, false, false, false, false, false, false, false, false, false, false, false, false, false, false, false, false, false, false] HT_.out ?_
                  refine pu__ (i := 3) (N := some 127) #[true, false, true, true, false, false, false, false, false, false, false, false, false, false, false, false, false, false, false, false, false, false, false, false, false, false, false, false, false, false, false] HT_.out ?_
                  refine take_ (i := 1) (N := some 125) (v := ?_) (a' := ?_) #[true, true, true, true, false, false, false, false, false, false, false, false, false, false, false, false, false, false, false, false, false, false, false, false, false, false, false, false, false, false, false] rfl rfl (take_ofW HT_.out HW_.out (by kernel_rfl)) (fun _ _ _ h => h) (Or.inl ⟨by rfl, ?_⟩) hHeld ?_ ?_
                  rotate_left
                  ·rintro w' ⟨s0, s1, s2, s3⟩
                   go_simp
                   with_reducible rfl
                  rotate_left
                  ·simp only [Act.put, List.setIfInBounds_toArray, List.set_cons_zero, List.set_cons_succ, i64_w, i32_w]
                   rfl
                  refine take_ (i := 4) (N := some 128) (v := ?_) (a' := ?_) #[true, true, true, true, true, false, false, false, false, false, false, false, false, false, false, false, false, false, false, false, false, false, false, false, false, false, false, false, false, false, false] rfl rfl (take_ofW HT_.out HW_.out (by kernel_rfl)) (fun _ _ _ h => h) (Or.inl ⟨by rfl, ?_⟩) hHeld ?_ ?_
                  rotate_left
                  ·rintro w' ⟨s0, s1, s2, s3⟩
                   go_simp
                   with_reducible rfl
                  rotate_left
                  ·simp only [Act.put, List.setIfInBounds_toArray, List.set_cons_zero, List.set_cons_succ, i64_w, i32_w]
                   rfl
                  refine pu__ (i := 5) (N := some 129) #[true, true, true, true, true, true, false, false, false, false, false, false, false, false, false, false, false, false, false, false, false, false, false, false, false, false, false, false, false, false, false] HT_.out ?_
                  refine pu__ (i := 6) (N := some 130) #[true, true, true, true, true, true, true, false, false, false, false, false, false, false, false, false, false, false, false, false, false, false, false, false, false, false, false, false, false, false, false] HT_.out ?_
                  refine one_ (i := 7) (N := some 131) #[true, true, true, true, true, true, true, true, false, false, false, false, false, false, false, false, false, false, false, false, false, false, false, false, false, false, false, false, false, false, false] rfl rfl (one_of HT_.out (by kernel_rfl)) (by decide) (fun K hK => ?_)
                  refine goes_ Try.func41 (by kernel_rfl) rfl #[.slice Ao62 t713.length co62, .slice Ao202 y745.length co202] (by rfl) rfl rfl (ar__) ?_
                  with_reducible refine (laws_wList.calls kj55 _ _ t713 _ _ y745 true _ ?side1 ?side2 ?side3 ?side4 A193.out).mono ?_
                  (case side1 => repeat (first | exact (Kd.R_reads' HO_720000.out).2.2 | (with_reducible refine Kd.C_alloc ?_ _) | (with_reducible refine Kd.C_drewN ?_ _) | (with_reducible refine Kd.C_drew ?_)))
                  (case side2 => exact (Kd.R_reads' HO_720000.out).2.1)
                  (case side3 => repeat (first | exact (by repeat (first | (with_reducible exact HR748.out) | (with_reducible refine Kd.C_alloc ?_ _) | (with_reducible refine Kd.C_drewN ?_ _) | (with_reducible refine Kd.C_drew ?_) | exact HR748.out)) | (with_reducible refine Kd.C_alloc ?_ _) | (with_reducible refine Kd.C_drewN ?_ _) | (with_reducible refine Kd.C_drew ?_)))
                  (case side4 => exact HC748.out)
                  rintro e w' ⟨rfl, ⟨nd, rfl⟩⟩
                  refine ⟨_, rfl, ?_⟩
                  refine hK.out _ _ ⟨(blk_cell BK719.out 0).trans rfl, (blk_cell BK719.out 1).trans rfl, (blk_cell BK700.out 0).trans rfl, (blk_cell BK700.out 1).trans rfl⟩ (fun hHeld => ?_)
                  clear hK K
                  refine na__ 131 ?_
                  refine pu__ (i := 8) (N := some 132) #[true, true, true, true, true, true, true, true, true, false, false, false, false, false, false, false, false, false, false, false, false, false, false, false, false, false, false, false, false, false, false] HT_.out ?_
                  refine pu__ (i := 9) (N := some 133) #[true, true, true, true, true, true, true, true, true, true, false, false, false, false, false, false, false, false, false, false, false, false, false, false, false, false, false, false, false, false, false] HT_.out ?_
                  refine pu__ (i := 10) (N := some 134) #[true, true, true, true, true, true, true, true, true, true, true, false, false, false, false, false, false, false, false, false, false, false, false, false, false, false, false, false, false, false, false] HT_.out ?_
                  refine pu__ (i := 11) (N := some 135) #[true, true, true, true, true, true, true, true, true, true, true, true, false, false, false, false, false, false, false, false, false, false, false, false, false, false, false, false, false, false, false] HT_.out ?_
                  refine pu__ (i := 12) (N := some 136) #[true, true, true, true, true, true, true, true, true, true, true, true, true, false, false, false, false, false, false, false, false, false, false, false, false, false, false, false, false, false, false] HT_.out ?_
                  refine pu__ (i := 13) (N := some 137) #[true, true, true, true, true, true, true, true, true, true, true, true, true, true, false, false, false, false, false, false, false, false, false, false, false, false, false, false, false, false, false] HT_.out ?_
                  refine take_ (i := 14) (N := some 138) (v := ?_) (a' := ?_) #[true, true, true, true, true, true, true, true, true, true, true, true, true, true, true, false, false, false, false, false, false, false, false, false, false, false, false, false, false, false, false] rfl rfl (take_ofW HT_.out HW_.out (by kernel_rfl)) (fun _ _ _ h => h) (Or.inl ⟨by rfl, ?_⟩) hHeld ?_ ?_
                  rotate_left
                  ·rintro w' ⟨s0, s1, s2, s3⟩
                   go_simp
                   with_reducible rfl
                  rotate_left
                  ·simp only [Act.put, List.setIfInBounds_toArray, List.set_cons_zero, List.set_cons_succ, i64_w, i32_w]
                   rfl
                  refine pu__ (i := 15) (N := some 139) #[true, true, true, true, true, true, true, true, true, true, true, true, true, true, true, true, false, false, false, false, false, false, false, false, false, false, false, false, false, false, false] HT_.out ?_
                  refine pu__ (i := 16) (N := some 140) #[true, true, true, true, true, true, true, true, true, true, true, true, true, true, true, true, true, false, false, false, false, false, false, false, false, false, false, false, false, false, false] HT_.out ?_
                  refine pu__ (i := 17) (N := some 141) #[true, true, true, true, true, true, true, true, true, true, true, true, true, true, true, true, true, true, false, false, false, false, false, false, false, false, false, false, false, false, false] HT_.out ?_
                  refine pu__ (i := 18) (N := some 142) #[true, true, true, true, true, true, true, true, true, true, true, true, true, true, true, true, true, true, true, false, false, false, false, false, false, false, false, false, false, false, false] HT_.out ?_
                  refine pure_ (i := 19) (N := some 143) (v := undef) (a' := ?_) #[true, true, true, true, true, true, true, true, true, true, true, true, true, true, true, true, true, true, true, true, false, false, false, false, false, false, false, false, false, false, false] rfl rfl (any_of HT_.out (by kernel_rfl)) (fun _ _ _ h => h) (Or.inr ⟨by rfl, rfl⟩) ?_ ?_
                  rotate_left
                  ·simp only [Act.put, List.setIfInBounds_toArray, List.set_cons_zero, List.set_cons_succ, i64_w, i32_w]
                   rfl
                  refine pure_ (i := 20) (N := some 144) (v := undef) (a' := ?_) #[true, true, true, true, true, true, true, true, true, true, true, true, true, true, true, true, true, true, true, true, true, false, false, false, false, false, false, false, false, false, false] rfl rfl (any_of HT_.out (by kernel_rfl)) (fun _ _ _ h => h) (Or.inr ⟨by rfl, rfl⟩) ?_ ?_
                  rotate_left
                  ·simp only [Act.put, List.setIfInBounds_toArray, List.set_cons_zero, List.set_cons_succ, i64_w, i32_w]
                   rfl
                  refine pure_ (i := 21) (N := some 145) (v := undef) (a' := ?_) #[true, true, true, true, true, true, true, true, true, true, true, true, true, true, true, true, true, true, true, true, true, true, false, false, false, false, false, false, false, false, false] rfl rfl (any_of HT_.out (by kernel_rfl)) (fun _ _ _ h => h) (Or.inr ⟨by rfl, rfl⟩) ?_ ?_
                  rotate_left
                  ·simp only [Act.put, List.setIfInBounds_toArray, List.set_cons_zero, List.set_cons_succ, i64_w, i32_w]
                   rfl
                  refine pure_ (i := 22) (N := some 146) (v := undef) (a' := ?_) #[true, true, true, true, true, true, true, true, true, true, true, true, true, true, true, true, true, true, true, true, true, true, true, false, false, false, false, false, false, false, false] rfl rfl (any_of HT_.out (by kernel_rfl)) (fun _ _ _ h => h) (Or.inr ⟨by rfl, rfl⟩) ?_ ?_
                  rotate_left
                  ·simp only [Act.put, List.setIfInBounds_toArray, List.set_cons_zero, List.set_cons_succ, i64_w, i32_w]
                   rfl
                  refine pure_ (i := 23) (N := some 147) (v := undef) (a' := ?_) #[true, true, true, true, true, true, true, true, true, true, true, true, true, true, true, true, true, true, true, true, true, true, true, true, false, false, false, false, false, false, false] rfl rfl (any_of HT_.out (by kernel_rfl)) (fun _ _ _ h => h) (Or.inr ⟨by rfl, rfl⟩) ?_ ?_
                  rotate_left
                  ·simp only [Act.put, List.setIfInBounds_toArray, List.set_cons_zero, List.set_cons_succ, i64_w, i32_w]
                   rfl
                  refine pure_ (i := 24) (N := some 148) (v := undef) (a' := ?_) #[true, true, true, true, true, true, true, true, true, true, true, true, true, true, true, true, true, true, true, true, true, true, true, true, true, false, false, false, false, false, false] rfl rfl (any_of HT_.out (by kernel_rfl)) (fun _ _ _ h => h) (Or.inr ⟨by rfl, rfl⟩) ?_ ?_
                  rotate_left
                  ·simp only [Act.put, List.setIfInBounds_toArray, List.set_cons_zero, List.set_cons_succ, i64_w, i32_w]
                   rfl
                  refine pure_ (i := 25) (N := some 149) (v := undef) (a' := ?_) #[true, true, true, true, true, true, true, true, true, true, true, true, true, true, true, true, true, true, true, true, true, true, true, true, true, true, false, false, false, false, false] rfl rfl (any_of HT_.out (by kernel_rfl)) (fun _ _ _ h => h) (Or.inr ⟨by rfl, rfl⟩) ?_ ?_
                  rotate_left
                  ·simp only [Act.put, List.setIfInBounds_toArray, List.set_cons_zero, List.set_cons_succ, i64_w, i32_w]
                   rfl
                  refine pure_ (i := 26) (N := some 150) (v := undef) (a' := ?_) #[true, true, true, true, true, true, true, true, true, true, true, true, true, true, true, true, true, true, true, true, true, true, true, true, true, true, true, false, false, false, false] rfl rfl (any_of HT_.out (by kernel_rfl)) (fun _ _ _ h => h) (Or.inr ⟨by rfl, rfl⟩) ?_ ?_
                  rotate_left
                  ·simp only [Act.put, List.setIfInBounds_toArray, List.set_cons_zero, List.set_cons_succ, i64_w, i32_w]
                   rfl
                  refine pure_ (i := 27) (N := some 151) (v := undef) (a' := ?_) #[true, true, true, true, true, true, true, true, true, true, true, true, true, true, true, true, true, true, true, true, true, true, true, true, true, true, true, true, false, false, false] rfl rfl (any_of HT_.out (by kernel_rfl)) (fun _ _ _ h => h) (Or.inr ⟨by rfl, rfl⟩) ?_ ?_
                  rotate_left
                  ·simp only [Act.put, List.setIfInBounds_toArray, List.set_cons_zero, List.set_cons_succ, i64_w, i32_w]
                   rfl
                  refine pu__ (i := 28) (N := some 152) #[true, true, true, true, true, true, true, true, true, true, true, true, true, true, true, true, true, true, true, true, true, true, true, true, true, true, true, true, true, false, false] HT_.out ?_
                  refine pu__ (i := 29) (N := some 153) #[true, true, true, true, true, true, true, true, true, true, true, true, true, true, true, true, true, true, true, true, true, true, true, true, true, true, true, true, true, true, false] HT_.out ?_
                  refine pu__ (i := 30) (N := some 2) #[true, true, true, true, true, true, true, true, true, true, true, true, true, true, true, true, true, true, true, true, true, true, true, true, true, true, true, true, true, true, true] HT_.out ?_
                  refine done_ (done_of HT_.out (by kernel_rfl)) ?_
                  try go_wp2
                  go_ret
                  exact ⟨by first | rfl | (simp [errW_none, errW_some] <;> rfl) | (simp [*, errW_none, errW_some] <;> rfl), bel__⟩
                 ·rw [if_neg c199] at H
                  have c199b0 : decide ((t696.length : Int) < x6_3) = false := decide_eq_false c199
                  clear c199
                  obtain rfl := Option.some.inj H
                  try go_wp2
                  have n0_ := Aside0.mk (Kd.R_drew HO_14.out)
                  have n1_ := Aside0.mk (Kd.R_drew HO_685000.out)
                  have n2_ := Aside0.mk (Kd.R_drew HO_685001.out)
                  have n3_ := Aside0.mk (Kd.R_drew HO_701000.out)
                  have n4_ := Aside0.mk (Kd.R_drew HO_701001.out)
                  have n5_ := Aside0.mk (Kd.R_drew HO_709000.out)
                  have n6_ := Aside0.mk (Kd.R_drew HO_709001.out)
                  have n7_ := Aside0.mk (Kd.R_drew HO_720000.out)
                  have n8_ := Aside0.mk (Kd.R_drew HO_720001.out)
                  have n9_ := Aside0.mk (Kd.R_drew HO_727000.out)
                  have n10_ := Aside0.mk (Kd.R_drew HO_727001.out)
                  have n11_ := Aside0.mk (Kd.R_drew HO_734000.out)
                  have n12_ := Aside0.mk (Kd.R_drew HO_734001.out)
                  have n13_ := Aside0.mk (blk_drew BK684.out)
                  have n14_ := Aside0.mk (blk_drew BK700.out)
                  have n15_ := Aside0.mk (blk_drew BK708.out)
                  have n16_ := Aside0.mk (blk_drew BK719.out)
                  have n17_ := Aside0.mk (blk_drew BK726.out)
                  have n18_ := Aside0.mk (blk_drew BK733.out)
                  have n19_ := Aside0.mk (below_drew1 HB.out)
                  clear HO_14
                  clear HO_685000
                  clear HO_685001
                  clear HO_701000
                  clear HO_701001
                  clear HO_709000
                  clear HO_709001
                  clear HO_720000
                  clear HO_720001
                  clear HO_727000
                  clear HO_727001
                  clear HO_734000
                  clear HO_734001
                  clear BK684
                  clear BK700
                  clear BK708
                  clear BK719
                  clear BK726
                  clear BK733
                  clear HB
                  have HO_14 := n0_
                  have HO_685000 := n1_
                  have HO_685001 := n2_
                  have HO_701000 := n3_
                  have HO_701001 := n4_
                  have HO_709000 := n5_
                  have HO_709001 := n6_
                  have HO_720000 := n7_
                  have HO_720001 := n8_
                  have HO_727000 := n9_
                  have HO_727001 := n10_
                  have HO_734000 := n11_
                  have HO_734001 := n12_
                  have BK684 := n13_
                  have BK700 := n14_
                  have BK708 := n15_
                  have BK719 := n16_
                  have BK726 := n17_
                  have BK733 := n18_
                  have HB := n19_
                  clear n0_ n1_ n2_ n3_ n4_ n5_ n6_ n7_ n8_ n9_ n10_ n11_ n12_ n13_ n14_ n15_ n16_ n17_ n18_ n19_
                  obtain ⟨Ao205, co205, eo205⟩ := Kd.R_slice HO_14.out
                  (first | subst eo205 | (injection eo205 with f1_ f2_ f3_; have f4_ := f1_.symm; have f5_ := f3_.symm; clear f1_ f2_ f3_; subst f4_; subst f5_))
                  have q204 : ((t713.length : Int) : Int) ≤ ((y740.length : Int) : Int) := of_decide_eq_true (by first | (with_reducible assumption) | assumption)
                  obtain ⟨i0204, hi0204, _, hsz204, _⟩ := info_parts info9
                  have hroom204 : y740.length ≤ co205 := (Kd.R_reads' HO_14.out).2.1
                  have hC204 : Kd.C Kd.string _ Ao205 y740.length y740 := (Kd.R_reads' HO_14.out).2.2
                  have hcut204 := cut_to (P := Try.prog) 25 9 .i64 Try.underlying25 hi0204 Ao205 y740.length co205 (t713.length : Int) (of_decide_eq_true (by first | (with_reducible assumption) | assumption)) q204 hroom204
                  have hr204 := Kd.C_take (m := ((t713.length : Int) : Int).toNat) hC204 (by omega)
                  have hy204 : y745.length = ((t713.length : Int) : Int).toNat := (by rw [Ny745.out, List.length_take]; omega)
                  rw [← Ny745.out] at hr204
                  rw [← hy204] at hcut204
                  have HR748 := Aside0.mk hr204
                  have HC748 := Aside0.mk (show y745.length ≤ co205 from by omega)
                  clear hr204 hC204 hroom204 hi0204 hsz204
                  have KY204 := Aside0.mk hy204
                  clear hy204
                  have KL204 := Aside0.mk (show ((t713.length : Int) : Int).toNat ≤ y740.length from by omega)
                  replace q204 := eq_true q204
                  refine start_ (n := 31) (S := fun w' => w'.cell? ⟨gb719, 0, none⟩ = some (.slice Ao62 t713.length co62) ∧ w'.cell? ⟨gb719, 1, none⟩ = some (.slice Ao67 t716.length co67) ∧ w'.cell? ⟨gb700, 0, none⟩ = some (.slice Ao23 t693.length co23) ∧ w'.cell? ⟨gb700, 1, none⟩ = some (.slice Ao26 t696.length co26) ∧ w'.cell? ⟨gb684, 0, none⟩ = some (.slice Ao7 t677.length co7) ∧ w'.cell? ⟨gb684, 1, none⟩ = some (.slice Ao9 t680.length co9)) (ds := []) #[false, false, false, false, false, false, false, false, false, false, false, false, false, false, false, false, false, false, false, false, false, false, false, false, false, false, false, false, false, false, false] (by kernel_rfl) rfl rfl ⟨(blk_cell BK719.out 0).trans rfl, (blk_cell BK719.out 1).trans rfl, (blk_cell BK700.out 0).trans rfl, (blk_cell BK700.out 1).trans rfl, (blk_cell BK684.out 0).trans rfl, (blk_cell BK684.out 1).trans rfl⟩ (fun hHeld => ?_); refine with_tabW laws_FnLog.tab17 laws_FnLog.bits17 (fun HT_ HW_ => ?_)
                  generalize wc.drew = w203 at HO_14 HO_685000 HO_685001 HO_701000 HO_701001 HO_709000 HO_709001 HO_720000 HO_720001 HO_727000 HO_727001 HO_734000 HO_734001 BK684 BK700 BK708 BK719 BK726 BK733 HB HR748 hHeld ⊢
                  refine pu__ (i := 0) (N := some 124) #[true, false, false, false, false, false, false, false, false, false, false, false, false, false, false, false, false, false, false, false, false, false, false, false, false, false, false, false, false, false, false] HT_.out ?_
                  refine pu__ (i := 2) (N := some 126) #[true, false, true, false, false, false, false, false, false, false, false, false, false, false, false, false, false, false, false, false, false, false, false, false, false, false, false, false, false, false, false] HT_.out ?_
                  refine pu__ (i := 3) (N := some 127) #[true, false, true, true, false, false, false, false, false, false, false, false, false, false, false, false, false, false, false, false, false, false, false, false, false, false, false, false, false, false, false] HT_.out ?_
                  refine take_ (i := 1) (N := some 125) (v := ?_) (a' := ?_) #[true, true, true, true, false, false, false, false, false, false, false, false, false, false, false, false, false, false, false, false, false, false, false, false, false, false, false, false, false, false, false] rfl rfl (take_ofW HT_.out HW_.out (by kernel_rfl)) (fun _ _ _ h => h) (Or.inl ⟨by rfl, ?_⟩) hHeld ?_ ?_
                  rotate_left
                  ·rintro w' ⟨s0, s1, s2, s3, s4, s5⟩
                   go_simp
                   with_reducible rfl
                  rotate_left
                  ·simp only [Act.put, List.setIfInBounds_toArray, List.set_cons_zero, List.set_cons_succ, i64_w, i32_w]
                   rfl
                  refine take_ (i := 4) (N := some 128) (v := ?_) (a' := ?_) #[true, true, true, true, true, false, false, false, false, false, false, false, false, false, false, false, false, false, false, false, false, false, false, false, false, false, false, false, false, false, false] rfl rfl (take_ofW HT_.out HW_.out (by kernel_rfl)) (fun _ _ _ h => h) (Or.inl ⟨by rfl, ?_⟩) hHeld ?_ ?_
                  rotate_left
                  ·rintro w' ⟨s0, s1, s2, s3, s4, s5⟩
                   go_simp
                   with_reducible rfl
                  rotate_left
                  ·simp only [Act.put, List.setIfInBounds_toArray, List.set_cons_zero, List.set_cons_succ, i64_w, i32_w]
                   rfl
                  refine pu__ (i := 5) (N := some 129) #[true, true, true, true, true, true, false, false, false, false, false, false, false, false, false, false, false, false, false, false, false, false, false, false, false, false, false, false, false, false, false] HT_.out ?_
                  refine pu__ (i := 6) (N := some 130) #[true, true, true, true, true, true, true, false, false, false, false, false, false, false, false, false, false, false, false, false, false, false, false, false, false, false, false, false, false, false, false] HT_.out ?_
                  refine one_ (i := 7) (N := some 131) #[true, true, true, true, true, true, true, true, false, false, false, false, false, false, false, false, false, false, false, false, false, false, false, false, false, false, false, false, false, false, false] rfl rfl (one_of HT_.out (by kernel_rfl)) (by decide) (fun K hK => ?_)
                  refine goes_ Try.func41 (by kernel_rfl) rfl #[.slice Ao62 t713.length co62, .slice Ao205 y745.length co205] (by rfl) rfl rfl (ar__) ?_
                  with_reducible refine (laws_wList.calls kj55 _ _ t713 _ _ y745 true _ ?side1 ?side2 ?side3 ?side4 A193.out).mono ?_
                  (case side1 => repeat (first | exact (Kd.R_reads' HO_720000.out).2.2 | (with_reducible refine Kd.C_alloc ?_ _) | (with_reducible refine Kd.C_drewN ?_ _) | (with_reducible refine Kd.C_drew ?_)))
                  (case side2 => exact (Kd.R_reads' HO_720000.out).2.1)
                  (case side3 => repeat (first | exact (by repeat (first | (with_reducible exact HR748.out) | (with_reducible refine Kd.C_alloc ?_ _) | (with_reducible refine Kd.C_drewN ?_ _) | (with_reducible refine Kd.C_drew ?_) | exact HR748.out)) | (with_reducible refine Kd.C_alloc ?_ _) | (with_reducible refine Kd.C_drewN ?_ _) | (with_reducible refine Kd.C_drew ?_)))
                  (case side4 => exact HC748.out)
                  rintro e w' ⟨rfl, ⟨nd, rfl⟩⟩
                  refine ⟨_, rfl, ?_⟩
                  refine hK.out _ _ ⟨(blk_cell BK719.out 0).trans rfl, (blk_cell BK719.out 1).trans rfl, (blk_cell BK700.out 0).trans rfl, (blk_cell BK700.out 1).trans rfl, (blk_cell BK684.out 0).trans rfl, (blk_cell BK684.out 1).trans rfl⟩ (fun hHeld => ?_)
                  clear hK K
                  refine na__ 131 ?_
                  refine pu__ (i := 8) (N := some 132) #[true, true, true, true, true, true, true, true, true, false, false, false, false, false, false, false, false, false, false, false, false, false, false, false, false, false, false, false, false, false, false] HT_.out ?_
                  refine pu__ (i := 9) (N := some 133) #[true, true, true, true, true, true, true, true, true, true, false, false, false, false, false, false, false, false, false, false, false, false, false, false, false, false, false, false, false, false, false] HT_.out ?_
                  refine pu__ (i := 10) (N := some 134) #[true, true, true, true, true, true, true, true, true, true, true, false, false, false, false, false, false, false, false, false, false, false, false, false, false, false, false, false, false, false, false] HT_.out ?_
                  refine pu__ (i := 11) (N := some 135) #[true, true, true, true, true, true, true, true, true, true, true, true, false, false, false, false, false, false, false, false, false, false, false, false, false, false, false, false, false, false, false] HT_.out ?_
                  refine pu__ (i := 12) (N := some 136) #[true, true, true, true, true, true, true, true, true, true, true, true, true, false, false, false, false, false, false, false, false, false, false, false, false, false, false, false, false, false, false] HT_.out ?_
                  refine pu__ (i := 13) (N := some 137) #[true, true, true, true, true, true, true, true, true, true, true, true, true, true, false, false, false, false, false, false, false, false, false, false, false, false, false, false, false, false, false] HT_.out ?_
                  refine take_ (i := 14) (N := some 138) (v := ?_) (a' := ?_) #[true, true, true, true, true, true, true, true, true, true, true, true, true, true, true, false, false, false, false, false, false, false, false, false, false, false, false, false, false, false, false] rfl rfl (take_ofW HT_.out HW_.out (by kernel_rfl)) (fun _ _ _ h => h) (Or.inl ⟨by rfl, ?_⟩) hHeld ?_ ?_
                  rotate_left
                  ·rintro w' ⟨s0, s1, s2, s3, s4, s5⟩
                   go_simp
                   with_reducible rfl
                  rotate_left
                  ·simp only [Act.put, List.setIfInBounds_toArray, List.set_cons_zero, List.set_cons_succ, i64_w, i32_w]
                   rfl
                  refine pu__ (i := 15) (N := some 139) #[true, true, true, true, true, true, true, true, true, true, true, true, true, true, true, true, false, false, false, false, false, false, false, false, false, false, false, false, false, false, false] HT_.out ?_
                  refine pu__ (i := 16) (N := some 140) #[true, true, true, true, true, true, true, true, true, true, true, true, true, true, true, true, true, false, false, false, false, false, false, false, false, false, false, false, false, false, false] HT_.out ?_
                  refine pu__ (i := 17) (N := some 141) #[true, true, true, true, true, true, true, true, true, true, true, true, true, true, true, true, true, true, false, false, false, false, false, false, false, false, false, false, false, false, false] HT_.out ?_
                  refine pu__ (i := 18) (N := some 142) #[true, true, true, true, true, true, true, true, true, true, true, true, true, true, true, true, true, true, true, false, false, false, false, false, false, false, false, false, false, false, false] HT_.out ?_
                  refine pu__ (i := 19) (N := some 143) #[true, true, true, true, true, true, true, true, true, true, true, true, true, true, true, true, true, true, true, true, false, false, false, false, false, false, false, false, false, false, false] HT_.out ?_
                  refine pu__ (i := 22) (N := some 146) #[true, true, true, true, true, true, true, true, true, true, true, true, true, true, true, true, true, true, true, true, false, false, true, false, false, false, false, false, false, false, false] HT_.out ?_
                  refine pu__ (i := 25) (N := some 149) #[true, true, true, true, true, true, true, true, true, true, true, true, true, true, true, true, true, true, true, true, false, false, true, false, false, true, false, false, false, false, false] HT_.out ?_
                  refine take_ (i := 20) (N := some 144) (v := ?_) (a' := ?_) #[true, true, true, true, true, true, true, true, true, true, true, true, true, true, true, true, true, true, true, true, true, false, true, false, false, true, false, false, false, false, false] rfl rfl (take_ofW HT_.out HW_.out (by kernel_rfl)) (fun _ _ _ h => h) (Or.inl ⟨by rfl, ?_⟩) hHeld ?_ ?_
                  rotate_left
                  ·rintro w' ⟨s0, s1, s2, s3, s4, s5⟩
                   go_simp
                   with_reducible rfl
                  rotate_left
                  ·simp only [Act.put, List.setIfInBounds_toArray, List.set_cons_zero, List.set_cons_succ, i64_w, i32_w]
                   rfl
                  refine pu__ (i := 21) (N := some 145) #[true, true, true, true, true, true, true, true, true, true, true, true, true, true, true, true, true, true, true, true, true, true, true, false, false, true, false, false, false, false, false] HT_.out ?_
                  refine take_ (i := 23) (N := some 147) (v := ?_) (a' := ?_) #[true, true, true, true, true, true, true, true, true, true, true, true, true, true, true, true, true, true, true, true, true, true, true, true, false, true, false, false, false, false, false] rfl rfl (take_ofW HT_.out HW_.out (by kernel_rfl)) (fun _ _ _ h => h) (Or.inl ⟨by rfl, ?_⟩) hHeld ?_ ?_
                  rotate_left
                  ·rintro w' ⟨s0, s1, s2, s3, s4, s5⟩
                   go_simp
                   with_reducible rfl
                  rotate_left
                  ·simp only [Act.put, List.setIfInBounds_toArray, List.set_cons_zero, List.set_cons_succ, i64_w, i32_w]
                   rfl
                  refine pu__ (i := 24) (N := some 148) #[true, true, true, true, true, true, true, true, true, true, true, true, true, true, true, true, true, true, true, true, true, true, true, true, true, true, false, false, false, false, false] HT_.out ?_
                  refine pu__ (i := 26) (N := some 150) #[true, true, true, true, true, true, true, true, true, true, true, true, true, true, true, true, true, true, true, true, true, true, true, true, true, true, true, false, false, false, false] HT_.out ?_
                  refine pu__ (i := 27) (N := some 151) #[true, true, true, true, true, true, true, true, true, true, true, true, true, true, true, true, true, true, true, true, true, true, true, true, true, true, true, true, false, false, false] HT_.out ?_
                  refine pu__ (i := 28) (N := some 152) #[true, true, true, true, true, true, true, true, true, true, true, true, true, true, true, true, true, true, true, true, true, true, true, true, true, true, true, true, true, false, false] HT_.out ?_
                  refine pu__ (i := 29) (N := some 153) #[true, true, true, true, true, true, true, true, true, true, true, true, true, true, true, true, true, true, true, true, true, true, true, true, true, true, true, true, true, true, false] HT_.out ?_
                  refine pu__ (i := 30) (N := some 2) #[true, true, true, true, true, true, true, true, true, true, true, true, true, true, true, true, true, true, true, true, true, true, true, true, true, true, true, true, true, true, true] HT_.out ?_
                  refine done_ (done_of HT_.out (by kernel_rfl)) ?_
                  try go_wp2
                  go_ret
                  exact ⟨by first | rfl | (simp [errW_none, errW_some] <;> rfl) | (simp [*, errW_none, errW_some] <;> rfl), bel__⟩
               ·replace c194 := Bool.eq_false_iff.mpr c194
                subst c194
                have H1 : (none) = some r := by rw [if_neg (show ¬ (false = true) by decide)] at H; exact H
                clear H
                have H := H1
                clear H1
                exact absurd H (by simp)
              ·rw [if_neg c192] at H
               exact absurd H (by simp)
             ·rw [if_neg c191] at H
              exact absurd H (by simp)
         ·rw [if_neg c55] at H
          exact absurd H (by simp)
        ·rw [if_neg c54] at H
         exact absurd H (by simp)
       ·rw [if_neg c50] at H
        have c50b0 : (t699 == 0) = false := beq_eq_false_iff_ne.mpr c50
        have c50b1 : (t699 != 0) = true := bne_iff_ne.mpr c50
        replace H := Option.bind_eq_some_iff.mp H
        obtain ⟨t711, A2060, H⟩ := H
        replace H : ((spec_ValidLog.f kj18 t677 t680).bind fun t712 => (some (t711 == t712))) = some r := H
        have A206 := Aside0.mk A2060
        clear A2060
        replace H := Option.bind_eq_some_iff.mp H
        obtain ⟨t712, A2070, H⟩ := H
        replace H : (some (t711 == t712)) = some r := H
        have A207 := Aside0.mk A2070
        clear A2070
        obtain rfl := Option.some.inj H
        try go_wp2
        have n0_ := Aside0.mk (Kd.R_drew HO_685000.out)
        have n1_ := Aside0.mk (Kd.R_drew HO_685001.out)
        have n2_ := Aside0.mk (Kd.R_drew HO_701000.out)
        have n3_ := Aside0.mk (Kd.R_drew HO_701001.out)
        have n4_ := Aside0.mk (Kd.R_drew HO_709000.out)
        have n5_ := Aside0.mk (Kd.R_drew HO_709001.out)
        have n6_ := Aside0.mk (blk_drew BK684.out)
        have n7_ := Aside0.mk (blk_drew BK700.out)
        have n8_ := Aside0.mk (blk_drew BK708.out)
        have n9_ := Aside0.mk (below_drew1 HB.out)
        clear HO_685000
        clear HO_685001
        clear HO_701000
        clear HO_701001
        clear HO_709000
        clear HO_709001
        clear BK684
        clear BK700
        clear BK708
        clear HB
        have HO_685000 := n0_
        have HO_685001 := n1_
        have HO_701000 := n2_
        have HO_701001 := n3_
        have HO_709000 := n4_
        have HO_709001 := n5_
        have BK684 := n6_
        have BK700 := n7_
        have BK708 := n8_
        have HB := n9_
        clear n0_ n1_ n2_ n3_ n4_ n5_ n6_ n7_ n8_ n9_
        refine start_ (n := 6) (S := fun w' => w'.cell? ⟨gb684, 0, none⟩ = some (.slice Ao7 t677.length co7) ∧ w'.cell? ⟨gb684, 1, none⟩ = some (.slice Ao9 t680.length co9)) (ds := []) #[false, false, false, false, false, false] (by kernel_rfl) rfl rfl ⟨(blk_cell BK684.out 0).trans rfl, (blk_cell BK684.out 1).trans rfl⟩ (fun hHeld => ?_)
        generalize wc.drew = w208 at HO_685000 HO_685001 HO_701000 HO_701001 HO_709000 HO_709001 BK684 BK700 BK708 HB hHeld ⊢
        refine take_ (i := 0) (N := some 61) (v := ?_) (a' := ?_) #[true, false, false, false, false, false] rfl rfl (by kernel_rfl) (fun _ _ _ h => h) (Or.inl ⟨by rfl, ?_⟩) hHeld ?_ ?_
        rotate_left
        ·rintro w' ⟨s0, s1⟩
         go_simp
         with_reducible rfl
        rotate_left
        ·simp only [Act.put, List.setIfInBounds_toArray, List.set_cons_zero, List.set_cons_succ, i64_w, i32_w]
         rfl
        refine take_ (i := 2) (N := some 63) (v := ?_) (a' := ?_) #[true, false, true, false, false, false] rfl rfl (by kernel_rfl) (fun _ _ _ h => h) (Or.inl ⟨by rfl, ?_⟩) hHeld ?_ ?_
        rotate_left
        ·rintro w' ⟨s0, s1⟩
         go_simp
         with_reducible rfl
        rotate_left
        ·simp only [Act.put, List.setIfInBounds_toArray, List.set_cons_zero, List.set_cons_succ, i64_w, i32_w]
         rfl
        refine one_ (i := 1) (N := some 62) #[true, true, true, false, false, false] rfl rfl (by kernel_rfl) (by decide) (fun K hK => ?_)
        refine goes_ Try.func20 (by kernel_rfl) rfl #[.agg #[.slice Ao7 t677.length co7, .slice Ao9 t680.length co9]] (by rfl) rfl rfl (ar__) ?_
        with_reducible refine (impl_ValidLog.calls kj18 (fun k_ => some k_ = (ob__ Ao7 t677.length co7)) _ _ t677 (fun k_ => some k_ = (ob__ Ao9 t680.length co9)) _ _ t680 t711 _ ?side1 ?side2 A206.out).mono ?_
        (case side1 => exact Kd.R_V (Kd.R_tight rfl (Kd.R_types (Kd.R_types (Kd.R_types (HO_685000.out) BK684.out (by decide)) BK700.out (by decide)) BK708.out (by decide))))
        (case side2 => exact Kd.R_V (Kd.R_tight rfl (Kd.R_types (Kd.R_types (Kd.R_types (HO_685001.out) BK684.out (by decide)) BK700.out (by decide)) BK708.out (by decide))))
        rintro e w209 ⟨rfl, hb⟩
        refine ⟨_, rfl, ?_⟩
        have n0_ := Aside0.mk (Kd.R_below (rr__ HO_685000.out) hb)
        have n1_ := Aside0.mk (Kd.R_below (rr__ HO_685001.out) hb)
        have n2_ := Aside0.mk (Kd.R_below (rr__ HO_701000.out) hb)
        have n3_ := Aside0.mk (Kd.R_below (rr__ HO_701001.out) hb)
        have n4_ := Aside0.mk (Kd.R_below (rr__ HO_709000.out) hb)
        have n5_ := Aside0.mk (Kd.R_below (rr__ HO_709001.out) hb)
        have n6_ := Aside0.mk (blb__ BK684.out hb)
        have n7_ := Aside0.mk (blb__ BK700.out hb)
        have n8_ := Aside0.mk (blb__ BK708.out hb)
        have n9_ := Aside0.mk (below_step (bel__) hb)
        clear HO_685000
        clear HO_685001
        clear HO_701000
        clear HO_701001
        clear HO_709000
        clear HO_709001
        clear BK684
        clear BK700
        clear BK708
        clear HB
        have HO_685000 := n0_
        have HO_685001 := n1_
        have HO_701000 := n2_
        have HO_701001 := n3_
        have HO_709000 := n4_
        have HO_709001 := n5_
        have BK684 := n6_
        have BK700 := n7_
        have BK708 := n8_
        have HB := n9_
        clear n0_ n1_ n2_ n3_ n4_ n5_ n6_ n7_ n8_ n9_
        (try clear hb)
        (try clear hb2)
        (try clear hk)
        (try clear hi)
        refine hK.out _ _ ⟨(blk_cell BK684.out 0).trans rfl, (blk_cell BK684.out 1).trans rfl⟩ (fun hHeld => ?_)
        clear hK K
        refine na__ 62 ?_
        refine one_ (i := 3) (N := some 64) #[true, true, true, true, false, false] rfl rfl (by kernel_rfl) (by decide) (fun K hK => ?_)
        refine goes_ Try.func18 (by kernel_rfl) rfl #[.agg #[.slice Ao7 t677.length co7, .slice Ao9 t680.length co9]] (by rfl) rfl rfl (ar__) ?_
        with_reducible refine (spec_ValidLog.calls kj18 _ _ t677 _ _ t680 t712 _ ?side1 ?side2 ?side3 ?side4 A207.out).mono ?_
        (case side1 => repeat (first | exact (Kd.R_reads' HO_685000.out).2.2 | (with_reducible refine Kd.C_alloc ?_ _) | (with_reducible refine Kd.C_drewN ?_ _) | (with_reducible refine Kd.C_drew ?_)))
        (case side2 => exact (Kd.R_reads' HO_685000.out).2.1)
        (case side3 => repeat (first | exact (Kd.R_reads' HO_685001.out).2.2 | (with_reducible refine Kd.C_alloc ?_ _) | (with_reducible refine Kd.C_drewN ?_ _) | (with_reducible refine Kd.C_drew ?_)))
        (case side4 => exact (Kd.R_reads' HO_685001.out).2.1)
        rintro e w210 ⟨rfl, hb⟩
        refine ⟨_, rfl, ?_⟩
        have n0_ := Aside0.mk (Kd.R_below (rr__ HO_685000.out) hb)
        have n1_ := Aside0.mk (Kd.R_below (rr__ HO_685001.out) hb)
        have n2_ := Aside0.mk (Kd.R_below (rr__ HO_701000.out) hb)
        have n3_ := Aside0.mk (Kd.R_below (rr__ HO_701001.out) hb)
        have n4_ := Aside0.mk (Kd.R_below (rr__ HO_709000.out) hb)
        have n5_ := Aside0.mk (Kd.R_below (rr__ HO_709001.out) hb)
        have n6_ := Aside0.mk (blb__ BK684.out hb)
        have n7_ := Aside0.mk (blb__ BK700.out hb)
        have n8_ := Aside0.mk (blb__ BK708.out hb)
        have n9_ := Aside0.mk (below_step (bel__) hb)
        clear HO_685000
        clear HO_685001
        clear HO_701000
        clear HO_701001
        clear HO_709000
        clear HO_709001
        clear BK684
        clear BK700
        clear BK708
        clear HB
        have HO_685000 := n0_
        have HO_685001 := n1_
        have HO_701000 := n2_
        have HO_701001 := n3_
        have HO_709000 := n4_
        have HO_709001 := n5_
        have BK684 := n6_
        have BK700 := n7_
        have BK708 := n8_
        have HB := n9_
        clear n0_ n1_ n2_ n3_ n4_ n5_ n6_ n7_ n8_ n9_
        (try clear hb)
        (try clear hb2)
        (try clear hk)
        (try clear hi)
        refine hK.out _ _ ⟨(blk_cell BK684.out 0).trans rfl, (blk_cell BK684.out 1).trans rfl⟩ (fun hHeld => ?_)
        clear hK K
        refine na__ 64 ?_
        refine pure_ (i := 4) (N := some 65) (v := ?_) (a' := ?_) #[true, true, true, true, true, false] rfl rfl (by kernel_rfl) (fun _ _ _ h => h) (Or.inl ⟨by rfl, ?_⟩) ?_ ?_
        rotate_left
        ·intro w'
         go_simp
         with_reducible rfl
        rotate_left
        ·simp only [Act.put, List.setIfInBounds_toArray, List.set_cons_zero, List.set_cons_succ, i64_w, i32_w]
         rfl
        refine pure_ (i := 5) (N := some 2) (v := ?_) (a' := ?_) #[true, true, true, true, true, true] rfl rfl (by kernel_rfl) (fun _ _ _ h => h) (Or.inl ⟨by rfl, ?_⟩) ?_ ?_
        rotate_left
        ·intro w'
         go_simp
         with_reducible rfl
        rotate_left
        ·simp only [Act.put, List.setIfInBounds_toArray, List.set_cons_zero, List.set_cons_succ, i64_w, i32_w]
         rfl
        refine done_ (by kernel_rfl) ?_
        try go_wp2
        go_ret
        exact ⟨by first | rfl | (simp [errW_none, errW_some] <;> rfl) | (simp [*, errW_none, errW_some] <;> rfl), bel__⟩
/-- THE ONE PURE STATEMENT of laws_FnLog: yours. -/
def laws_FnLog.Pure : Prop := ∀ (l0 : List Int), l0.length ≤ maxLen → l0.length * 1 ≤ 140737488351232 → (∀ x ∈ l0, (Lit.int .u8 x).wf = true) → ∃ k, laws_FnLog.f k l0 = some true
theorem laws_FnLog.walk (P : laws_FnLog.Pure) (a0 : Option Addr) (len0 cap0 : Nat) (z0 : List Int) (w : World) (w0 : (a0 = none ∧ len0 = 0 ∧ cap0 = 0 ∧ z0 = []) ∨ ∃ x, a0 = some x ∧ len0 ≤ cap0 ∧ cap0 ≤ maxLen ∧ z0.length = cap0 ∧ (∀ i, i < z0.length → w.cell? (x.add i) = some (.int .u8 (z0.getD i 0))) ∧ ∀ n ∈ z0, (Lit.int .u8 n).wf = true) (y0 : len0 * 1 ≤ 140737488351232) :
  Calls Try.prog 11 #[.slice a0 len0 cap0] w fun e w' => e = .returned (.bool true) ∧ Below w.heap.size w w' := by
 obtain ⟨l0, rfl, hr0, hm0, hw0, hc0⟩ := ReadsInt.ofRowC w0
 obtain ⟨k, h⟩ := P l0 hm0 y0 hw0
 refine (laws_FnLog.calls k _ _ l0 true w (Kd.C_of_reads (d := (0 : Int)) (h1 := fun _ => rfl) hr0) hc0 h).mono ?_
 rintro e w' ⟨rfl, hd⟩
 exact ⟨rfl, hd⟩
end Go.Proofs.Ytpnblgbkjbpeoaa.P
