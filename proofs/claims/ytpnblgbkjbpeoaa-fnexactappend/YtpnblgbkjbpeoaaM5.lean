/- Part 5 of the proof of FnExactAppendSaid: what it leans on. -/
import Derived.Test.YtpnblgbkjbpeoaaM1
import Derived.Test.YtpnblgbkjbpeoaaM2
import Derived.Test.YtpnblgbkjbpeoaaM3
import Derived.Test.YtpnblgbkjbpeoaaM4
import Derived.WalkKit
import Derived.ProofKit
import Derived.OpenShut
import Derived.ShutString
import Derived.ChangeOld
import Derived.Below
import Derived.SizedLaws
import Derived.Deep.Slices

namespace Go.Proofs.Ytpnblgbkjbpeoaa.P
open Go.RowKit Go.Proofs.YtpnblgbkjbpeoaaW.PrintWords Go.Proofs.YtpnblgbkjbpeoaaW.PrintLast Go.Proofs.YtpnblgbkjbpeoaaW.PrintMore
attribute [local go_sem] max2_int min2_int max_two min_two max_three min_three max_four min_four   -- for this text's walks alone
set_option linter.unusedVariables false
set_option linter.unusedSimpArgs false

/-! ### laws_FnExactAppend: function 10 -/
mutual
def laws_FnExactAppend.j0 : Nat → ByteArray → Int → Int → Bool → List ByteArray → List ByteArray → List ByteArray → List ByteArray → List ByteArray → List ByteArray → List ByteArray → List ByteArray → Option (Bool)
  | 0, _, _, _, _, _, _, _, _, _, _, _, _ => none
  | k + 1, x1, x7, x10, x47, x533000, x533001, x548000, x548001, x555000, x555001, x563000, x563001 => if x47 = true then (none) else ((laws_toLog.f k x533000 x533001).bind fun bt564 => ((laws_eqLog.f k x555000 x555001 bt564.1 bt564.2).bind fun t570 => (if t570 = true then ((laws_markLog.f k x555000 x555001 1).bind fun bt571 => (if bt571.1 < 0 then (laws_FnExactAppend.j1 k x1 x7 true x533000 x533001 x548000 x548001 x563000 x563001) else ((laws_eqLog.f k x563000 x563001 x548000 x548001).bind fun t574 => (if t574 = true then (laws_FnExactAppend.j1 k x1 x7 (x10 != x7) x533000 x533001 x548000 x548001 x563000 x563001) else (laws_FnExactAppend.j1 k x1 x7 true x533000 x533001 x548000 x548001 x563000 x563001))))) else (none))))
def laws_FnExactAppend.j1 : Nat → ByteArray → Int → Bool → List ByteArray → List ByteArray → List ByteArray → List ByteArray → List ByteArray → List ByteArray → Option (Bool)
  | 0, _, _, _, _, _, _, _, _, _ => none
  | k + 1, x1, x7, x68, x533000, x533001, x548000, x548001, x563000, x563001 => if x68 = true then (none) else ((laws_markLog.f k x563000 x563001 1).bind fun bt575 => ((laws_heldLog.f k bt575.2.1 bt575.2.2 1).bind fun t578 => (if t578 < 0 then (none) else (if t578 = bt575.1 then ((laws_toLog.f k x533000 x533001).bind fun bt579 => ((impl_Append.f k bt579.1 bt579.2 x1).bind fun bt585 => ((laws_eqLog.f k bt585.1 bt585.2.1 x548000 x548001).bind fun t593 => (if t593 = true then (laws_FnExactAppend.j2 k bt575.1 (bt585.2.2 != x7) bt575.2.1 bt575.2.2) else (laws_FnExactAppend.j2 k bt575.1 true bt575.2.1 bt575.2.2))))) else (none)))))
def laws_FnExactAppend.j2 : Nat → Int → Bool → List ByteArray → List ByteArray → Option (Bool)
  | 0, _, _, _, _ => none
  | k + 1, x12, x95, x563000, x563001 => if x95 = true then (none) else ((laws_heldLog.f k x563000 x563001 1).bind fun t594 => (if t594 < 0 then (none) else (if t594 = x12 then (some true) else (none))))
end
def laws_FnExactAppend.f (k : Nat) (l0_0 : List ByteArray) (l0_1 : List ByteArray) (a1 : ByteArray) : Option (Bool) := if (a1.size : Int) > 1048576 then (some true) else ((laws_szLog.f k l0_0 l0_1 1048576).bind fun t533 => (if t533 < 0 then (some true) else ((laws_toLog.f k l0_0 l0_1).bind fun bt534 => ((spec_Append.f k bt534.1 bt534.2 a1).bind fun bt540 => ((laws_toLog.f k l0_0 l0_1).bind fun bt548 => ((impl_Append.f k bt548.1 bt548.2 a1).bind fun bt555 => ((laws_eqLog.f k bt555.1 bt555.2.1 bt540.1 bt540.2.1).bind fun t563 => (if t563 = true then (laws_FnExactAppend.j0 k a1 bt540.2.2 bt555.2.2 (bt555.2.2 != bt540.2.2) l0_0 l0_1 bt540.1 bt540.2.1 bt548.1 bt548.2 bt555.1 bt555.2.1) else (laws_FnExactAppend.j0 k a1 bt540.2.2 bt555.2.2 true l0_0 l0_1 bt540.1 bt540.2.1 bt548.1 bt548.2 bt555.1 bt555.2.1)))))))))
theorem laws_FnExactAppend.mono_l : ∀ k, (∀ y0 y1 y2 y3 y4 y5 y6 y7 y8 y9 y10 y11, LeO (laws_FnExactAppend.j0 k y0 y1 y2 y3 y4 y5 y6 y7 y8 y9 y10 y11) (laws_FnExactAppend.j0 (k + 1) y0 y1 y2 y3 y4 y5 y6 y7 y8 y9 y10 y11)) ∧ (∀ y0 y1 y2 y3 y4 y5 y6 y7 y8, LeO (laws_FnExactAppend.j1 k y0 y1 y2 y3 y4 y5 y6 y7 y8) (laws_FnExactAppend.j1 (k + 1) y0 y1 y2 y3 y4 y5 y6 y7 y8)) ∧ (∀ y0 y1 y2 y3, LeO (laws_FnExactAppend.j2 k y0 y1 y2 y3) (laws_FnExactAppend.j2 (k + 1) y0 y1 y2 y3))
  | 0 => ⟨fun _ _ _ _ _ _ _ _ _ _ _ _ r h => by simp [laws_FnExactAppend.j0] at h, fun _ _ _ _ _ _ _ _ _ r h => by simp [laws_FnExactAppend.j1] at h, fun _ _ _ _ r h => by simp [laws_FnExactAppend.j2] at h⟩
  | k + 1 => by
    obtain ⟨ih0, ih1, ih2⟩ := laws_FnExactAppend.mono_l k
    refine ⟨?_, ?_, ?_⟩
    · intro y0 y1 y2 y3 y4 y5 y6 y7 y8 y9 y10 y11
      unfold laws_FnExactAppend.j0
      repeat' first
      | (with_reducible exact ih0 _ _ _ _ _ _ _ _ _ _ _ _)
      | (with_reducible exact ih1 _ _ _ _ _ _ _ _ _)
      | (with_reducible exact ih2 _ _ _ _)
      | (with_reducible exact impl_Append.mono _ _ _ _)
      | (with_reducible exact laws_eqLog.mono _ _ _ _ _)
      | (with_reducible exact laws_heldLog.mono _ _ _ _)
      | (with_reducible exact laws_markLog.mono _ _ _ _)
      | (with_reducible exact laws_szLog.mono _ _ _ _)
      | (with_reducible exact laws_toLog.mono _ _ _)
      | (with_reducible exact spec_Append.mono _ _ _ _)
      | (with_reducible exact LeO.refl _)
      | (with_reducible exact LeO.none _)
      | (with_reducible refine LeO.ite ?_ ?_)
      | (with_reducible refine LeO.bind ?_ (fun _ => ?_))
      | exact ih0 _ _ _ _ _ _ _ _ _ _ _ _
      | exact ih1 _ _ _ _ _ _ _ _ _
      | exact ih2 _ _ _ _
      | exact impl_Append.mono _ _ _ _
      | exact laws_eqLog.mono _ _ _ _ _
      | exact laws_heldLog.mono _ _ _ _
      | exact laws_markLog.mono _ _ _ _
      | exact laws_szLog.mono _ _ _ _
      | exact laws_toLog.mono _ _ _
      | exact spec_Append.mono _ _ _ _
      | exact LeO.none _
      | refine LeO.ite ?_ ?_
      | refine LeO.bind ?_ (fun _ => ?_)
    · intro y0 y1 y2 y3 y4 y5 y6 y7 y8
      unfold laws_FnExactAppend.j1
      repeat' first
      | (with_reducible exact ih0 _ _ _ _ _ _ _ _ _ _ _ _)
      | (with_reducible exact ih1 _ _ _ _ _ _ _ _ _)
      | (with_reducible exact ih2 _ _ _ _)
      | (with_reducible exact impl_Append.mono _ _ _ _)
      | (with_reducible exact laws_eqLog.mono _ _ _ _ _)
      | (with_reducible exact laws_heldLog.mono _ _ _ _)
      | (with_reducible exact laws_markLog.mono _ _ _ _)
      | (with_reducible exact laws_szLog.mono _ _ _ _)
      | (with_reducible exact laws_toLog.mono _ _ _)
      | (with_reducible exact spec_Append.mono _ _ _ _)
      | (with_reducible exact LeO.refl _)
      | (with_reducible exact LeO.none _)
      | (with_reducible refine LeO.ite ?_ ?_)
      | (with_reducible refine LeO.bind ?_ (fun _ => ?_))
      | exact ih0 _ _ _ _ _ _ _ _ _ _ _ _
      | exact ih1 _ _ _ _ _ _ _ _ _
      | exact ih2 _ _ _ _
      | exact impl_Append.mono _ _ _ _
      | exact laws_eqLog.mono _ _ _ _ _
      | exact laws_heldLog.mono _ _ _ _
      | exact laws_markLog.mono _ _ _ _
      | exact laws_szLog.mono _ _ _ _
      | exact laws_toLog.mono _ _ _
      | exact spec_Append.mono _ _ _ _
      | exact LeO.none _
      | refine LeO.ite ?_ ?_
      | refine LeO.bind ?_ (fun _ => ?_)
    · intro y0 y1 y2 y3
      unfold laws_FnExactAppend.j2
      repeat' first
      | (with_reducible exact ih0 _ _ _ _ _ _ _ _ _ _ _ _)
      | (with_reducible exact ih1 _ _ _ _ _ _ _ _ _)
      | (with_reducible exact ih2 _ _ _ _)
      | (with_reducible exact impl_Append.mono _ _ _ _)
      | (with_reducible exact laws_eqLog.mono _ _ _ _ _)
      | (with_reducible exact laws_heldLog.mono _ _ _ _)
      | (with_reducible exact laws_markLog.mono _ _ _ _)
      | (with_reducible exact laws_szLog.mono _ _ _ _)
      | (with_reducible exact laws_toLog.mono _ _ _)
      | (with_reducible exact spec_Append.mono _ _ _ _)
      | (with_reducible exact LeO.refl _)
      | (with_reducible exact LeO.none _)
      | (with_reducible refine LeO.ite ?_ ?_)
      | (with_reducible refine LeO.bind ?_ (fun _ => ?_))
      | exact ih0 _ _ _ _ _ _ _ _ _ _ _ _
      | exact ih1 _ _ _ _ _ _ _ _ _
      | exact ih2 _ _ _ _
      | exact impl_Append.mono _ _ _ _
      | exact laws_eqLog.mono _ _ _ _ _
      | exact laws_heldLog.mono _ _ _ _
      | exact laws_markLog.mono _ _ _ _
      | exact laws_szLog.mono _ _ _ _
      | exact laws_toLog.mono _ _ _
      | exact spec_Append.mono _ _ _ _
      | exact LeO.none _
      | refine LeO.ite ?_ ?_
      | refine LeO.bind ?_ (fun _ => ?_)
theorem laws_FnExactAppend.mono : ∀ a0 a1 a2 k, LeO (laws_FnExactAppend.f k a0 a1 a2) (laws_FnExactAppend.f (k + 1) a0 a1 a2) := by
  intro a0 a1 a2 k
  obtain ⟨ih0, ih1, ih2⟩ := laws_FnExactAppend.mono_l k
  unfold laws_FnExactAppend.f
  repeat' first
      | (with_reducible exact ih0 _ _ _ _ _ _ _ _ _ _ _ _)
      | (with_reducible exact ih1 _ _ _ _ _ _ _ _ _)
      | (with_reducible exact ih2 _ _ _ _)
      | (with_reducible exact impl_Append.mono _ _ _ _)
      | (with_reducible exact laws_eqLog.mono _ _ _ _ _)
      | (with_reducible exact laws_heldLog.mono _ _ _ _)
      | (with_reducible exact laws_markLog.mono _ _ _ _)
      | (with_reducible exact laws_szLog.mono _ _ _ _)
      | (with_reducible exact laws_toLog.mono _ _ _)
      | (with_reducible exact spec_Append.mono _ _ _ _)
      | (with_reducible exact LeO.refl _)
      | (with_reducible exact LeO.none _)
      | (with_reducible refine LeO.ite ?_ ?_)
      | (with_reducible refine LeO.bind ?_ (fun _ => ?_))
      | exact ih0 _ _ _ _ _ _ _ _ _ _ _ _
      | exact ih1 _ _ _ _ _ _ _ _ _
      | exact ih2 _ _ _ _
      | exact impl_Append.mono _ _ _ _
      | exact laws_eqLog.mono _ _ _ _ _
      | exact laws_heldLog.mono _ _ _ _
      | exact laws_markLog.mono _ _ _ _
      | exact laws_szLog.mono _ _ _ _
      | exact laws_toLog.mono _ _ _
      | exact spec_Append.mono _ _ _ _
      | exact LeO.none _
      | refine LeO.ite ?_ ?_
      | refine LeO.bind ?_ (fun _ => ?_)
set_option maxHeartbeats 8000000 in
set_option maxRecDepth 100000 in
theorem laws_FnExactAppend.calls (k : Nat) (A0_0 : Option Addr) (c0_0 : Nat) (l0_0 : List ByteArray) (A0_1 : Option Addr) (c0_1 : Nat) (l0_1 : List ByteArray) (a1 : ByteArray) (r : Bool) (w : World) (hr0_0 : Kd.C Kd.string w A0_0 l0_0.length l0_0) (hc0_0 : l0_0.length ≤ c0_0) (hr0_1 : Kd.C Kd.string w A0_1 l0_1.length l0_1) (hc0_1 : l0_1.length ≤ c0_1) (h : laws_FnExactAppend.f k l0_0 l0_1 a1 = some r) :
    Calls Try.prog 10 #[.agg #[.slice A0_0 l0_0.length c0_0, .slice A0_1 l0_1.length c0_1], .string a1] w fun e w' => e = .returned (.bool r) ∧ Below w.heap.size w w' := by
  have hu27 := Try.underlying27
  have hu30 := Try.underlying30
  have HR0_0 := Aside0.mk hr0_0
  have HC0_0 := Aside0.mk hc0_0
  clear hr0_0 hc0_0
  have HR0_1 := Aside0.mk hr0_1
  have HC0_1 := Aside0.mk hc0_1
  clear hr0_1 hc0_1
  have HB := Aside0.mk (Below.refl w.heap.size w)
  have H : (if (a1.size : Int) > 1048576 then (some true) else ((laws_szLog.f k l0_0 l0_1 1048576).bind fun t533 => (if t533 < 0 then (some true) else ((laws_toLog.f k l0_0 l0_1).bind fun bt534 => ((spec_Append.f k bt534.1 bt534.2 a1).bind fun bt540 => ((laws_toLog.f k l0_0 l0_1).bind fun bt548 => ((impl_Append.f k bt548.1 bt548.2 a1).bind fun bt555 => ((laws_eqLog.f k bt555.1 bt555.2.1 bt540.1 bt540.2.1).bind fun t563 => (if t563 = true then (laws_FnExactAppend.j0 k a1 bt540.2.2 bt555.2.2 (bt555.2.2 != bt540.2.2) l0_0 l0_1 bt540.1 bt540.2.1 bt548.1 bt548.2 bt555.1 bt555.2.1) else (laws_FnExactAppend.j0 k a1 bt540.2.2 bt555.2.2 true l0_0 l0_1 bt540.1 bt540.2.1 bt548.1 bt548.2 bt555.1 bt555.2.1)))))))))) = some r := h
  clear h
  by_cases c3 : (a1.size : Int) > 1048576
  · rw [if_pos c3] at H
    have c3b0 : decide (1048576 < (a1.size : Int)) = true := decide_eq_true c3
    have c3b1 : decide (1048576 < a1.size) = true := decide_eq_true (by omega)
    clear c3
    obtain rfl := Option.some.inj H
    go_enter Try.func10, Try.ntmps10
    go_wp2_with (first | ((with_reducible refine gate_dst (N := 2) rfl ?_); refine box_event ?hg (N := 2) ?hd (cs := #[.slice A0_0 l0_0.length c0_0, .slice A0_1 l0_1.length c0_1]) (t := 27) ?hr ?_; (case hd => rfl); (case hg => rfl); (case hr => first | (go_simp; done) | (go_simp; rfl)); intro gb532 hg w4 hbox hb; have n0_ := Aside0.mk (below_step (by repeat (first | (with_reducible first | exact HB.out | apply below_alloc | apply pw_below_drewN | apply below_drew1) | exact HB.out)) hb); have n1_ := Aside0.mk (hbox); have n2_ := Aside0.mk ((by rw [hg]; exact (below_size (by repeat (first | (with_reducible first | exact HB.out | apply below_alloc | apply pw_below_drewN | apply below_drew1) | exact HB.out))) : w.heap.size ≤ gb532)); have n3_ := Aside0.mk ((by rw [hg]; exact (below_size (by repeat (first | (with_reducible first | exact HB.out | apply below_alloc | apply pw_below_drewN | apply below_drew1) | exact HB.out))) : w.heap.size ≤ gb532)); clear HB; have HB := n0_; have BK532 := n1_; have GW532 := n2_; have GE532 := n3_; clear n0_ n1_ n2_ n3_; clear hb hbox hg))
    go_ret
    exact ⟨by first | rfl | (simp [errW_none, errW_some] <;> rfl) | (simp [*, errW_none, errW_some] <;> rfl), by repeat (first | (with_reducible first | exact HB.out | apply below_alloc | apply pw_below_drewN | apply below_drew1 | refine below_set ?_ GE532.out) | exact HB.out)⟩
  · rw [if_neg c3] at H
    have c3b0 : decide (1048576 < (a1.size : Int)) = false := decide_eq_false c3
    have c3b1 : decide (1048576 < a1.size) = false := decide_eq_false (by omega)
    clear c3
    replace H := Option.bind_eq_some_iff.mp H
    obtain ⟨t533, A50, H⟩ := H
    replace H : (if t533 < 0 then (some true) else ((laws_toLog.f k l0_0 l0_1).bind fun bt534 => ((spec_Append.f k bt534.1 bt534.2 a1).bind fun bt540 => ((laws_toLog.f k l0_0 l0_1).bind fun bt548 => ((impl_Append.f k bt548.1 bt548.2 a1).bind fun bt555 => ((laws_eqLog.f k bt555.1 bt555.2.1 bt540.1 bt540.2.1).bind fun t563 => (if t563 = true then (laws_FnExactAppend.j0 k a1 bt540.2.2 bt555.2.2 (bt555.2.2 != bt540.2.2) l0_0 l0_1 bt540.1 bt540.2.1 bt548.1 bt548.2 bt555.1 bt555.2.1) else (laws_FnExactAppend.j0 k a1 bt540.2.2 bt555.2.2 true l0_0 l0_1 bt540.1 bt540.2.1 bt548.1 bt548.2 bt555.1 bt555.2.1)))))))) = some r := H
    have A5 := Aside0.mk A50
    clear A50
    by_cases c6 : t533 < 0
    · rw [if_pos c6] at H
      have c6b0 : decide (t533 < 0) = true := decide_eq_true c6
      clear c6
      obtain rfl := Option.some.inj H
      go_enter Try.func10, Try.ntmps10
      go_wp2_with (first | ((with_reducible refine gate_dst (N := 2) rfl ?_); refine box_event ?hg (N := 2) ?hd (cs := #[.slice A0_0 l0_0.length c0_0, .slice A0_1 l0_1.length c0_1]) (t := 27) ?hr ?_; (case hd => rfl); (case hg => rfl); (case hr => first | (go_simp; done) | (go_simp; rfl)); intro gb532 hg w7 hbox hb; have n0_ := Aside0.mk (below_step (by repeat (first | (with_reducible first | exact HB.out | apply below_alloc | apply pw_below_drewN | apply below_drew1) | exact HB.out)) hb); have n1_ := Aside0.mk (hbox); have n2_ := Aside0.mk ((by rw [hg]; exact (below_size (by repeat (first | (with_reducible first | exact HB.out | apply below_alloc | apply pw_below_drewN | apply below_drew1) | exact HB.out))) : w.heap.size ≤ gb532)); have n3_ := Aside0.mk ((by rw [hg]; exact (below_size (by repeat (first | (with_reducible first | exact HB.out | apply below_alloc | apply pw_below_drewN | apply below_drew1) | exact HB.out))) : w.heap.size ≤ gb532)); clear HB; have HB := n0_; have BK532 := n1_; have GW532 := n2_; have GE532 := n3_; clear n0_ n1_ n2_ n3_; clear hb hbox hg; have hcz8_0 : w7.cell? ⟨gb532, 0, none⟩ = some (.slice A0_0 l0_0.length c0_0) := (blk_cell BK532.out 0).trans rfl; have hcz8_1 : w7.cell? ⟨gb532, 1, none⟩ = some (.slice A0_1 l0_1.length c0_1) := (blk_cell BK532.out 1).trans rfl; have hfz8_0 := blk_frozen BK532.out 0; have hfz8_1 := blk_frozen BK532.out 1) | ((with_reducible refine gate_callee (f := 17) rfl ?_); refine goesL_ (some 21) rfl rfl Try.func17 (by kernel_rfl) rfl #[.agg #[.slice A0_0 l0_0.length c0_0, .slice A0_1 l0_1.length c0_1], .int .i64 1048576] rfl (by (try simp only [List.map_toArray, List.map_cons, List.map_nil]); first | done | rfl | (simp only [List.length_drop, List.length_take]; rfl)) ?_; (with_reducible refine (laws_szLog.calls k _ _ l0_0 _ _ l0_1 1048576 t533 _ ?side1 ?side2 ?side3 ?side4 A5.out).mono ?_); (case side1 => repeat (first | exact (Kd.C_below HR0_0.out HB.out) | (with_reducible refine Kd.C_alloc ?_ _) | (with_reducible refine Kd.C_drewN ?_ _) | (with_reducible refine Kd.C_drew ?_))); (case side2 => exact HC0_0.out); (case side3 => repeat (first | exact (Kd.C_below HR0_1.out HB.out) | (with_reducible refine Kd.C_alloc ?_ _) | (with_reducible refine Kd.C_drewN ?_ _) | (with_reducible refine Kd.C_drew ?_))); (case side4 => exact HC0_1.out); rintro e w9 ⟨rfl, hb⟩; refine ⟨_, rfl, ?_⟩; have n0_ := Aside0.mk (blk_below (g := gb532) (o := .cells #[.slice A0_0 l0_0.length c0_0, .slice A0_1 l0_1.length c0_1] 27 (0, 0)) (by (with_reducible repeat (first | refine blk_drewN ?_ _ | refine blk_drew ?_ | refine blk_alloc ?_ _)); exact BK532.out) hb); have n1_ := Aside0.mk (below_step (by repeat (first | (with_reducible first | exact HB.out | apply below_alloc | apply pw_below_drewN | apply below_drew1 | refine below_set ?_ GE532.out) | exact HB.out)) hb); clear BK532; clear HB; have BK532 := n0_; have HB := n1_; clear n0_ n1_; (try clear hb); (try clear hb2); (try clear hk); (try clear hi)))
      go_ret
      exact ⟨by first | rfl | (simp [errW_none, errW_some] <;> rfl) | (simp [*, errW_none, errW_some] <;> rfl), by repeat (first | (with_reducible first | exact HB.out | apply below_alloc | apply pw_below_drewN | apply below_drew1 | refine below_set ?_ GE532.out) | exact HB.out)⟩
    · rw [if_neg c6] at H
      have c6b0 : decide (t533 < 0) = false := decide_eq_false c6
      clear c6
      replace H := Option.bind_eq_some_iff.mp H
      obtain ⟨⟨t534, t537⟩, A100, H⟩ := H
      replace H : ((spec_Append.f k t534 t537 a1).bind fun bt540 => ((laws_toLog.f k l0_0 l0_1).bind fun bt548 => ((impl_Append.f k bt548.1 bt548.2 a1).bind fun bt555 => ((laws_eqLog.f k bt555.1 bt555.2.1 bt540.1 bt540.2.1).bind fun t563 => (if t563 = true then (laws_FnExactAppend.j0 k a1 bt540.2.2 bt555.2.2 (bt555.2.2 != bt540.2.2) l0_0 l0_1 bt540.1 bt540.2.1 bt548.1 bt548.2 bt555.1 bt555.2.1) else (laws_FnExactAppend.j0 k a1 bt540.2.2 bt555.2.2 true l0_0 l0_1 bt540.1 bt540.2.1 bt548.1 bt548.2 bt555.1 bt555.2.1)))))) = some r := H
      have A10 := Aside0.mk A100
      clear A100
      replace H := Option.bind_eq_some_iff.mp H
      obtain ⟨⟨t540, t543, t546⟩, A110, H⟩ := H
      replace H : ((laws_toLog.f k l0_0 l0_1).bind fun bt548 => ((impl_Append.f k bt548.1 bt548.2 a1).bind fun bt555 => ((laws_eqLog.f k bt555.1 bt555.2.1 t540 t543).bind fun t563 => (if t563 = true then (laws_FnExactAppend.j0 k a1 t546 bt555.2.2 (bt555.2.2 != t546) l0_0 l0_1 t540 t543 bt548.1 bt548.2 bt555.1 bt555.2.1) else (laws_FnExactAppend.j0 k a1 t546 bt555.2.2 true l0_0 l0_1 t540 t543 bt548.1 bt548.2 bt555.1 bt555.2.1))))) = some r := H
      have A11 := Aside0.mk A110
      clear A110
      replace H := Option.bind_eq_some_iff.mp H
      obtain ⟨⟨t548, t551⟩, A120, H⟩ := H
      replace H : ((impl_Append.f k t548 t551 a1).bind fun bt555 => ((laws_eqLog.f k bt555.1 bt555.2.1 t540 t543).bind fun t563 => (if t563 = true then (laws_FnExactAppend.j0 k a1 t546 bt555.2.2 (bt555.2.2 != t546) l0_0 l0_1 t540 t543 t548 t551 bt555.1 bt555.2.1) else (laws_FnExactAppend.j0 k a1 t546 bt555.2.2 true l0_0 l0_1 t540 t543 t548 t551 bt555.1 bt555.2.1)))) = some r := H
      have A12 := Aside0.mk A120
      clear A120
      replace H := Option.bind_eq_some_iff.mp H
      obtain ⟨⟨t555, t558, t561⟩, A130, H⟩ := H
      replace H : ((laws_eqLog.f k t555 t558 t540 t543).bind fun t563 => (if t563 = true then (laws_FnExactAppend.j0 k a1 t546 t561 (t561 != t546) l0_0 l0_1 t540 t543 t548 t551 t555 t558) else (laws_FnExactAppend.j0 k a1 t546 t561 true l0_0 l0_1 t540 t543 t548 t551 t555 t558))) = some r := H
      have A13 := Aside0.mk A130
      clear A130
      have HC14 := Aside0.mk H
      clear H
      go_enter Try.func10, Try.ntmps10
      go_upto_region 10 with (first | ((with_reducible refine gate_dst (N := 2) rfl ?_); refine box_event ?hg (N := 2) ?hd (cs := #[.slice A0_0 l0_0.length c0_0, .slice A0_1 l0_1.length c0_1]) (t := 27) ?hr ?_; (case hd => rfl); (case hg => rfl); (case hr => first | (go_simp; done) | (go_simp; rfl)); intro gb532 hg w15 hbox hb; have n0_ := Aside0.mk (below_step (by repeat (first | (with_reducible first | exact HB.out | apply below_alloc | apply pw_below_drewN | apply below_drew1) | exact HB.out)) hb); have n1_ := Aside0.mk (hbox); have n2_ := Aside0.mk ((by rw [hg]; exact (below_size (by repeat (first | (with_reducible first | exact HB.out | apply below_alloc | apply pw_below_drewN | apply below_drew1) | exact HB.out))) : w.heap.size ≤ gb532)); have n3_ := Aside0.mk ((by rw [hg]; exact (below_size (by repeat (first | (with_reducible first | exact HB.out | apply below_alloc | apply pw_below_drewN | apply below_drew1) | exact HB.out))) : w.heap.size ≤ gb532)); clear HB; have HB := n0_; have BK532 := n1_; have GW532 := n2_; have GE532 := n3_; clear n0_ n1_ n2_ n3_; clear hb hbox hg; have hcz16_0 : w15.cell? ⟨gb532, 0, none⟩ = some (.slice A0_0 l0_0.length c0_0) := (blk_cell BK532.out 0).trans rfl; have hcz16_1 : w15.cell? ⟨gb532, 1, none⟩ = some (.slice A0_1 l0_1.length c0_1) := (blk_cell BK532.out 1).trans rfl; have hfz16_0 := blk_frozen BK532.out 0; have hfz16_1 := blk_frozen BK532.out 1) | ((with_reducible refine gate_callee (f := 17) rfl ?_); refine goesL_ (some 21) rfl rfl Try.func17 (by kernel_rfl) rfl #[.agg #[.slice A0_0 l0_0.length c0_0, .slice A0_1 l0_1.length c0_1], .int .i64 1048576] rfl (by (try simp only [List.map_toArray, List.map_cons, List.map_nil]); first | done | rfl | (simp only [List.length_drop, List.length_take]; rfl)) ?_; (with_reducible refine (laws_szLog.calls k _ _ l0_0 _ _ l0_1 1048576 t533 _ ?side1 ?side2 ?side3 ?side4 A5.out).mono ?_); (case side1 => repeat (first | exact (Kd.C_below HR0_0.out HB.out) | (with_reducible refine Kd.C_alloc ?_ _) | (with_reducible refine Kd.C_drewN ?_ _) | (with_reducible refine Kd.C_drew ?_))); (case side2 => exact HC0_0.out); (case side3 => repeat (first | exact (Kd.C_below HR0_1.out HB.out) | (with_reducible refine Kd.C_alloc ?_ _) | (with_reducible refine Kd.C_drewN ?_ _) | (with_reducible refine Kd.C_drew ?_))); (case side4 => exact HC0_1.out); rintro e w17 ⟨rfl, hb⟩; refine ⟨_, rfl, ?_⟩; have n0_ := Aside0.mk (blk_below (g := gb532) (o := .cells #[.slice A0_0 l0_0.length c0_0, .slice A0_1 l0_1.length c0_1] 27 (0, 0)) (by (with_reducible repeat (first | refine blk_drewN ?_ _ | refine blk_drew ?_ | refine blk_alloc ?_ _)); exact BK532.out) hb); have n1_ := Aside0.mk (below_step (by repeat (first | (with_reducible first | exact HB.out | apply below_alloc | apply pw_below_drewN | apply below_drew1 | refine below_set ?_ GE532.out) | exact HB.out)) hb); clear BK532; clear HB; have BK532 := n0_; have HB := n1_; clear n0_ n1_; (try clear hb); (try clear hb2); (try clear hk); (try clear hi); have hcz18_0 : w17.cell? ⟨gb532, 0, none⟩ = some (.slice A0_0 l0_0.length c0_0) := (blk_cell BK532.out 0).trans rfl; have hcz18_1 : w17.cell? ⟨gb532, 1, none⟩ = some (.slice A0_1 l0_1.length c0_1) := (blk_cell BK532.out 1).trans rfl; have hfz18_0 := blk_frozen BK532.out 0; have hfz18_1 := blk_frozen BK532.out 1) | ((with_reducible refine gate_callee (f := 19) rfl ?_); refine goesL_ (some 26) rfl rfl Try.func19 (by kernel_rfl) rfl #[.agg #[.slice A0_0 l0_0.length c0_0, .slice A0_1 l0_1.length c0_1]] rfl (by (try simp only [List.map_toArray, List.map_cons, List.map_nil]); first | done | rfl | (simp only [List.length_drop, List.length_take]; rfl)) ?_; (with_reducible refine (laws_toLog.calls k _ _ l0_0 _ _ l0_1 t534 t537 _ ?side1 ?side2 ?side3 ?side4 A10.out).mono ?_); (case side1 => repeat (first | exact (Kd.C_below HR0_0.out HB.out) | (with_reducible refine Kd.C_alloc ?_ _) | (with_reducible refine Kd.C_drewN ?_ _) | (with_reducible refine Kd.C_drew ?_))); (case side2 => exact HC0_0.out); (case side3 => repeat (first | exact (Kd.C_below HR0_1.out HB.out) | (with_reducible refine Kd.C_alloc ?_ _) | (with_reducible refine Kd.C_drewN ?_ _) | (with_reducible refine Kd.C_drew ?_))); (case side4 => exact HC0_1.out); rintro e w19 ⟨v535, v538, rfl, ho0, ho1, hb⟩; refine ⟨_, rfl, ?_⟩; have n0_ := Aside0.mk (Kd.R_lower ho0 (below_size (by repeat (first | (with_reducible first | exact HB.out | apply below_alloc | apply pw_below_drewN | apply below_drew1 | refine below_set ?_ GE532.out) | exact HB.out)))); have n1_ := Aside0.mk (Kd.R_lower ho1 (below_size (by repeat (first | (with_reducible first | exact HB.out | apply below_alloc | apply pw_below_drewN | apply below_drew1 | refine below_set ?_ GE532.out) | exact HB.out)))); have n2_ := Aside0.mk (blk_below (g := gb532) (o := .cells #[.slice A0_0 l0_0.length c0_0, .slice A0_1 l0_1.length c0_1] 27 (0, 0)) (by (with_reducible repeat (first | refine blk_drewN ?_ _ | refine blk_drew ?_ | refine blk_alloc ?_ _)); exact BK532.out) hb); have n3_ := Aside0.mk (below_step (by repeat (first | (with_reducible first | exact HB.out | apply below_alloc | apply pw_below_drewN | apply below_drew1 | refine below_set ?_ GE532.out) | exact HB.out)) hb); clear BK532; clear HB; have HO536 := n0_; have HO539 := n1_; have BK532 := n2_; have HB := n3_; clear n0_ n1_ n2_ n3_; (try clear hb); (try clear hb2); (try clear hk); (try clear hi); (try clear ho0); (try clear ho1); obtain ⟨Ao20, co20, eo20⟩ := Kd.R_slice HO536.out; subst eo20; obtain ⟨Ao21, co21, eo21⟩ := Kd.R_slice HO539.out; subst eo21) | ((with_reducible refine gate_callee (f := 37) rfl ?_); refine goesL_ (some 28) rfl rfl Try.func37 (by kernel_rfl) rfl #[.agg #[.slice Ao20 t534.length co20, .slice Ao21 t537.length co21], .string a1] rfl (by (try simp only [List.map_toArray, List.map_cons, List.map_nil]); first | done | rfl | (simp only [List.length_drop, List.length_take]; rfl)) ?_; (with_reducible refine (spec_Append.calls k _ _ t534 _ _ t537 a1 t540 t543 t546 _ ?side1 ?side2 ?side3 ?side4 A11.out).mono ?_); (case side1 => repeat (first | exact (Kd.R_reads' HO536.out).2.2 | (with_reducible refine Kd.C_alloc ?_ _) | (with_reducible refine Kd.C_drewN ?_ _) | (with_reducible refine Kd.C_drew ?_))); (case side2 => exact (Kd.R_reads' HO536.out).2.1); (case side3 => repeat (first | exact (Kd.R_reads' HO539.out).2.2 | (with_reducible refine Kd.C_alloc ?_ _) | (with_reducible refine Kd.C_drewN ?_ _) | (with_reducible refine Kd.C_drew ?_))); (case side4 => exact (Kd.R_reads' HO539.out).2.1); rintro e w22 ⟨v541, v544, rfl, ho0, ho1, hb⟩; refine ⟨_, rfl, ?_⟩; have n0_ := Aside0.mk (Kd.R_mono (Kd.R_told (Kd.R_told (Kd.R_old (by (with_reducible repeat (first | apply Kd.R_alloc | apply Kd.R_drewN | apply Kd.R_drew)); exact HO536.out) hb) (Kd.R_base ho0)) (Kd.R_base ho1)) (fun _ h_ => h_.1)); have n1_ := Aside0.mk (Kd.R_mono (Kd.R_told (Kd.R_told (Kd.R_old (by (with_reducible repeat (first | apply Kd.R_alloc | apply Kd.R_drewN | apply Kd.R_drew)); exact HO539.out) hb) (Kd.R_base ho0)) (Kd.R_base ho1)) (fun _ h_ => h_.1)); have n2_ := Aside0.mk (Kd.R_lower (Kd.R_new' (Kd.R_new' ho0 (Kd.R_lt (by (with_reducible repeat (first | apply Kd.R_alloc | apply Kd.R_drewN | apply Kd.R_drew)); exact HO536.out))) (Kd.R_lt (by (with_reducible repeat (first | apply Kd.R_alloc | apply Kd.R_drewN | apply Kd.R_drew)); exact HO539.out))) (below_size (by repeat (first | (with_reducible first | exact HB.out | apply below_alloc | apply pw_below_drewN | apply below_drew1 | refine below_set ?_ GE532.out) | exact HB.out)))); have n3_ := Aside0.mk (Kd.R_lower (Kd.R_new' (Kd.R_new' ho1 (Kd.R_lt (by (with_reducible repeat (first | apply Kd.R_alloc | apply Kd.R_drewN | apply Kd.R_drew)); exact HO536.out))) (Kd.R_lt (by (with_reducible repeat (first | apply Kd.R_alloc | apply Kd.R_drewN | apply Kd.R_drew)); exact HO539.out))) (below_size (by repeat (first | (with_reducible first | exact HB.out | apply below_alloc | apply pw_below_drewN | apply below_drew1 | refine below_set ?_ GE532.out) | exact HB.out)))); have n4_ := Aside0.mk (blk_below (g := gb532) (o := .cells #[.slice A0_0 l0_0.length c0_0, .slice A0_1 l0_1.length c0_1] 27 (0, 0)) (by (with_reducible repeat (first | refine blk_drewN ?_ _ | refine blk_drew ?_ | refine blk_alloc ?_ _)); exact BK532.out) hb); have n5_ := Aside0.mk (below_step (by repeat (first | (with_reducible first | exact HB.out | apply below_alloc | apply pw_below_drewN | apply below_drew1 | refine below_set ?_ GE532.out) | exact HB.out)) hb); clear HO536; clear HO539; clear BK532; clear HB; have HO536 := n0_; have HO539 := n1_; have HO542 := n2_; have HO545 := n3_; have BK532 := n4_; have HB := n5_; clear n0_ n1_ n2_ n3_ n4_ n5_; (try clear hb); (try clear hb2); (try clear hk); (try clear hi); (try clear ho0); (try clear ho1)) | ((with_reducible refine gate_dst (N := 6) rfl ?_); refine box_event ?hg (N := 6) ?hd (cs := #[.slice none 0 0, .slice none 0 0]) (t := 30) ?hr ?_; (case hd => rfl); (case hg => rfl); (case hr => first | (go_simp; done) | (go_simp; rfl)); intro gb547 hg w23 hbox hb; have n0_ := Aside0.mk (Kd.R_below (by (with_reducible repeat (first | apply Kd.R_alloc | apply Kd.R_drewN | apply Kd.R_drew)); exact HO536.out) hb); have n1_ := Aside0.mk (Kd.R_below (by (with_reducible repeat (first | apply Kd.R_alloc | apply Kd.R_drewN | apply Kd.R_drew)); exact HO539.out) hb); have n2_ := Aside0.mk (Kd.R_below (by (with_reducible repeat (first | apply Kd.R_alloc | apply Kd.R_drewN | apply Kd.R_drew)); exact HO542.out) hb); have n3_ := Aside0.mk (Kd.R_below (by (with_reducible repeat (first | apply Kd.R_alloc | apply Kd.R_drewN | apply Kd.R_drew)); exact HO545.out) hb); have n4_ := Aside0.mk (blk_below (g := gb532) (o := .cells #[.slice A0_0 l0_0.length c0_0, .slice A0_1 l0_1.length c0_1] 27 (0, 0)) (by (with_reducible repeat (first | refine blk_drewN ?_ _ | refine blk_drew ?_ | refine blk_alloc ?_ _)); exact BK532.out) hb); have n5_ := Aside0.mk (below_step (by repeat (first | (with_reducible first | exact HB.out | apply below_alloc | apply pw_below_drewN | apply below_drew1 | refine below_set ?_ GE532.out) | exact HB.out)) hb); have n6_ := Aside0.mk (hbox); have n7_ := Aside0.mk ((by rw [hg]; exact (below_size (by repeat (first | (with_reducible first | exact HB.out | apply below_alloc | apply pw_below_drewN | apply below_drew1 | refine below_set ?_ GE532.out) | exact HB.out))) : w.heap.size ≤ gb547)); have n8_ := Aside0.mk ((by rw [hg]; exact (below_size (by repeat (first | (with_reducible first | exact HB.out | apply below_alloc | apply pw_below_drewN | apply below_drew1 | refine below_set ?_ GE532.out) | exact HB.out))) : w.heap.size ≤ gb547)); have n9_ := Aside0.mk ((by rw [hg]; exact Nat.ne_of_lt (blk_lt (g := gb532) (o := .cells #[.slice A0_0 l0_0.length c0_0, .slice A0_1 l0_1.length c0_1] 27 (0, 0)) (by (with_reducible repeat (first | refine blk_drewN ?_ _ | refine blk_drew ?_ | refine blk_alloc ?_ _)); exact BK532.out)) : gb532 ≠ gb547)); have n10_ := Aside0.mk ((by rw [hg]; exact Nat.ne_of_gt (blk_lt (g := gb532) (o := .cells #[.slice A0_0 l0_0.length c0_0, .slice A0_1 l0_1.length c0_1] 27 (0, 0)) (by (with_reducible repeat (first | refine blk_drewN ?_ _ | refine blk_drew ?_ | refine blk_alloc ?_ _)); exact BK532.out)) : gb547 ≠ gb532)); clear HO536; clear HO539; clear HO542; clear HO545; clear BK532; clear HB; have HO536 := n0_; have HO539 := n1_; have HO542 := n2_; have HO545 := n3_; have BK532 := n4_; have HB := n5_; have BK547 := n6_; have GW547 := n7_; have GE547 := n8_; have NB532_547 := n9_; have NB547_532 := n10_; clear n0_ n1_ n2_ n3_ n4_ n5_ n6_ n7_ n8_ n9_ n10_; clear hb hbox hg; obtain ⟨Ao24, co24, eo24⟩ := Kd.R_slice HO542.out; subst eo24; have hnb25 := NB547_532.out; have hnc25 := NB532_547.out; have hcz26_0 : w23.cell? ⟨gb547, 0, none⟩ = some (.slice none 0 0) := (blk_cell BK547.out 0).trans rfl; have hcz26_1 : w23.cell? ⟨gb547, 1, none⟩ = some (.slice none 0 0) := (blk_cell BK547.out 1).trans rfl; have hfz26_0 := blk_frozen BK547.out 0; have hfz26_1 := blk_frozen BK547.out 1; obtain ⟨Ao27, co27, eo27⟩ := Kd.R_slice HO545.out; subst eo27; have hcz28_0 : w23.cell? ⟨gb532, 0, none⟩ = some (.slice A0_0 l0_0.length c0_0) := (blk_cell BK532.out 0).trans rfl; have hcz28_1 : w23.cell? ⟨gb532, 1, none⟩ = some (.slice A0_1 l0_1.length c0_1) := (blk_cell BK532.out 1).trans rfl; have hfz28_0 := blk_frozen BK532.out 0; have hfz28_1 := blk_frozen BK532.out 1) | ((with_reducible refine gate_callee (f := 19) rfl ?_); refine goesL_ (some 32) rfl rfl Try.func19 (by kernel_rfl) rfl #[.agg #[.slice A0_0 l0_0.length c0_0, .slice A0_1 l0_1.length c0_1]] rfl (by (try simp only [List.map_toArray, List.map_cons, List.map_nil]); first | done | rfl | (simp only [List.length_drop, List.length_take]; rfl)) ?_; (with_reducible refine (laws_toLog.calls k _ _ l0_0 _ _ l0_1 t548 t551 _ ?side1 ?side2 ?side3 ?side4 A12.out).mono ?_); (case side1 => exact Kd.C_below HR0_0.out (by repeat (first | (with_reducible first | exact HB.out | apply below_alloc | apply pw_below_drewN | apply below_drew1 | refine below_set ?_ GE532.out | refine below_set ?_ GE547.out) | exact HB.out))); (case side2 => exact HC0_0.out); (case side3 => exact Kd.C_below HR0_1.out (by repeat (first | (with_reducible first | exact HB.out | apply below_alloc | apply pw_below_drewN | apply below_drew1 | refine below_set ?_ GE532.out | refine below_set ?_ GE547.out) | exact HB.out))); (case side4 => exact HC0_1.out); rintro e w29 ⟨v549, v552, rfl, ho0, ho1, hb⟩; refine ⟨_, rfl, ?_⟩; have n0_ := Aside0.mk (Kd.R_mono (Kd.R_told (Kd.R_told (Kd.R_old (by (with_reducible repeat (first | apply Kd.R_alloc | apply Kd.R_drewN | apply Kd.R_drew)); exact (Kd.R_mono (Kd.R_far (p := ⟨gb547, 1, none⟩) (Kd.R_far (p := ⟨gb547, 0, none⟩) (Kd.R_types HO536.out BK547.out (by decide)) (fun _ hk => hk.2) (.slice Ao24 t540.length co24)) (fun _ hk => hk.2) (.slice Ao27 t543.length co27)) (fun _ h_ => h_.1))) hb) (Kd.R_base ho0)) (Kd.R_base ho1)) (fun _ h_ => h_.1)); have n1_ := Aside0.mk (Kd.R_mono (Kd.R_told (Kd.R_told (Kd.R_old (by (with_reducible repeat (first | apply Kd.R_alloc | apply Kd.R_drewN | apply Kd.R_drew)); exact (Kd.R_mono (Kd.R_far (p := ⟨gb547, 1, none⟩) (Kd.R_far (p := ⟨gb547, 0, none⟩) (Kd.R_types HO539.out BK547.out (by decide)) (fun _ hk => hk.2) (.slice Ao24 t540.length co24)) (fun _ hk => hk.2) (.slice Ao27 t543.length co27)) (fun _ h_ => h_.1))) hb) (Kd.R_base ho0)) (Kd.R_base ho1)) (fun _ h_ => h_.1)); have n2_ := Aside0.mk (Kd.R_mono (Kd.R_told (Kd.R_told (Kd.R_old (by (with_reducible repeat (first | apply Kd.R_alloc | apply Kd.R_drewN | apply Kd.R_drew)); exact (Kd.R_mono (Kd.R_far (p := ⟨gb547, 1, none⟩) (Kd.R_far (p := ⟨gb547, 0, none⟩) (Kd.R_types HO542.out BK547.out (by decide)) (fun _ hk => hk.2) (.slice Ao24 t540.length co24)) (fun _ hk => hk.2) (.slice Ao27 t543.length co27)) (fun _ h_ => h_.1))) hb) (Kd.R_base ho0)) (Kd.R_base ho1)) (fun _ h_ => h_.1)); have n3_ := Aside0.mk (Kd.R_mono (Kd.R_told (Kd.R_told (Kd.R_old (by (with_reducible repeat (first | apply Kd.R_alloc | apply Kd.R_drewN | apply Kd.R_drew)); exact (Kd.R_mono (Kd.R_far (p := ⟨gb547, 1, none⟩) (Kd.R_far (p := ⟨gb547, 0, none⟩) (Kd.R_types HO545.out BK547.out (by decide)) (fun _ hk => hk.2) (.slice Ao24 t540.length co24)) (fun _ hk => hk.2) (.slice Ao27 t543.length co27)) (fun _ h_ => h_.1))) hb) (Kd.R_base ho0)) (Kd.R_base ho1)) (fun _ h_ => h_.1)); have n4_ := Aside0.mk (Kd.R_lower (Kd.R_new' (Kd.R_new' (Kd.R_new' (Kd.R_new' ho0 (Kd.R_lt (by (with_reducible repeat (first | apply Kd.R_alloc | apply Kd.R_drewN | apply Kd.R_drew)); exact (Kd.R_mono (Kd.R_far (p := ⟨gb547, 1, none⟩) (Kd.R_far (p := ⟨gb547, 0, none⟩) (Kd.R_types HO536.out BK547.out (by decide)) (fun _ hk => hk.2) (.slice Ao24 t540.length co24)) (fun _ hk => hk.2) (.slice Ao27 t543.length co27)) (fun _ h_ => h_.1))))) (Kd.R_lt (by (with_reducible repeat (first | apply Kd.R_alloc | apply Kd.R_drewN | apply Kd.R_drew)); exact (Kd.R_mono (Kd.R_far (p := ⟨gb547, 1, none⟩) (Kd.R_far (p := ⟨gb547, 0, none⟩) (Kd.R_types HO539.out BK547.out (by decide)) (fun _ hk => hk.2) (.slice Ao24 t540.length co24)) (fun _ hk => hk.2) (.slice Ao27 t543.length co27)) (fun _ h_ => h_.1))))) (Kd.R_lt (by (with_reducible repeat (first | apply Kd.R_alloc | apply Kd.R_drewN | apply Kd.R_drew)); exact (Kd.R_mono (Kd.R_far (p := ⟨gb547, 1, none⟩) (Kd.R_far (p := ⟨gb547, 0, none⟩) (Kd.R_types HO542.out BK547.out (by decide)) (fun _ hk => hk.2) (.slice Ao24 t540.length co24)) (fun _ hk => hk.2) (.slice Ao27 t543.length co27)) (fun _ h_ => h_.1))))) (Kd.R_lt (by (with_reducible repeat (first | apply Kd.R_alloc | apply Kd.R_drewN | apply Kd.R_drew)); exact (Kd.R_mono (Kd.R_far (p := ⟨gb547, 1, none⟩) (Kd.R_far (p := ⟨gb547, 0, none⟩) (Kd.R_types HO545.out BK547.out (by decide)) (fun _ hk => hk.2) (.slice Ao24 t540.length co24)) (fun _ hk => hk.2) (.slice Ao27 t543.length co27)) (fun _ h_ => h_.1))))) (below_size (by repeat (first | (with_reducible first | exact HB.out | apply below_alloc | apply pw_below_drewN | apply below_drew1 | refine below_set ?_ GE532.out | refine below_set ?_ GE547.out) | exact HB.out)))); have n5_ := Aside0.mk (Kd.R_lower (Kd.R_new' (Kd.R_new' (Kd.R_new' (Kd.R_new' ho1 (Kd.R_lt (by (with_reducible repeat (first | apply Kd.R_alloc | apply Kd.R_drewN | apply Kd.R_drew)); exact (Kd.R_mono (Kd.R_far (p := ⟨gb547, 1, none⟩) (Kd.R_far (p := ⟨gb547, 0, none⟩) (Kd.R_types HO536.out BK547.out (by decide)) (fun _ hk => hk.2) (.slice Ao24 t540.length co24)) (fun _ hk => hk.2) (.slice Ao27 t543.length co27)) (fun _ h_ => h_.1))))) (Kd.R_lt (by (with_reducible repeat (first | apply Kd.R_alloc | apply Kd.R_drewN | apply Kd.R_drew)); exact (Kd.R_mono (Kd.R_far (p := ⟨gb547, 1, none⟩) (Kd.R_far (p := ⟨gb547, 0, none⟩) (Kd.R_types HO539.out BK547.out (by decide)) (fun _ hk => hk.2) (.slice Ao24 t540.length co24)) (fun _ hk => hk.2) (.slice Ao27 t543.length co27)) (fun _ h_ => h_.1))))) (Kd.R_lt (by (with_reducible repeat (first | apply Kd.R_alloc | apply Kd.R_drewN | apply Kd.R_drew)); exact (Kd.R_mono (Kd.R_far (p := ⟨gb547, 1, none⟩) (Kd.R_far (p := ⟨gb547, 0, none⟩) (Kd.R_types HO542.out BK547.out (by decide)) (fun _ hk => hk.2) (.slice Ao24 t540.length co24)) (fun _ hk => hk.2) (.slice Ao27 t543.length co27)) (fun _ h_ => h_.1))))) (Kd.R_lt (by (with_reducible repeat (first | apply Kd.R_alloc | apply Kd.R_drewN | apply Kd.R_drew)); exact (Kd.R_mono (Kd.R_far (p := ⟨gb547, 1, none⟩) (Kd.R_far (p := ⟨gb547, 0, none⟩) (Kd.R_types HO545.out BK547.out (by decide)) (fun _ hk => hk.2) (.slice Ao24 t540.length co24)) (fun _ hk => hk.2) (.slice Ao27 t543.length co27)) (fun _ h_ => h_.1))))) (below_size (by repeat (first | (with_reducible first | exact HB.out | apply below_alloc | apply pw_below_drewN | apply below_drew1 | refine below_set ?_ GE532.out | refine below_set ?_ GE547.out) | exact HB.out)))); have n6_ := Aside0.mk (blk_below (g := gb532) (o := .cells #[.slice A0_0 l0_0.length c0_0, .slice A0_1 l0_1.length c0_1] 27 (0, 0)) (by (with_reducible repeat (first | refine blk_drewN ?_ _ | refine blk_drew ?_ | refine blk_alloc ?_ _)); refine blk_far ?_ NB532_547.out _; (with_reducible repeat (first | refine blk_drewN ?_ _ | refine blk_drew ?_ | refine blk_alloc ?_ _)); refine blk_far ?_ NB532_547.out _; (with_reducible repeat (first | refine blk_drewN ?_ _ | refine blk_drew ?_ | refine blk_alloc ?_ _)); exact BK532.out) hb); have n7_ := Aside0.mk (blk_below (g := gb547) (o := .cells #[.slice Ao24 t540.length co24, .slice Ao27 t543.length co27] 30 (0, 0)) (by (with_reducible repeat (first | refine blk_drewN ?_ _ | refine blk_drew ?_ | refine blk_alloc ?_ _)); refine blk_put (cs := #[.slice Ao24 t540.length co24, .slice none 0 0]) ?_ 1 _ rfl; (with_reducible repeat (first | refine blk_drewN ?_ _ | refine blk_drew ?_ | refine blk_alloc ?_ _)); refine blk_put (cs := #[.slice none 0 0, .slice none 0 0]) ?_ 0 _ rfl; (with_reducible repeat (first | refine blk_drewN ?_ _ | refine blk_drew ?_ | refine blk_alloc ?_ _)); exact BK547.out) hb); have n8_ := Aside0.mk (below_step (by repeat (first | (with_reducible first | exact HB.out | apply below_alloc | apply pw_below_drewN | apply below_drew1 | refine below_set ?_ GE532.out | refine below_set ?_ GE547.out) | exact HB.out)) hb); clear HO536; clear HO539; clear HO542; clear HO545; clear BK532; clear BK547; clear HB; have HO536 := n0_; have HO539 := n1_; have HO542 := n2_; have HO545 := n3_; have HO550 := n4_; have HO553 := n5_; have BK532 := n6_; have BK547 := n7_; have HB := n8_; clear n0_ n1_ n2_ n3_ n4_ n5_ n6_ n7_ n8_; (try clear hb); (try clear hb2); (try clear hk); (try clear hi); (try clear ho0); (try clear ho1)) | ((with_reducible refine gate_dst (N := 8) rfl ?_); refine box_event ?hg (N := 8) ?hd (cs := #[.slice none 0 0, .slice none 0 0]) (t := 30) ?hr ?_; (case hd => rfl); (case hg => rfl); (case hr => first | (go_simp; done) | (go_simp; rfl)); intro gb554 hg w30 hbox hb; have n0_ := Aside0.mk (Kd.R_below (by (with_reducible repeat (first | apply Kd.R_alloc | apply Kd.R_drewN | apply Kd.R_drew)); exact HO536.out) hb); have n1_ := Aside0.mk (Kd.R_below (by (with_reducible repeat (first | apply Kd.R_alloc | apply Kd.R_drewN | apply Kd.R_drew)); exact HO539.out) hb); have n2_ := Aside0.mk (Kd.R_below (by (with_reducible repeat (first | apply Kd.R_alloc | apply Kd.R_drewN | apply Kd.R_drew)); exact HO542.out) hb); have n3_ := Aside0.mk (Kd.R_below (by (with_reducible repeat (first | apply Kd.R_alloc | apply Kd.R_drewN | apply Kd.R_drew)); exact HO545.out) hb); have n4_ := Aside0.mk (Kd.R_below (by (with_reducible repeat (first | apply Kd.R_alloc | apply Kd.R_drewN | apply Kd.R_drew)); exact HO550.out) hb); have n5_ := Aside0.mk (Kd.R_below (by (with_reducible repeat (first | apply Kd.R_alloc | apply Kd.R_drewN | apply Kd.R_drew)); exact HO553.out) hb); have n6_ := Aside0.mk (blk_below (g := gb532) (o := .cells #[.slice A0_0 l0_0.length c0_0, .slice A0_1 l0_1.length c0_1] 27 (0, 0)) (by (with_reducible repeat (first | refine blk_drewN ?_ _ | refine blk_drew ?_ | refine blk_alloc ?_ _)); exact BK532.out) hb); have n7_ := Aside0.mk (blk_below (g := gb547) (o := .cells #[.slice Ao24 t540.length co24, .slice Ao27 t543.length co27] 30 (0, 0)) (by (with_reducible repeat (first | refine blk_drewN ?_ _ | refine blk_drew ?_ | refine blk_alloc ?_ _)); exact BK547.out) hb); have n8_ := Aside0.mk (below_step (by repeat (first | (with_reducible first | exact HB.out | apply below_alloc | apply pw_below_drewN | apply below_drew1 | refine below_set ?_ GE532.out | refine below_set ?_ GE547.out) | exact HB.out)) hb); have n9_ := Aside0.mk (hbox); have n10_ := Aside0.mk ((by rw [hg]; exact (below_size (by repeat (first | (with_reducible first | exact HB.out | apply below_alloc | apply pw_below_drewN | apply below_drew1 | refine below_set ?_ GE532.out | refine below_set ?_ GE547.out) | exact HB.out))) : w.heap.size ≤ gb554)); have n11_ := Aside0.mk ((by rw [hg]; exact (below_size (by repeat (first | (with_reducible first | exact HB.out | apply below_alloc | apply pw_below_drewN | apply below_drew1 | refine below_set ?_ GE532.out | refine below_set ?_ GE547.out) | exact HB.out))) : w.heap.size ≤ gb554)); have n12_ := Aside0.mk ((by rw [hg]; exact Nat.ne_of_lt (blk_lt (g := gb532) (o := .cells #[.slice A0_0 l0_0.length c0_0, .slice A0_1 l0_1.length c0_1] 27 (0, 0)) (by (with_reducible repeat (first | refine blk_drewN ?_ _ | refine blk_drew ?_ | refine blk_alloc ?_ _)); exact BK532.out)) : gb532 ≠ gb554)); have n13_ := Aside0.mk ((by rw [hg]; exact Nat.ne_of_gt (blk_lt (g := gb532) (o := .cells #[.slice A0_0 l0_0.length c0_0, .slice A0_1 l0_1.length c0_1] 27 (0, 0)) (by (with_reducible repeat (first | refine blk_drewN ?_ _ | refine blk_drew ?_ | refine blk_alloc ?_ _)); exact BK532.out)) : gb554 ≠ gb532)); have n14_ := Aside0.mk ((by rw [hg]; exact Nat.ne_of_lt (blk_lt (g := gb547) (o := .cells #[.slice Ao24 t540.length co24, .slice Ao27 t543.length co27] 30 (0, 0)) (by (with_reducible repeat (first | refine blk_drewN ?_ _ | refine blk_drew ?_ | refine blk_alloc ?_ _)); exact BK547.out)) : gb547 ≠ gb554)); have n15_ := Aside0.mk ((by rw [hg]; exact Nat.ne_of_gt (blk_lt (g := gb547) (o := .cells #[.slice Ao24 t540.length co24, .slice Ao27 t543.length co27] 30 (0, 0)) (by (with_reducible repeat (first | refine blk_drewN ?_ _ | refine blk_drew ?_ | refine blk_alloc ?_ _)); exact BK547.out)) : gb554 ≠ gb547)); clear HO536; clear HO539; clear HO542; clear HO545; clear HO550; clear HO553; clear BK532; clear BK547; clear HB; have HO536 := n0_; have HO539 := n1_; have HO542 := n2_; have HO545 := n3_; have HO550 := n4_; have HO553 := n5_; have BK532 := n6_; have BK547 := n7_; have HB := n8_; have BK554 := n9_; have GW554 := n10_; have GE554 := n11_; have NB532_554 := n12_; have NB554_532 := n13_; have NB547_554 := n14_; have NB554_547 := n15_; clear n0_ n1_ n2_ n3_ n4_ n5_ n6_ n7_ n8_ n9_ n10_ n11_ n12_ n13_ n14_ n15_; clear hb hbox hg; obtain ⟨Ao31, co31, eo31⟩ := Kd.R_slice HO550.out; subst eo31; have hnb32 := NB554_532.out; have hnc32 := NB532_554.out; have hnb33 := NB554_547.out; have hnc33 := NB547_554.out; have hcz34_0 : w30.cell? ⟨gb554, 0, none⟩ = some (.slice none 0 0) := (blk_cell BK554.out 0).trans rfl; have hcz34_1 : w30.cell? ⟨gb554, 1, none⟩ = some (.slice none 0 0) := (blk_cell BK554.out 1).trans rfl; have hfz34_0 := blk_frozen BK554.out 0; have hfz34_1 := blk_frozen BK554.out 1; obtain ⟨Ao35, co35, eo35⟩ := Kd.R_slice HO553.out; subst eo35) | ((with_reducible refine gate_callee (f := 38) rfl ?_); refine goesL_ (some 36) rfl rfl Try.func38 (by kernel_rfl) rfl #[.agg #[.slice Ao31 t548.length co31, .slice Ao35 t551.length co35], .string a1] rfl (by (try simp only [List.map_toArray, List.map_cons, List.map_nil]); first | done | rfl | (simp only [List.length_drop, List.length_take]; rfl)) ?_; (with_reducible refine (impl_Append.calls k _ _ t548 _ _ t551 a1 t555 t558 t561 _ ?side1 ?side2 ?side3 ?side4 A13.out).mono ?_); (case side1 => refine (Kd.R_reads' (e := 9) (base := w.heap.size) (ok := fun k_ => ((((some k_ ≠ (.slice Ao35 t551.length co35 : Value).ownBlock ∧ some k_ ≠ (.slice Ao20 t534.length co20 : Value).ownBlock) ∧ some k_ ≠ (.slice Ao21 t537.length co21 : Value).ownBlock) ∧ some k_ ≠ (.slice Ao24 t540.length co24 : Value).ownBlock) ∧ some k_ ≠ (.slice Ao27 t543.length co27 : Value).ownBlock)) (n := t548.length) (c := co31) ?_).2.2; exact (by (with_reducible repeat (first | apply Kd.R_alloc | apply Kd.R_drewN | apply Kd.R_drew)); exact (Kd.R_mono (Kd.R_far (p := ⟨gb554, 1, none⟩) (Kd.R_far (p := ⟨gb554, 0, none⟩) (Kd.R_types HO550.out BK554.out (by decide)) (fun _ hk => hk.2) (.slice Ao31 t548.length co31)) (fun _ hk => hk.2) (.slice Ao35 t551.length co35)) (fun _ h_ => h_.1)))); (case side2 => exact (Kd.R_reads' HO550.out).2.1); (case side3 => refine (Kd.R_reads' (e := 9) (base := w.heap.size) (ok := fun k_ => ((((some k_ ≠ (.slice Ao31 t548.length co31 : Value).ownBlock ∧ some k_ ≠ (.slice Ao20 t534.length co20 : Value).ownBlock) ∧ some k_ ≠ (.slice Ao21 t537.length co21 : Value).ownBlock) ∧ some k_ ≠ (.slice Ao24 t540.length co24 : Value).ownBlock) ∧ some k_ ≠ (.slice Ao27 t543.length co27 : Value).ownBlock)) (n := t551.length) (c := co35) ?_).2.2; exact (by (with_reducible repeat (first | apply Kd.R_alloc | apply Kd.R_drewN | apply Kd.R_drew)); exact (Kd.R_mono (Kd.R_far (p := ⟨gb554, 1, none⟩) (Kd.R_far (p := ⟨gb554, 0, none⟩) (Kd.R_types HO553.out BK554.out (by decide)) (fun _ hk => hk.2) (.slice Ao31 t548.length co31)) (fun _ hk => hk.2) (.slice Ao35 t551.length co35)) (fun _ h_ => h_.1)))); (case side4 => exact (Kd.R_reads' HO553.out).2.1); rintro e w36 ⟨v556, v559, rfl, ho0, ho1, hb⟩; refine ⟨_, rfl, ?_⟩; have n0_ := Aside0.mk (Kd.R_mono (Kd.R_told (Kd.R_told (Kd.R_old (by (with_reducible repeat (first | apply Kd.R_alloc | apply Kd.R_drewN | apply Kd.R_drew)); exact (Kd.R_mono (Kd.R_far (p := ⟨gb554, 1, none⟩) (Kd.R_far (p := ⟨gb554, 0, none⟩) (Kd.R_types HO536.out BK554.out (by decide)) (fun _ hk => hk.2) (.slice Ao31 t548.length co31)) (fun _ hk => hk.2) (.slice Ao35 t551.length co35)) (fun _ h_ => h_.1))) hb) (Kd.R_base ho0)) (Kd.R_base ho1)) (fun _ h_ => h_.1)); have n1_ := Aside0.mk (Kd.R_mono (Kd.R_told (Kd.R_told (Kd.R_old (by (with_reducible repeat (first | apply Kd.R_alloc | apply Kd.R_drewN | apply Kd.R_drew)); exact (Kd.R_mono (Kd.R_far (p := ⟨gb554, 1, none⟩) (Kd.R_far (p := ⟨gb554, 0, none⟩) (Kd.R_types HO539.out BK554.out (by decide)) (fun _ hk => hk.2) (.slice Ao31 t548.length co31)) (fun _ hk => hk.2) (.slice Ao35 t551.length co35)) (fun _ h_ => h_.1))) hb) (Kd.R_base ho0)) (Kd.R_base ho1)) (fun _ h_ => h_.1)); have n2_ := Aside0.mk (Kd.R_mono (Kd.R_told (Kd.R_told (Kd.R_old (by (with_reducible repeat (first | apply Kd.R_alloc | apply Kd.R_drewN | apply Kd.R_drew)); exact (Kd.R_mono (Kd.R_far (p := ⟨gb554, 1, none⟩) (Kd.R_far (p := ⟨gb554, 0, none⟩) (Kd.R_types HO542.out BK554.out (by decide)) (fun _ hk => hk.2) (.slice Ao31 t548.length co31)) (fun _ hk => hk.2) (.slice Ao35 t551.length co35)) (fun _ h_ => h_.1))) hb) (Kd.R_base ho0)) (Kd.R_base ho1)) (fun _ h_ => h_.1)); have n3_ := Aside0.mk (Kd.R_mono (Kd.R_told (Kd.R_told (Kd.R_old (by (with_reducible repeat (first | apply Kd.R_alloc | apply Kd.R_drewN | apply Kd.R_drew)); exact (Kd.R_mono (Kd.R_far (p := ⟨gb554, 1, none⟩) (Kd.R_far (p := ⟨gb554, 0, none⟩) (Kd.R_types HO545.out BK554.out (by decide)) (fun _ hk => hk.2) (.slice Ao31 t548.length co31)) (fun _ hk => hk.2) (.slice Ao35 t551.length co35)) (fun _ h_ => h_.1))) hb) (Kd.R_base ho0)) (Kd.R_base ho1)) (fun _ h_ => h_.1)); have n4_ := Aside0.mk (Kd.R_mono (Kd.R_told (Kd.R_told (Kd.R_old (by (with_reducible repeat (first | apply Kd.R_alloc | apply Kd.R_drewN | apply Kd.R_drew)); exact (Kd.R_mono (Kd.R_far (p := ⟨gb554, 1, none⟩) (Kd.R_far (p := ⟨gb554, 0, none⟩) (Kd.R_types HO550.out BK554.out (by decide)) (fun _ hk => hk.2) (.slice Ao31 t548.length co31)) (fun _ hk => hk.2) (.slice Ao35 t551.length co35)) (fun _ h_ => h_.1))) hb) (Kd.R_base ho0)) (Kd.R_base ho1)) (fun _ h_ => h_.1)); have n5_ := Aside0.mk (Kd.R_mono (Kd.R_told (Kd.R_told (Kd.R_old (by (with_reducible repeat (first | apply Kd.R_alloc | apply Kd.R_drewN | apply Kd.R_drew)); exact (Kd.R_mono (Kd.R_far (p := ⟨gb554, 1, none⟩) (Kd.R_far (p := ⟨gb554, 0, none⟩) (Kd.R_types HO553.out BK554.out (by decide)) (fun _ hk => hk.2) (.slice Ao31 t548.length co31)) (fun _ hk => hk.2) (.slice Ao35 t551.length co35)) (fun _ h_ => h_.1))) hb) (Kd.R_base ho0)) (Kd.R_base ho1)) (fun _ h_ => h_.1)); have n6_ := Aside0.mk (Kd.R_lower (Kd.R_new' (Kd.R_new' (Kd.R_new' (Kd.R_new' (Kd.R_new' (Kd.R_new' ho0 (Kd.R_lt (by (with_reducible repeat (first | apply Kd.R_alloc | apply Kd.R_drewN | apply Kd.R_drew)); exact (Kd.R_mono (Kd.R_far (p := ⟨gb554, 1, none⟩) (Kd.R_far (p := ⟨gb554, 0, none⟩) (Kd.R_types HO536.out BK554.out (by decide)) (fun _ hk => hk.2) (.slice Ao31 t548.length co31)) (fun _ hk => hk.2) (.slice Ao35 t551.length co35)) (fun _ h_ => h_.1))))) (Kd.R_lt (by (with_reducible repeat (first | apply Kd.R_alloc | apply Kd.R_drewN | apply Kd.R_drew)); exact (Kd.R_mono (Kd.R_far (p := ⟨gb554, 1, none⟩) (Kd.R_far (p := ⟨gb554, 0, none⟩) (Kd.R_types HO539.out BK554.out (by decide)) (fun _ hk => hk.2) (.slice Ao31 t548.length co31)) (fun _ hk => hk.2) (.slice Ao35 t551.length co35)) (fun _ h_ => h_.1))))) (Kd.R_lt (by (with_reducible repeat (first | apply Kd.R_alloc | apply Kd.R_drewN | apply Kd.R_drew)); exact (Kd.R_mono (Kd.R_far (p := ⟨gb554, 1, none⟩) (Kd.R_far (p := ⟨gb554, 0, none⟩) (Kd.R_types HO542.out BK554.out (by decide)) (fun _ hk => hk.2) (.slice Ao31 t548.length co31)) (fun _ hk => hk.2) (.slice Ao35 t551.length co35)) (fun _ h_ => h_.1))))) (Kd.R_lt (by (with_reducible repeat (first | apply Kd.R_alloc | apply Kd.R_drewN | apply Kd.R_drew)); exact (Kd.R_mono (Kd.R_far (p := ⟨gb554, 1, none⟩) (Kd.R_far (p := ⟨gb554, 0, none⟩) (Kd.R_types HO545.out BK554.out (by decide)) (fun _ hk => hk.2) (.slice Ao31 t548.length co31)) (fun _ hk => hk.2) (.slice Ao35 t551.length co35)) (fun _ h_ => h_.1))))) (Kd.R_lt (by (with_reducible repeat (first | apply Kd.R_alloc | apply Kd.R_drewN | apply Kd.R_drew)); exact (Kd.R_mono (Kd.R_far (p := ⟨gb554, 1, none⟩) (Kd.R_far (p := ⟨gb554, 0, none⟩) (Kd.R_types HO550.out BK554.out (by decide)) (fun _ hk => hk.2) (.slice Ao31 t548.length co31)) (fun _ hk => hk.2) (.slice Ao35 t551.length co35)) (fun _ h_ => h_.1))))) (Kd.R_lt (by (with_reducible repeat (first | apply Kd.R_alloc | apply Kd.R_drewN | apply Kd.R_drew)); exact (Kd.R_mono (Kd.R_far (p := ⟨gb554, 1, none⟩) (Kd.R_far (p := ⟨gb554, 0, none⟩) (Kd.R_types HO553.out BK554.out (by decide)) (fun _ hk => hk.2) (.slice Ao31 t548.length co31)) (fun _ hk => hk.2) (.slice Ao35 t551.length co35)) (fun _ h_ => h_.1))))) (below_size (by repeat (first | (with_reducible first | exact HB.out | apply below_alloc | apply pw_below_drewN | apply below_drew1 | refine below_set ?_ GE532.out | refine below_set ?_ GE547.out | refine below_set ?_ GE554.out) | exact HB.out)))); have n7_ := Aside0.mk (Kd.R_lower (Kd.R_new' (Kd.R_new' (Kd.R_new' (Kd.R_new' (Kd.R_new' (Kd.R_new' ho1 (Kd.R_lt (by (with_reducible repeat (first | apply Kd.R_alloc | apply Kd.R_drewN | apply Kd.R_drew)); exact (Kd.R_mono (Kd.R_far (p := ⟨gb554, 1, none⟩) (Kd.R_far (p := ⟨gb554, 0, none⟩) (Kd.R_types HO536.out BK554.out (by decide)) (fun _ hk => hk.2) (.slice Ao31 t548.length co31)) (fun _ hk => hk.2) (.slice Ao35 t551.length co35)) (fun _ h_ => h_.1))))) (Kd.R_lt (by (with_reducible repeat (first | apply Kd.R_alloc | apply Kd.R_drewN | apply Kd.R_drew)); exact (Kd.R_mono (Kd.R_far (p := ⟨gb554, 1, none⟩) (Kd.R_far (p := ⟨gb554, 0, none⟩) (Kd.R_types HO539.out BK554.out (by decide)) (fun _ hk => hk.2) (.slice Ao31 t548.length co31)) (fun _ hk => hk.2) (.slice Ao35 t551.length co35)) (fun _ h_ => h_.1))))) (Kd.R_lt (by (with_reducible repeat (first | apply Kd.R_alloc | apply Kd.R_drewN | apply Kd.R_drew)); exact (Kd.R_mono (Kd.R_far (p := ⟨gb554, 1, none⟩) (Kd.R_far (p := ⟨gb554, 0, none⟩) (Kd.R_types HO542.out BK554.out (by decide)) (fun _ hk => hk.2) (.slice Ao31 t548.length co31)) (fun _ hk => hk.2) (.slice Ao35 t551.length co35)) (fun _ h_ => h_.1))))) (Kd.R_lt (by (with_reducible repeat (first | apply Kd.R_alloc | apply Kd.R_drewN | apply Kd.R_drew)); exact (Kd.R_mono (Kd.R_far (p := ⟨gb554, 1, none⟩) (Kd.R_far (p := ⟨gb554, 0, none⟩) (Kd.R_types HO545.out BK554.out (by decide)) (fun _ hk => hk.2) (.slice Ao31 t548.length co31)) (fun _ hk => hk.2) (.slice Ao35 t551.length co35)) (fun _ h_ => h_.1))))) (Kd.R_lt (by (with_reducible repeat (first | apply Kd.R_alloc | apply Kd.R_drewN | apply Kd.R_drew)); exact (Kd.R_mono (Kd.R_far (p := ⟨gb554, 1, none⟩) (Kd.R_far (p := ⟨gb554, 0, none⟩) (Kd.R_types HO550.out BK554.out (by decide)) (fun _ hk => hk.2) (.slice Ao31 t548.length co31)) (fun _ hk => hk.2) (.slice Ao35 t551.length co35)) (fun _ h_ => h_.1))))) (Kd.R_lt (by (with_reducible repeat (first | apply Kd.R_alloc | apply Kd.R_drewN | apply Kd.R_drew)); exact (Kd.R_mono (Kd.R_far (p := ⟨gb554, 1, none⟩) (Kd.R_far (p := ⟨gb554, 0, none⟩) (Kd.R_types HO553.out BK554.out (by decide)) (fun _ hk => hk.2) (.slice Ao31 t548.length co31)) (fun _ hk => hk.2) (.slice Ao35 t551.length co35)) (fun _ h_ => h_.1))))) (below_size (by repeat (first | (with_reducible first | exact HB.out | apply below_alloc | apply pw_below_drewN | apply below_drew1 | refine below_set ?_ GE532.out | refine below_set ?_ GE547.out | refine below_set ?_ GE554.out) | exact HB.out)))); have n8_ := Aside0.mk (blk_below (g := gb532) (o := .cells #[.slice A0_0 l0_0.length c0_0, .slice A0_1 l0_1.length c0_1] 27 (0, 0)) (by (with_reducible repeat (first | refine blk_drewN ?_ _ | refine blk_drew ?_ | refine blk_alloc ?_ _)); refine blk_far ?_ NB532_554.out _; (with_reducible repeat (first | refine blk_drewN ?_ _ | refine blk_drew ?_ | refine blk_alloc ?_ _)); refine blk_far ?_ NB532_554.out _; (with_reducible repeat (first | refine blk_drewN ?_ _ | refine blk_drew ?_ | refine blk_alloc ?_ _)); exact BK532.out) hb); have n9_ := Aside0.mk (blk_below (g := gb547) (o := .cells #[.slice Ao24 t540.length co24, .slice Ao27 t543.length co27] 30 (0, 0)) (by (with_reducible repeat (first | refine blk_drewN ?_ _ | refine blk_drew ?_ | refine blk_alloc ?_ _)); refine blk_far ?_ NB547_554.out _; (with_reducible repeat (first | refine blk_drewN ?_ _ | refine blk_drew ?_ | refine blk_alloc ?_ _)); refine blk_far ?_ NB547_554.out _; (with_reducible repeat (first | refine blk_drewN ?_ _ | refine blk_drew ?_ | refine blk_alloc ?_ _)); exact BK547.out) hb); have n10_ := Aside0.mk (blk_below (g := gb554) (o := .cells #[.slice Ao31 t548.length co31, .slice Ao35 t551.length co35] 30 (0, 0)) (by (with_reducible repeat (first | refine blk_drewN ?_ _ | refine blk_drew ?_ | refine blk_alloc ?_ _)); refine blk_put (cs := #[.slice Ao31 t548.length co31, .slice none 0 0]) ?_ 1 _ rfl; (with_reducible repeat (first | refine blk_drewN ?_ _ | refine blk_drew ?_ | refine blk_alloc ?_ _)); refine blk_put (cs := #[.slice none 0 0, .slice none 0 0]) ?_ 0 _ rfl; (with_reducible repeat (first | refine blk_drewN ?_ _ | refine blk_drew ?_ | refine blk_alloc ?_ _)); exact BK554.out) hb); have n11_ := Aside0.mk (below_step (by repeat (first | (with_reducible first | exact HB.out | apply below_alloc | apply pw_below_drewN | apply below_drew1 | refine below_set ?_ GE532.out | refine below_set ?_ GE547.out | refine below_set ?_ GE554.out) | exact HB.out)) hb); clear HO536; clear HO539; clear HO542; clear HO545; clear HO550; clear HO553; clear BK532; clear BK547; clear BK554; clear HB; have HO536 := n0_; have HO539 := n1_; have HO542 := n2_; have HO545 := n3_; have HO550 := n4_; have HO553 := n5_; have HO557 := n6_; have HO560 := n7_; have BK532 := n8_; have BK547 := n9_; have BK554 := n10_; have HB := n11_; clear n0_ n1_ n2_ n3_ n4_ n5_ n6_ n7_ n8_ n9_ n10_ n11_; (try clear hb); (try clear hb2); (try clear hk); (try clear hi); (try clear ho0); (try clear ho1)) | ((with_reducible refine gate_dst (N := 9) rfl ?_); refine box_event ?hg (N := 9) ?hd (cs := #[.slice none 0 0, .slice none 0 0]) (t := 30) ?hr ?_; (case hd => rfl); (case hg => rfl); (case hr => first | (go_simp; done) | (go_simp; rfl)); intro gb562 hg w37 hbox hb; have n0_ := Aside0.mk (Kd.R_below (by (with_reducible repeat (first | apply Kd.R_alloc | apply Kd.R_drewN | apply Kd.R_drew)); exact HO536.out) hb); have n1_ := Aside0.mk (Kd.R_below (by (with_reducible repeat (first | apply Kd.R_alloc | apply Kd.R_drewN | apply Kd.R_drew)); exact HO539.out) hb); have n2_ := Aside0.mk (Kd.R_below (by (with_reducible repeat (first | apply Kd.R_alloc | apply Kd.R_drewN | apply Kd.R_drew)); exact HO542.out) hb); have n3_ := Aside0.mk (Kd.R_below (by (with_reducible repeat (first | apply Kd.R_alloc | apply Kd.R_drewN | apply Kd.R_drew)); exact HO545.out) hb); have n4_ := Aside0.mk (Kd.R_below (by (with_reducible repeat (first | apply Kd.R_alloc | apply Kd.R_drewN | apply Kd.R_drew)); exact HO550.out) hb); have n5_ := Aside0.mk (Kd.R_below (by (with_reducible repeat (first | apply Kd.R_alloc | apply Kd.R_drewN | apply Kd.R_drew)); exact HO553.out) hb); have n6_ := Aside0.mk (Kd.R_below (by (with_reducible repeat (first | apply Kd.R_alloc | apply Kd.R_drewN | apply Kd.R_drew)); exact HO557.out) hb); have n7_ := Aside0.mk (Kd.R_below (by (with_reducible repeat (first | apply Kd.R_alloc | apply Kd.R_drewN | apply Kd.R_drew)); exact HO560.out) hb); have n8_ := Aside0.mk (blk_below (g := gb532) (o := .cells #[.slice A0_0 l0_0.length c0_0, .slice A0_1 l0_1.length c0_1] 27 (0, 0)) (by (with_reducible repeat (first | refine blk_drewN ?_ _ | refine blk_drew ?_ | refine blk_alloc ?_ _)); exact BK532.out) hb); have n9_ := Aside0.mk (blk_below (g := gb547) (o := .cells #[.slice Ao24 t540.length co24, .slice Ao27 t543.length co27] 30 (0, 0)) (by (with_reducible repeat (first | refine blk_drewN ?_ _ | refine blk_drew ?_ | refine blk_alloc ?_ _)); exact BK547.out) hb); have n10_ := Aside0.mk (blk_below (g := gb554) (o := .cells #[.slice Ao31 t548.length co31, .slice Ao35 t551.length co35] 30 (0, 0)) (by (with_reducible repeat (first | refine blk_drewN ?_ _ | refine blk_drew ?_ | refine blk_alloc ?_ _)); exact BK554.out) hb); have n11_ := Aside0.mk (below_step (by repeat (first | (with_reducible first | exact HB.out | apply below_alloc | apply pw_below_drewN | apply below_drew1 | refine below_set ?_ GE532.out | refine below_set ?_ GE547.out | refine below_set ?_ GE554.out) | exact HB.out)) hb); have n12_ := Aside0.mk (hbox); have n13_ := Aside0.mk ((by rw [hg]; exact (below_size (by repeat (first | (with_reducible first | exact HB.out | apply below_alloc | apply pw_below_drewN | apply below_drew1 | refine below_set ?_ GE532.out | refine below_set ?_ GE547.out | refine below_set ?_ GE554.out) | exact HB.out))) : w.heap.size ≤ gb562)); have n14_ := Aside0.mk ((by rw [hg]; exact (below_size (by repeat (first | (with_reducible first | exact HB.out | apply below_alloc | apply pw_below_drewN | apply below_drew1 | refine below_set ?_ GE532.out | refine below_set ?_ GE547.out | refine below_set ?_ GE554.out) | exact HB.out))) : w.heap.size ≤ gb562)); have n15_ := Aside0.mk ((by rw [hg]; exact Nat.ne_of_lt (blk_lt (g := gb532) (o := .cells #[.slice A0_0 l0_0.length c0_0, .slice A0_1 l0_1.length c0_1] 27 (0, 0)) (by (with_reducible repeat (first | refine blk_drewN ?_ _ | refine blk_drew ?_ | refine blk_alloc ?_ _)); exact BK532.out)) : gb532 ≠ gb562)); have n16_ := Aside0.mk ((by rw [hg]; exact Nat.ne_of_gt (blk_lt (g := gb532) (o := .cells #[.slice A0_0 l0_0.length c0_0, .slice A0_1 l0_1.length c0_1] 27 (0, 0)) (by (with_reducible repeat (first | refine blk_drewN ?_ _ | refine blk_drew ?_ | refine blk_alloc ?_ _)); exact BK532.out)) : gb562 ≠ gb532)); have n17_ := Aside0.mk ((by rw [hg]; exact Nat.ne_of_lt (blk_lt (g := gb547) (o := .cells #[.slice Ao24 t540.length co24, .slice Ao27 t543.length co27] 30 (0, 0)) (by (with_reducible repeat (first | refine blk_drewN ?_ _ | refine blk_drew ?_ | refine blk_alloc ?_ _)); exact BK547.out)) : gb547 ≠ gb562)); have n18_ := Aside0.mk ((by rw [hg]; exact Nat.ne_of_gt (blk_lt (g := gb547) (o := .cells #[.slice Ao24 t540.length co24, .slice Ao27 t543.length co27] 30 (0, 0)) (by (with_reducible repeat (first | refine blk_drewN ?_ _ | refine blk_drew ?_ | refine blk_alloc ?_ _)); exact BK547.out)) : gb562 ≠ gb547)); have n19_ := Aside0.mk ((by rw [hg]; exact Nat.ne_of_lt (blk_lt (g := gb554) (o := .cells #[.slice Ao31 t548.length co31, .slice Ao35 t551.length co35] 30 (0, 0)) (by (with_reducible repeat (first | refine blk_drewN ?_ _ | refine blk_drew ?_ | refine blk_alloc ?_ _)); exact BK554.out)) : gb554 ≠ gb562)); have n20_ := Aside0.mk ((by rw [hg]; exact Nat.ne_of_gt (blk_lt (g := gb554) (o := .cells #[.slice Ao31 t548.length co31, .slice Ao35 t551.length co35] 30 (0, 0)) (by (with_reducible repeat (first | refine blk_drewN ?_ _ | refine blk_drew ?_ | refine blk_alloc ?_ _)); exact BK554.out)) : gb562 ≠ gb554)); clear HO536; clear HO539; clear HO542; clear HO545; clear HO550; clear HO553; clear HO557; clear HO560; clear BK532; clear BK547; clear BK554; clear HB; have HO536 := n0_; have HO539 := n1_; have HO542 := n2_; have HO545 := n3_; have HO550 := n4_; have HO553 := n5_; have HO557 := n6_; have HO560 := n7_; have BK532 := n8_; have BK547 := n9_; have BK554 := n10_; have HB := n11_; have BK562 := n12_; have GW562 := n13_; have GE562 := n14_; have NB532_562 := n15_; have NB562_532 := n16_; have NB547_562 := n17_; have NB562_547 := n18_; have NB554_562 := n19_; have NB562_554 := n20_; clear n0_ n1_ n2_ n3_ n4_ n5_ n6_ n7_ n8_ n9_ n10_ n11_ n12_ n13_ n14_ n15_ n16_ n17_ n18_ n19_ n20_; clear hb hbox hg; obtain ⟨Ao38, co38, eo38⟩ := Kd.R_slice HO557.out; subst eo38; have hnb39 := NB562_532.out; have hnc39 := NB532_562.out; have hnb40 := NB562_547.out; have hnc40 := NB547_562.out; have hnb41 := NB562_554.out; have hnc41 := NB554_562.out; have hcz42_0 : w37.cell? ⟨gb562, 0, none⟩ = some (.slice none 0 0) := (blk_cell BK562.out 0).trans rfl; have hcz42_1 : w37.cell? ⟨gb562, 1, none⟩ = some (.slice none 0 0) := (blk_cell BK562.out 1).trans rfl; have hfz42_0 := blk_frozen BK562.out 0; have hfz42_1 := blk_frozen BK562.out 1; obtain ⟨Ao43, co43, eo43⟩ := Kd.R_slice HO560.out; subst eo43))
      (try simp only [Act.put, List.setIfInBounds_toArray, List.set_cons_zero, List.set_cons_succ])
      go_cut [47] (fun v47 wc => ∃ (kq : Nat) (x47_13 : Bool), v47 = .bool x47_13 ∧ Aside0 (laws_FnExactAppend.j0 kq a1 t546 t561 x47_13 l0_0 l0_1 t540 t543 t548 t551 t555 t558 = some r) ∧ Aside0 (kq ≤ k) ∧ Aside0 (Kd.R Kd.string 9 wc w.heap.size (fun k_ => some k_ ≠ ((.slice Ao27 t543.length co27) : Value).ownBlock ∧ some k_ ≠ ((.slice Ao31 t548.length co31) : Value).ownBlock ∧ some k_ ≠ ((.slice Ao35 t551.length co35) : Value).ownBlock ∧ some k_ ≠ ((.slice Ao38 t555.length co38) : Value).ownBlock ∧ some k_ ≠ ((.slice Ao43 t558.length co43) : Value).ownBlock) (.slice Ao24 t540.length co24) t540) ∧ Aside0 (Kd.R Kd.string 9 wc w.heap.size (fun k_ => some k_ ≠ ((.slice Ao24 t540.length co24) : Value).ownBlock ∧ some k_ ≠ ((.slice Ao31 t548.length co31) : Value).ownBlock ∧ some k_ ≠ ((.slice Ao35 t551.length co35) : Value).ownBlock ∧ some k_ ≠ ((.slice Ao38 t555.length co38) : Value).ownBlock ∧ some k_ ≠ ((.slice Ao43 t558.length co43) : Value).ownBlock) (.slice Ao27 t543.length co27) t543) ∧ Aside0 (Kd.R Kd.string 9 wc w.heap.size (fun k_ => some k_ ≠ ((.slice Ao24 t540.length co24) : Value).ownBlock ∧ some k_ ≠ ((.slice Ao27 t543.length co27) : Value).ownBlock ∧ some k_ ≠ ((.slice Ao35 t551.length co35) : Value).ownBlock ∧ some k_ ≠ ((.slice Ao38 t555.length co38) : Value).ownBlock ∧ some k_ ≠ ((.slice Ao43 t558.length co43) : Value).ownBlock) (.slice Ao31 t548.length co31) t548) ∧ Aside0 (Kd.R Kd.string 9 wc w.heap.size (fun k_ => some k_ ≠ ((.slice Ao24 t540.length co24) : Value).ownBlock ∧ some k_ ≠ ((.slice Ao27 t543.length co27) : Value).ownBlock ∧ some k_ ≠ ((.slice Ao31 t548.length co31) : Value).ownBlock ∧ some k_ ≠ ((.slice Ao38 t555.length co38) : Value).ownBlock ∧ some k_ ≠ ((.slice Ao43 t558.length co43) : Value).ownBlock) (.slice Ao35 t551.length co35) t551) ∧ Aside0 (Kd.R Kd.string 9 wc w.heap.size (fun k_ => some k_ ≠ ((.slice Ao24 t540.length co24) : Value).ownBlock ∧ some k_ ≠ ((.slice Ao27 t543.length co27) : Value).ownBlock ∧ some k_ ≠ ((.slice Ao31 t548.length co31) : Value).ownBlock ∧ some k_ ≠ ((.slice Ao35 t551.length co35) : Value).ownBlock ∧ some k_ ≠ ((.slice Ao43 t558.length co43) : Value).ownBlock) (.slice Ao38 t555.length co38) t555) ∧ Aside0 (Kd.R Kd.string 9 wc w.heap.size (fun k_ => some k_ ≠ ((.slice Ao24 t540.length co24) : Value).ownBlock ∧ some k_ ≠ ((.slice Ao27 t543.length co27) : Value).ownBlock ∧ some k_ ≠ ((.slice Ao31 t548.length co31) : Value).ownBlock ∧ some k_ ≠ ((.slice Ao35 t551.length co35) : Value).ownBlock ∧ some k_ ≠ ((.slice Ao38 t555.length co38) : Value).ownBlock) (.slice Ao43 t558.length co43) t558) ∧ Aside0 (wc.heap[gb532]? = some (.cells #[(.slice A0_0 l0_0.length c0_0), (.slice A0_1 l0_1.length c0_1)] 27 (0, 0))) ∧ Aside0 (wc.heap[gb547]? = some (.cells #[(.slice Ao24 t540.length co24), (.slice Ao27 t543.length co27)] 30 (0, 0))) ∧ Aside0 (wc.heap[gb554]? = some (.cells #[(.slice Ao31 t548.length co31), (.slice Ao35 t551.length co35)] 30 (0, 0))) ∧ Aside0 (wc.heap[gb562]? = some (.cells #[(.slice Ao38 t555.length co38), (.slice Ao43 t558.length co43)] 30 (0, 0))) ∧ Aside0 (Below w.heap.size w wc))
      case first =>
        have H := HC14.out
        clear HC14
        replace H := Option.bind_eq_some_iff.mp H
        obtain ⟨t563, A440, H⟩ := H
        replace H : (if t563 = true then (laws_FnExactAppend.j0 k a1 t546 t561 (t561 != t546) l0_0 l0_1 t540 t543 t548 t551 t555 t558) else (laws_FnExactAppend.j0 k a1 t546 t561 true l0_0 l0_1 t540 t543 t548 t551 t555 t558)) = some r := H
        have A44 := Aside0.mk A440
        clear A440
        by_cases c45 : t563 = true
        · subst c45
          have H1 : (laws_FnExactAppend.j0 k a1 t546 t561 (t561 != t546) l0_0 l0_1 t540 t543 t548 t551 t555 t558) = some r := by rw [if_pos rfl] at H; exact H
          clear H
          have H := H1
          clear H1
          have H' := Aside0.mk H
          clear H
          have hnb46 := NB562_532.out
          have hnc46 := NB532_562.out
          have hnb47 := NB562_547.out
          have hnc47 := NB547_562.out
          have hnb48 := NB562_554.out
          have hnc48 := NB554_562.out
          have hcz49_0 : w37.cell? ⟨gb562, 0, none⟩ = some (.slice none 0 0) := (blk_cell BK562.out 0).trans rfl
          have hcz49_1 : w37.cell? ⟨gb562, 1, none⟩ = some (.slice none 0 0) := (blk_cell BK562.out 1).trans rfl
          have hfz49_0 := blk_frozen BK562.out 0
          have hfz49_1 := blk_frozen BK562.out 1
          have hnb50 := NB547_532.out
          have hnc50 := NB532_547.out
          have hnb51 := NB547_554.out
          have hnc51 := NB554_547.out
          have hcz52_0 : w37.cell? ⟨gb547, 0, none⟩ = some (.slice Ao24 t540.length co24) := (blk_cell BK547.out 0).trans rfl
          have hcz52_1 : w37.cell? ⟨gb547, 1, none⟩ = some (.slice Ao27 t543.length co27) := (blk_cell BK547.out 1).trans rfl
          have hfz52_0 := blk_frozen BK547.out 0
          have hfz52_1 := blk_frozen BK547.out 1
          go_wp2_with (first | ((with_reducible refine gate_callee (f := 21) rfl ?_); refine goesL_ (some 41) rfl rfl Try.func21 (by kernel_rfl) rfl #[.agg #[.slice Ao38 t555.length co38, .slice Ao43 t558.length co43], .agg #[.slice Ao24 t540.length co24, .slice Ao27 t543.length co27]] rfl (by (try simp only [List.map_toArray, List.map_cons, List.map_nil]); first | done | rfl | (simp only [List.length_drop, List.length_take]; rfl)) ?_; (with_reducible refine (laws_eqLog.calls k _ _ t555 _ _ t558 _ _ t540 _ _ t543 true _ ?side1 ?side2 ?side3 ?side4 ?side5 ?side6 ?side7 ?side8 A44.out).mono ?_); (case side1 => refine (Kd.R_reads' (e := 9) (base := w.heap.size) (ok := fun k_ => ((((((some k_ ≠ (.slice Ao43 t558.length co43 : Value).ownBlock ∧ some k_ ≠ (.slice Ao20 t534.length co20 : Value).ownBlock) ∧ some k_ ≠ (.slice Ao21 t537.length co21 : Value).ownBlock) ∧ some k_ ≠ (.slice Ao24 t540.length co24 : Value).ownBlock) ∧ some k_ ≠ (.slice Ao27 t543.length co27 : Value).ownBlock) ∧ some k_ ≠ (.slice Ao31 t548.length co31 : Value).ownBlock) ∧ some k_ ≠ (.slice Ao35 t551.length co35 : Value).ownBlock)) (n := t555.length) (c := co38) ?_).2.2; exact (by (with_reducible repeat (first | apply Kd.R_alloc | apply Kd.R_drewN | apply Kd.R_drew)); exact (Kd.R_mono (Kd.R_far (p := ⟨gb562, 1, none⟩) (Kd.R_far (p := ⟨gb562, 0, none⟩) (Kd.R_types HO557.out BK562.out (by decide)) (fun _ hk => hk.2) (.slice Ao38 t555.length co38)) (fun _ hk => hk.2) (.slice Ao43 t558.length co43)) (fun _ h_ => h_.1)))); (case side2 => exact (Kd.R_reads' HO557.out).2.1); (case side3 => refine (Kd.R_reads' (e := 9) (base := w.heap.size) (ok := fun k_ => ((((((some k_ ≠ (.slice Ao38 t555.length co38 : Value).ownBlock ∧ some k_ ≠ (.slice Ao20 t534.length co20 : Value).ownBlock) ∧ some k_ ≠ (.slice Ao21 t537.length co21 : Value).ownBlock) ∧ some k_ ≠ (.slice Ao24 t540.length co24 : Value).ownBlock) ∧ some k_ ≠ (.slice Ao27 t543.length co27 : Value).ownBlock) ∧ some k_ ≠ (.slice Ao31 t548.length co31 : Value).ownBlock) ∧ some k_ ≠ (.slice Ao35 t551.length co35 : Value).ownBlock)) (n := t558.length) (c := co43) ?_).2.2; exact (by (with_reducible repeat (first | apply Kd.R_alloc | apply Kd.R_drewN | apply Kd.R_drew)); exact (Kd.R_mono (Kd.R_far (p := ⟨gb562, 1, none⟩) (Kd.R_far (p := ⟨gb562, 0, none⟩) (Kd.R_types HO560.out BK562.out (by decide)) (fun _ hk => hk.2) (.slice Ao38 t555.length co38)) (fun _ hk => hk.2) (.slice Ao43 t558.length co43)) (fun _ h_ => h_.1)))); (case side4 => exact (Kd.R_reads' HO560.out).2.1); (case side5 => refine (Kd.R_reads' (e := 9) (base := w.heap.size) (ok := fun k_ => ((((((some k_ ≠ (.slice Ao27 t543.length co27 : Value).ownBlock ∧ some k_ ≠ (.slice Ao20 t534.length co20 : Value).ownBlock) ∧ some k_ ≠ (.slice Ao21 t537.length co21 : Value).ownBlock) ∧ some k_ ≠ (.slice Ao31 t548.length co31 : Value).ownBlock) ∧ some k_ ≠ (.slice Ao35 t551.length co35 : Value).ownBlock) ∧ some k_ ≠ (.slice Ao38 t555.length co38 : Value).ownBlock) ∧ some k_ ≠ (.slice Ao43 t558.length co43 : Value).ownBlock)) (n := t540.length) (c := co24) ?_).2.2; exact (by (with_reducible repeat (first | apply Kd.R_alloc | apply Kd.R_drewN | apply Kd.R_drew)); exact (Kd.R_mono (Kd.R_far (p := ⟨gb562, 1, none⟩) (Kd.R_far (p := ⟨gb562, 0, none⟩) (Kd.R_types HO542.out BK562.out (by decide)) (fun _ hk => hk.2) (.slice Ao38 t555.length co38)) (fun _ hk => hk.2) (.slice Ao43 t558.length co43)) (fun _ h_ => h_.1)))); (case side6 => exact (Kd.R_reads' HO542.out).2.1); (case side7 => refine (Kd.R_reads' (e := 9) (base := w.heap.size) (ok := fun k_ => ((((((some k_ ≠ (.slice Ao24 t540.length co24 : Value).ownBlock ∧ some k_ ≠ (.slice Ao20 t534.length co20 : Value).ownBlock) ∧ some k_ ≠ (.slice Ao21 t537.length co21 : Value).ownBlock) ∧ some k_ ≠ (.slice Ao31 t548.length co31 : Value).ownBlock) ∧ some k_ ≠ (.slice Ao35 t551.length co35 : Value).ownBlock) ∧ some k_ ≠ (.slice Ao38 t555.length co38 : Value).ownBlock) ∧ some k_ ≠ (.slice Ao43 t558.length co43 : Value).ownBlock)) (n := t543.length) (c := co27) ?_).2.2; exact (by (with_reducible repeat (first | apply Kd.R_alloc | apply Kd.R_drewN | apply Kd.R_drew)); exact (Kd.R_mono (Kd.R_far (p := ⟨gb562, 1, none⟩) (Kd.R_far (p := ⟨gb562, 0, none⟩) (Kd.R_types HO545.out BK562.out (by decide)) (fun _ hk => hk.2) (.slice Ao38 t555.length co38)) (fun _ hk => hk.2) (.slice Ao43 t558.length co43)) (fun _ h_ => h_.1)))); (case side8 => exact (Kd.R_reads' HO545.out).2.1); rintro e w53 ⟨rfl, hb⟩; refine ⟨_, rfl, ?_⟩; have n0_ := Aside0.mk (Kd.R_below (by (with_reducible repeat (first | apply Kd.R_alloc | apply Kd.R_drewN | apply Kd.R_drew)); exact (Kd.R_mono (Kd.R_far (p := ⟨gb562, 1, none⟩) (Kd.R_far (p := ⟨gb562, 0, none⟩) (Kd.R_types HO536.out BK562.out (by decide)) (fun _ hk => hk.2) (.slice Ao38 t555.length co38)) (fun _ hk => hk.2) (.slice Ao43 t558.length co43)) (fun _ h_ => h_.1))) hb); have n1_ := Aside0.mk (Kd.R_below (by (with_reducible repeat (first | apply Kd.R_alloc | apply Kd.R_drewN | apply Kd.R_drew)); exact (Kd.R_mono (Kd.R_far (p := ⟨gb562, 1, none⟩) (Kd.R_far (p := ⟨gb562, 0, none⟩) (Kd.R_types HO539.out BK562.out (by decide)) (fun _ hk => hk.2) (.slice Ao38 t555.length co38)) (fun _ hk => hk.2) (.slice Ao43 t558.length co43)) (fun _ h_ => h_.1))) hb); have n2_ := Aside0.mk (Kd.R_below (by (with_reducible repeat (first | apply Kd.R_alloc | apply Kd.R_drewN | apply Kd.R_drew)); exact (Kd.R_mono (Kd.R_far (p := ⟨gb562, 1, none⟩) (Kd.R_far (p := ⟨gb562, 0, none⟩) (Kd.R_types HO542.out BK562.out (by decide)) (fun _ hk => hk.2) (.slice Ao38 t555.length co38)) (fun _ hk => hk.2) (.slice Ao43 t558.length co43)) (fun _ h_ => h_.1))) hb); have n3_ := Aside0.mk (Kd.R_below (by (with_reducible repeat (first | apply Kd.R_alloc | apply Kd.R_drewN | apply Kd.R_drew)); exact (Kd.R_mono (Kd.R_far (p := ⟨gb562, 1, none⟩) (Kd.R_far (p := ⟨gb562, 0, none⟩) (Kd.R_types HO545.out BK562.out (by decide)) (fun _ hk => hk.2) (.slice Ao38 t555.length co38)) (fun _ hk => hk.2) (.slice Ao43 t558.length co43)) (fun _ h_ => h_.1))) hb); have n4_ := Aside0.mk (Kd.R_below (by (with_reducible repeat (first | apply Kd.R_alloc | apply Kd.R_drewN | apply Kd.R_drew)); exact (Kd.R_mono (Kd.R_far (p := ⟨gb562, 1, none⟩) (Kd.R_far (p := ⟨gb562, 0, none⟩) (Kd.R_types HO550.out BK562.out (by decide)) (fun _ hk => hk.2) (.slice Ao38 t555.length co38)) (fun _ hk => hk.2) (.slice Ao43 t558.length co43)) (fun _ h_ => h_.1))) hb); have n5_ := Aside0.mk (Kd.R_below (by (with_reducible repeat (first | apply Kd.R_alloc | apply Kd.R_drewN | apply Kd.R_drew)); exact (Kd.R_mono (Kd.R_far (p := ⟨gb562, 1, none⟩) (Kd.R_far (p := ⟨gb562, 0, none⟩) (Kd.R_types HO553.out BK562.out (by decide)) (fun _ hk => hk.2) (.slice Ao38 t555.length co38)) (fun _ hk => hk.2) (.slice Ao43 t558.length co43)) (fun _ h_ => h_.1))) hb); have n6_ := Aside0.mk (Kd.R_below (by (with_reducible repeat (first | apply Kd.R_alloc | apply Kd.R_drewN | apply Kd.R_drew)); exact (Kd.R_mono (Kd.R_far (p := ⟨gb562, 1, none⟩) (Kd.R_far (p := ⟨gb562, 0, none⟩) (Kd.R_types HO557.out BK562.out (by decide)) (fun _ hk => hk.2) (.slice Ao38 t555.length co38)) (fun _ hk => hk.2) (.slice Ao43 t558.length co43)) (fun _ h_ => h_.1))) hb); have n7_ := Aside0.mk (Kd.R_below (by (with_reducible repeat (first | apply Kd.R_alloc | apply Kd.R_drewN | apply Kd.R_drew)); exact (Kd.R_mono (Kd.R_far (p := ⟨gb562, 1, none⟩) (Kd.R_far (p := ⟨gb562, 0, none⟩) (Kd.R_types HO560.out BK562.out (by decide)) (fun _ hk => hk.2) (.slice Ao38 t555.length co38)) (fun _ hk => hk.2) (.slice Ao43 t558.length co43)) (fun _ h_ => h_.1))) hb); have n8_ := Aside0.mk (blk_below (g := gb532) (o := .cells #[.slice A0_0 l0_0.length c0_0, .slice A0_1 l0_1.length c0_1] 27 (0, 0)) (by (with_reducible repeat (first | refine blk_drewN ?_ _ | refine blk_drew ?_ | refine blk_alloc ?_ _)); refine blk_far ?_ NB532_562.out _; (with_reducible repeat (first | refine blk_drewN ?_ _ | refine blk_drew ?_ | refine blk_alloc ?_ _)); refine blk_far ?_ NB532_562.out _; (with_reducible repeat (first | refine blk_drewN ?_ _ | refine blk_drew ?_ | refine blk_alloc ?_ _)); exact BK532.out) hb); have n9_ := Aside0.mk (blk_below (g := gb547) (o := .cells #[.slice Ao24 t540.length co24, .slice Ao27 t543.length co27] 30 (0, 0)) (by (with_reducible repeat (first | refine blk_drewN ?_ _ | refine blk_drew ?_ | refine blk_alloc ?_ _)); refine blk_far ?_ NB547_562.out _; (with_reducible repeat (first | refine blk_drewN ?_ _ | refine blk_drew ?_ | refine blk_alloc ?_ _)); refine blk_far ?_ NB547_562.out _; (with_reducible repeat (first | refine blk_drewN ?_ _ | refine blk_drew ?_ | refine blk_alloc ?_ _)); exact BK547.out) hb); have n10_ := Aside0.mk (blk_below (g := gb554) (o := .cells #[.slice Ao31 t548.length co31, .slice Ao35 t551.length co35] 30 (0, 0)) (by (with_reducible repeat (first | refine blk_drewN ?_ _ | refine blk_drew ?_ | refine blk_alloc ?_ _)); refine blk_far ?_ NB554_562.out _; (with_reducible repeat (first | refine blk_drewN ?_ _ | refine blk_drew ?_ | refine blk_alloc ?_ _)); refine blk_far ?_ NB554_562.out _; (with_reducible repeat (first | refine blk_drewN ?_ _ | refine blk_drew ?_ | refine blk_alloc ?_ _)); exact BK554.out) hb); have n11_ := Aside0.mk (blk_below (g := gb562) (o := .cells #[.slice Ao38 t555.length co38, .slice Ao43 t558.length co43] 30 (0, 0)) (by (with_reducible repeat (first | refine blk_drewN ?_ _ | refine blk_drew ?_ | refine blk_alloc ?_ _)); refine blk_put (cs := #[.slice Ao38 t555.length co38, .slice none 0 0]) ?_ 1 _ rfl; (with_reducible repeat (first | refine blk_drewN ?_ _ | refine blk_drew ?_ | refine blk_alloc ?_ _)); refine blk_put (cs := #[.slice none 0 0, .slice none 0 0]) ?_ 0 _ rfl; (with_reducible repeat (first | refine blk_drewN ?_ _ | refine blk_drew ?_ | refine blk_alloc ?_ _)); exact BK562.out) hb); have n12_ := Aside0.mk (below_step (by repeat (first | (with_reducible first | exact HB.out | apply below_alloc | apply pw_below_drewN | apply below_drew1 | refine below_set ?_ GE532.out | refine below_set ?_ GE547.out | refine below_set ?_ GE554.out | refine below_set ?_ GE562.out) | exact HB.out)) hb); clear HO536; clear HO539; clear HO542; clear HO545; clear HO550; clear HO553; clear HO557; clear HO560; clear BK532; clear BK547; clear BK554; clear BK562; clear HB; have HO536 := n0_; have HO539 := n1_; have HO542 := n2_; have HO545 := n3_; have HO550 := n4_; have HO553 := n5_; have HO557 := n6_; have HO560 := n7_; have BK532 := n8_; have BK547 := n9_; have BK554 := n10_; have BK562 := n11_; have HB := n12_; clear n0_ n1_ n2_ n3_ n4_ n5_ n6_ n7_ n8_ n9_ n10_ n11_ n12_; (try clear hb); (try clear hb2); (try clear hk); (try clear hi)))
          go_meet
          case rel => exact ⟨_, ((t561 != t546)), (by first | rfl | (simp; done) | (simp [*]; done)), H', ⟨by first | omega | exact Nat.le_refl _⟩, ⟨by (with_reducible repeat (first | apply Kd.R_alloc | apply Kd.R_drewN | apply Kd.R_drew)); exact Kd.R_mono HO542.out (fun _ hk => ⟨hk.1.1.1.1.1.1, ⟨hk.1.1.1.2, ⟨hk.1.1.2, ⟨hk.1.2, hk.2⟩⟩⟩⟩)⟩, ⟨by (with_reducible repeat (first | apply Kd.R_alloc | apply Kd.R_drewN | apply Kd.R_drew)); exact Kd.R_mono HO545.out (fun _ hk => ⟨hk.1.1.1.1.1.1, ⟨hk.1.1.1.2, ⟨hk.1.1.2, ⟨hk.1.2, hk.2⟩⟩⟩⟩)⟩, ⟨by (with_reducible repeat (first | apply Kd.R_alloc | apply Kd.R_drewN | apply Kd.R_drew)); exact Kd.R_mono HO550.out (fun _ hk => ⟨hk.1.1.1.2, ⟨hk.1.1.2, ⟨hk.1.1.1.1.1.1, ⟨hk.1.2, hk.2⟩⟩⟩⟩)⟩, ⟨by (with_reducible repeat (first | apply Kd.R_alloc | apply Kd.R_drewN | apply Kd.R_drew)); exact Kd.R_mono HO553.out (fun _ hk => ⟨hk.1.1.1.2, ⟨hk.1.1.2, ⟨hk.1.1.1.1.1.1, ⟨hk.1.2, hk.2⟩⟩⟩⟩)⟩, ⟨by (with_reducible repeat (first | apply Kd.R_alloc | apply Kd.R_drewN | apply Kd.R_drew)); exact Kd.R_mono HO557.out (fun _ hk => ⟨hk.1.1.1.2, ⟨hk.1.1.2, ⟨hk.1.2, ⟨hk.2, hk.1.1.1.1.1.1⟩⟩⟩⟩)⟩, ⟨by (with_reducible repeat (first | apply Kd.R_alloc | apply Kd.R_drewN | apply Kd.R_drew)); exact Kd.R_mono HO560.out (fun _ hk => ⟨hk.1.1.1.2, ⟨hk.1.1.2, ⟨hk.1.2, ⟨hk.2, hk.1.1.1.1.1.1⟩⟩⟩⟩)⟩, ⟨by (with_reducible repeat (first | refine blk_drewN ?_ _ | refine blk_drew ?_ | refine blk_alloc ?_ _)); exact BK532.out⟩, ⟨by (with_reducible repeat (first | refine blk_drewN ?_ _ | refine blk_drew ?_ | refine blk_alloc ?_ _)); exact BK547.out⟩, ⟨by (with_reducible repeat (first | refine blk_drewN ?_ _ | refine blk_drew ?_ | refine blk_alloc ?_ _)); exact BK554.out⟩, ⟨by (with_reducible repeat (first | refine blk_drewN ?_ _ | refine blk_drew ?_ | refine blk_alloc ?_ _)); exact BK562.out⟩, ⟨by repeat (first | (with_reducible first | exact HB.out | apply below_alloc | apply pw_below_drewN | apply below_drew1 | refine below_set ?_ GE532.out | refine below_set ?_ GE547.out | refine below_set ?_ GE554.out | refine below_set ?_ GE562.out) | exact HB.out)⟩⟩
        · replace c45 := Bool.eq_false_iff.mpr c45
          subst c45
          have H1 : (laws_FnExactAppend.j0 k a1 t546 t561 true l0_0 l0_1 t540 t543 t548 t551 t555 t558) = some r := by rw [if_neg (show ¬ (false = true) by decide)] at H; exact H
          clear H
          have H := H1
          clear H1
          have H' := Aside0.mk H
          clear H
          have hnb54 := NB562_532.out
          have hnc54 := NB532_562.out
          have hnb55 := NB562_547.out
          have hnc55 := NB547_562.out
          have hnb56 := NB562_554.out
          have hnc56 := NB554_562.out
          have hcz57_0 : w37.cell? ⟨gb562, 0, none⟩ = some (.slice none 0 0) := (blk_cell BK562.out 0).trans rfl
          have hcz57_1 : w37.cell? ⟨gb562, 1, none⟩ = some (.slice none 0 0) := (blk_cell BK562.out 1).trans rfl
          have hfz57_0 := blk_frozen BK562.out 0
          have hfz57_1 := blk_frozen BK562.out 1
          have hnb58 := NB547_532.out
          have hnc58 := NB532_547.out
          have hnb59 := NB547_554.out
          have hnc59 := NB554_547.out
          have hcz60_0 : w37.cell? ⟨gb547, 0, none⟩ = some (.slice Ao24 t540.length co24) := (blk_cell BK547.out 0).trans rfl
          have hcz60_1 : w37.cell? ⟨gb547, 1, none⟩ = some (.slice Ao27 t543.length co27) := (blk_cell BK547.out 1).trans rfl
          have hfz60_0 := blk_frozen BK547.out 0
          have hfz60_1 := blk_frozen BK547.out 1
          go_wp2_with (first | ((with_reducible refine gate_callee (f := 21) rfl ?_); refine goesL_ (some 41) rfl rfl Try.func21 (by kernel_rfl) rfl #[.agg #[.slice Ao38 t555.length co38, .slice Ao43 t558.length co43], .agg #[.slice Ao24 t540.length co24, .slice Ao27 t543.length co27]] rfl (by (try simp only [List.map_toArray, List.map_cons, List.map_nil]); first | done | rfl | (simp only [List.length_drop, List.length_take]; rfl)) ?_; (with_reducible refine (laws_eqLog.calls k _ _ t555 _ _ t558 _ _ t540 _ _ t543 false _ ?side1 ?side2 ?side3 ?side4 ?side5 ?side6 ?side7 ?side8 A44.out).mono ?_); (case side1 => refine (Kd.R_reads' (e := 9) (base := w.heap.size) (ok := fun k_ => ((((((some k_ ≠ (.slice Ao43 t558.length co43 : Value).ownBlock ∧ some k_ ≠ (.slice Ao20 t534.length co20 : Value).ownBlock) ∧ some k_ ≠ (.slice Ao21 t537.length co21 : Value).ownBlock) ∧ some k_ ≠ (.slice Ao24 t540.length co24 : Value).ownBlock) ∧ some k_ ≠ (.slice Ao27 t543.length co27 : Value).ownBlock) ∧ some k_ ≠ (.slice Ao31 t548.length co31 : Value).ownBlock) ∧ some k_ ≠ (.slice Ao35 t551.length co35 : Value).ownBlock)) (n := t555.length) (c := co38) ?_).2.2; exact (by (with_reducible repeat (first | apply Kd.R_alloc | apply Kd.R_drewN | apply Kd.R_drew)); exact (Kd.R_mono (Kd.R_far (p := ⟨gb562, 1, none⟩) (Kd.R_far (p := ⟨gb562, 0, none⟩) (Kd.R_types HO557.out BK562.out (by decide)) (fun _ hk => hk.2) (.slice Ao38 t555.length co38)) (fun _ hk => hk.2) (.slice Ao43 t558.length co43)) (fun _ h_ => h_.1)))); (case side2 => exact (Kd.R_reads' HO557.out).2.1); (case side3 => refine (Kd.R_reads' (e := 9) (base := w.heap.size) (ok := fun k_ => ((((((some k_ ≠ (.slice Ao38 t555.length co38 : Value).ownBlock ∧ some k_ ≠ (.slice Ao20 t534.length co20 : Value).ownBlock) ∧ some k_ ≠ (.slice Ao21 t537.length co21 : Value).ownBlock) ∧ some k_ ≠ (.slice Ao24 t540.length co24 : Value).ownBlock) ∧ some k_ ≠ (.slice Ao27 t543.length co27 : Value).ownBlock) ∧ some k_ ≠ (.slice Ao31 t548.length co31 : Value).ownBlock) ∧ some k_ ≠ (.slice Ao35 t551.length co35 : Value).ownBlock)) (n := t558.length) (c := co43) ?_).2.2; exact (by (with_reducible repeat (first | apply Kd.R_alloc | apply Kd.R_drewN | apply Kd.R_drew)); exact (Kd.R_mono (Kd.R_far (p := ⟨gb562, 1, none⟩) (Kd.R_far (p := ⟨gb562, 0, none⟩) (Kd.R_types HO560.out BK562.out (by decide)) (fun _ hk => hk.2) (.slice Ao38 t555.length co38)) (fun _ hk => hk.2) (.slice Ao43 t558.length co43)) (fun _ h_ => h_.1)))); (case side4 => exact (Kd.R_reads' HO560.out).2.1); (case side5 => refine (Kd.R_reads' (e := 9) (base := w.heap.size) (ok := fun k_ => ((((((some k_ ≠ (.slice Ao27 t543.length co27 : Value).ownBlock ∧ some k_ ≠ (.slice Ao20 t534.length co20 : Value).ownBlock) ∧ some k_ ≠ (.slice Ao21 t537.length co21 : Value).ownBlock) ∧ some k_ ≠ (.slice Ao31 t548.length co31 : Value).ownBlock) ∧ some k_ ≠ (.slice Ao35 t551.length co35 : Value).ownBlock) ∧ some k_ ≠ (.slice Ao38 t555.length co38 : Value).ownBlock) ∧ some k_ ≠ (.slice Ao43 t558.length co43 : Value).ownBlock)) (n := t540.length) (c := co24) ?_).2.2; exact (by (with_reducible repeat (first | apply Kd.R_alloc | apply Kd.R_drewN | apply Kd.R_drew)); exact (Kd.R_mono (Kd.R_far (p := ⟨gb562, 1, none⟩) (Kd.R_far (p := ⟨gb562, 0, none⟩) (Kd.R_types HO542.out BK562.out (by decide)) (fun _ hk => hk.2) (.slice Ao38 t555.length co38)) (fun _ hk => hk.2) (.slice Ao43 t558.length co43)) (fun _ h_ => h_.1)))); (case side6 => exact (Kd.R_reads' HO542.out).2.1); (case side7 => refine (Kd.R_reads' (e := 9) (base := w.heap.size) (ok := fun k_ => ((((((some k_ ≠ (.slice Ao24 t540.length co24 : Value).ownBlock ∧ some k_ ≠ (.slice Ao20 t534.length co20 : Value).ownBlock) ∧ some k_ ≠ (.slice Ao21 t537.length co21 : Value).ownBlock) ∧ some k_ ≠ (.slice Ao31 t548.length co31 : Value).ownBlock) ∧ some k_ ≠ (.slice Ao35 t551.length co35 : Value).ownBlock) ∧ some k_ ≠ (.slice Ao38 t555.length co38 : Value).ownBlock) ∧ some k_ ≠ (.slice Ao43 t558.length co43 : Value).ownBlock)) (n := t543.length) (c := co27) ?_).2.2; exact (by (with_reducible repeat (first | apply Kd.R_alloc | apply Kd.R_drewN | apply Kd.R_drew)); exact (Kd.R_mono (Kd.R_far (p := ⟨gb562, 1, none⟩) (Kd.R_far (p := ⟨gb562, 0, none⟩) (Kd.R_types HO545.out BK562.out (by decide)) (fun _ hk => hk.2) (.slice Ao38 t555.length co38)) (fun _ hk => hk.2) (.slice Ao43 t558.length co43)) (fun _ h_ => h_.1)))); (case side8 => exact (Kd.R_reads' HO545.out).2.1); rintro e w61 ⟨rfl, hb⟩; refine ⟨_, rfl, ?_⟩; have n0_ := Aside0.mk (Kd.R_below (by (with_reducible repeat (first | apply Kd.R_alloc | apply Kd.R_drewN | apply Kd.R_drew)); exact (Kd.R_mono (Kd.R_far (p := ⟨gb562, 1, none⟩) (Kd.R_far (p := ⟨gb562, 0, none⟩) (Kd.R_types HO536.out BK562.out (by decide)) (fun _ hk => hk.2) (.slice Ao38 t555.length co38)) (fun _ hk => hk.2) (.slice Ao43 t558.length co43)) (fun _ h_ => h_.1))) hb); have n1_ := Aside0.mk (Kd.R_below (by (with_reducible repeat (first | apply Kd.R_alloc | apply Kd.R_drewN | apply Kd.R_drew)); exact (Kd.R_mono (Kd.R_far (p := ⟨gb562, 1, none⟩) (Kd.R_far (p := ⟨gb562, 0, none⟩) (Kd.R_types HO539.out BK562.out (by decide)) (fun _ hk => hk.2) (.slice Ao38 t555.length co38)) (fun _ hk => hk.2) (.slice Ao43 t558.length co43)) (fun _ h_ => h_.1))) hb); have n2_ := Aside0.mk (Kd.R_below (by (with_reducible repeat (first | apply Kd.R_alloc | apply Kd.R_drewN | apply Kd.R_drew)); exact (Kd.R_mono (Kd.R_far (p := ⟨gb562, 1, none⟩) (Kd.R_far (p := ⟨gb562, 0, none⟩) (Kd.R_types HO542.out BK562.out (by decide)) (fun _ hk => hk.2) (.slice Ao38 t555.length co38)) (fun _ hk => hk.2) (.slice Ao43 t558.length co43)) (fun _ h_ => h_.1))) hb); have n3_ := Aside0.mk (Kd.R_below (by (with_reducible repeat (first | apply Kd.R_alloc | apply Kd.R_drewN | apply Kd.R_drew)); exact (Kd.R_mono (Kd.R_far (p := ⟨gb562, 1, none⟩) (Kd.R_far (p := ⟨gb562, 0, none⟩) (Kd.R_types HO545.out BK562.out (by decide)) (fun _ hk => hk.2) (.slice Ao38 t555.length co38)) (fun _ hk => hk.2) (.slice Ao43 t558.length co43)) (fun _ h_ => h_.1))) hb); have n4_ := Aside0.mk (Kd.R_below (by (with_reducible repeat (first | apply Kd.R_alloc | apply Kd.R_drewN | apply Kd.R_drew)); exact (Kd.R_mono (Kd.R_far (p := ⟨gb562, 1, none⟩) (Kd.R_far (p := ⟨gb562, 0, none⟩) (Kd.R_types HO550.out BK562.out (by decide)) (fun _ hk => hk.2) (.slice Ao38 t555.length co38)) (fun _ hk => hk.2) (.slice Ao43 t558.length co43)) (fun _ h_ => h_.1))) hb); have n5_ := Aside0.mk (Kd.R_below (by (with_reducible repeat (first | apply Kd.R_alloc | apply Kd.R_drewN | apply Kd.R_drew)); exact (Kd.R_mono (Kd.R_far (p := ⟨gb562, 1, none⟩) (Kd.R_far (p := ⟨gb562, 0, none⟩) (Kd.R_types HO553.out BK562.out (by decide)) (fun _ hk => hk.2) (.slice Ao38 t555.length co38)) (fun _ hk => hk.2) (.slice Ao43 t558.length co43)) (fun _ h_ => h_.1))) hb); have n6_ := Aside0.mk (Kd.R_below (by (with_reducible repeat (first | apply Kd.R_alloc | apply Kd.R_drewN | apply Kd.R_drew)); exact (Kd.R_mono (Kd.R_far (p := ⟨gb562, 1, none⟩) (Kd.R_far (p := ⟨gb562, 0, none⟩) (Kd.R_types HO557.out BK562.out (by decide)) (fun _ hk => hk.2) (.slice Ao38 t555.length co38)) (fun _ hk => hk.2) (.slice Ao43 t558.length co43)) (fun _ h_ => h_.1))) hb); have n7_ := Aside0.mk (Kd.R_below (by (with_reducible repeat (first | apply Kd.R_alloc | apply Kd.R_drewN | apply Kd.R_drew)); exact (Kd.R_mono (Kd.R_far (p := ⟨gb562, 1, none⟩) (Kd.R_far (p := ⟨gb562, 0, none⟩) (Kd.R_types HO560.out BK562.out (by decide)) (fun _ hk => hk.2) (.slice Ao38 t555.length co38)) (fun _ hk => hk.2) (.slice Ao43 t558.length co43)) (fun _ h_ => h_.1))) hb); have n8_ := Aside0.mk (blk_below (g := gb532) (o := .cells #[.slice A0_0 l0_0.length c0_0, .slice A0_1 l0_1.length c0_1] 27 (0, 0)) (by (with_reducible repeat (first | refine blk_drewN ?_ _ | refine blk_drew ?_ | refine blk_alloc ?_ _)); refine blk_far ?_ NB532_562.out _; (with_reducible repeat (first | refine blk_drewN ?_ _ | refine blk_drew ?_ | refine blk_alloc ?_ _)); refine blk_far ?_ NB532_562.out _; (with_reducible repeat (first | refine blk_drewN ?_ _ | refine blk_drew ?_ | refine blk_alloc ?_ _)); exact BK532.out) hb); have n9_ := Aside0.mk (blk_below (g := gb547) (o := .cells #[.slice Ao24 t540.length co24, .slice Ao27 t543.length co27] 30 (0, 0)) (by (with_reducible repeat (first | refine blk_drewN ?_ _ | refine blk_drew ?_ | refine blk_alloc ?_ _)); refine blk_far ?_ NB547_562.out _; (with_reducible repeat (first | refine blk_drewN ?_ _ | refine blk_drew ?_ | refine blk_alloc ?_ _)); refine blk_far ?_ NB547_562.out _; (with_reducible repeat (first | refine blk_drewN ?_ _ | refine blk_drew ?_ | refine blk_alloc ?_ _)); exact BK547.out) hb); have n10_ := Aside0.mk (blk_below (g := gb554) (o := .cells #[.slice Ao31 t548.length co31, .slice Ao35 t551.length co35] 30 (0, 0)) (by (with_reducible repeat (first | refine blk_drewN ?_ _ | refine blk_drew ?_ | refine blk_alloc ?_ _)); refine blk_far ?_ NB554_562.out _; (with_reducible repeat (first | refine blk_drewN ?_ _ | refine blk_drew ?_ | refine blk_alloc ?_ _)); refine blk_far ?_ NB554_562.out _; (with_reducible repeat (first | refine blk_drewN ?_ _ | refine blk_drew ?_ | refine blk_alloc ?_ _)); exact BK554.out) hb); have n11_ := Aside0.mk (blk_below (g := gb562) (o := .cells #[.slice Ao38 t555.length co38, .slice Ao43 t558.length co43] 30 (0, 0)) (by (with_reducible repeat (first | refine blk_drewN ?_ _ | refine blk_drew ?_ | refine blk_alloc ?_ _)); refine blk_put (cs := #[.slice Ao38 t555.length co38, .slice none 0 0]) ?_ 1 _ rfl; (with_reducible repeat (first | refine blk_drewN ?_ _ | refine blk_drew ?_ | refine blk_alloc ?_ _)); refine blk_put (cs := #[.slice none 0 0, .slice none 0 0]) ?_ 0 _ rfl; (with_reducible repeat (first | refine blk_drewN ?_ _ | refine blk_drew ?_ | refine blk_alloc ?_ _)); exact BK562.out) hb); have n12_ := Aside0.mk (below_step (by repeat (first | (with_reducible first | exact HB.out | apply below_alloc | apply pw_below_drewN | apply below_drew1 | refine below_set ?_ GE532.out | refine below_set ?_ GE547.out | refine below_set ?_ GE554.out | refine below_set ?_ GE562.out) | exact HB.out)) hb); clear HO536; clear HO539; clear HO542; clear HO545; clear HO550; clear HO553; clear HO557; clear HO560; clear BK532; clear BK547; clear BK554; clear BK562; clear HB; have HO536 := n0_; have HO539 := n1_; have HO542 := n2_; have HO545 := n3_; have HO550 := n4_; have HO553 := n5_; have HO557 := n6_; have HO560 := n7_; have BK532 := n8_; have BK547 := n9_; have BK554 := n10_; have BK562 := n11_; have HB := n12_; clear n0_ n1_ n2_ n3_ n4_ n5_ n6_ n7_ n8_ n9_ n10_ n11_ n12_; (try clear hb); (try clear hb2); (try clear hk); (try clear hi)))
          go_meet
          case rel => exact ⟨_, (true), (by first | rfl | (simp; done) | (simp [*]; done)), H', ⟨by first | omega | exact Nat.le_refl _⟩, ⟨by (with_reducible repeat (first | apply Kd.R_alloc | apply Kd.R_drewN | apply Kd.R_drew)); exact Kd.R_mono HO542.out (fun _ hk => ⟨hk.1.1.1.1.1.1, ⟨hk.1.1.1.2, ⟨hk.1.1.2, ⟨hk.1.2, hk.2⟩⟩⟩⟩)⟩, ⟨by (with_reducible repeat (first | apply Kd.R_alloc | apply Kd.R_drewN | apply Kd.R_drew)); exact Kd.R_mono HO545.out (fun _ hk => ⟨hk.1.1.1.1.1.1, ⟨hk.1.1.1.2, ⟨hk.1.1.2, ⟨hk.1.2, hk.2⟩⟩⟩⟩)⟩, ⟨by (with_reducible repeat (first | apply Kd.R_alloc | apply Kd.R_drewN | apply Kd.R_drew)); exact Kd.R_mono HO550.out (fun _ hk => ⟨hk.1.1.1.2, ⟨hk.1.1.2, ⟨hk.1.1.1.1.1.1, ⟨hk.1.2, hk.2⟩⟩⟩⟩)⟩, ⟨by (with_reducible repeat (first | apply Kd.R_alloc | apply Kd.R_drewN | apply Kd.R_drew)); exact Kd.R_mono HO553.out (fun _ hk => ⟨hk.1.1.1.2, ⟨hk.1.1.2, ⟨hk.1.1.1.1.1.1, ⟨hk.1.2, hk.2⟩⟩⟩⟩)⟩, ⟨by (with_reducible repeat (first | apply Kd.R_alloc | apply Kd.R_drewN | apply Kd.R_drew)); exact Kd.R_mono HO557.out (fun _ hk => ⟨hk.1.1.1.2, ⟨hk.1.1.2, ⟨hk.1.2, ⟨hk.2, hk.1.1.1.1.1.1⟩⟩⟩⟩)⟩, ⟨by (with_reducible repeat (first | apply Kd.R_alloc | apply Kd.R_drewN | apply Kd.R_drew)); exact Kd.R_mono HO560.out (fun _ hk => ⟨hk.1.1.1.2, ⟨hk.1.1.2, ⟨hk.1.2, ⟨hk.2, hk.1.1.1.1.1.1⟩⟩⟩⟩)⟩, ⟨by (with_reducible repeat (first | refine blk_drewN ?_ _ | refine blk_drew ?_ | refine blk_alloc ?_ _)); exact BK532.out⟩, ⟨by (with_reducible repeat (first | refine blk_drewN ?_ _ | refine blk_drew ?_ | refine blk_alloc ?_ _)); exact BK547.out⟩, ⟨by (with_reducible repeat (first | refine blk_drewN ?_ _ | refine blk_drew ?_ | refine blk_alloc ?_ _)); exact BK554.out⟩, ⟨by (with_reducible repeat (first | refine blk_drewN ?_ _ | refine blk_drew ?_ | refine blk_alloc ?_ _)); exact BK562.out⟩, ⟨by repeat (first | (with_reducible first | exact HB.out | apply below_alloc | apply pw_below_drewN | apply below_drew1 | refine below_set ?_ GE532.out | refine below_set ?_ GE547.out | refine below_set ?_ GE554.out | refine below_set ?_ GE562.out) | exact HB.out)⟩⟩
      case rest =>
        clear HC14
        try clear c1
        try clear c2
        try clear p2
        try clear c3
        try clear c3b0
        try clear c3b1
        try clear c4
        try clear c5
        try clear c6
        try clear c6b0
        try clear c10
        try clear c17
        try clear c19
        try clear c21
        try clear c25
        try clear c32
        try clear c33
        try clear c37
        try clear c38
        try clear c39
        try clear c40
        try clear c41
        try clear c45
        try clear c46
        try clear c47
        try clear c48
        try clear c50
        try clear c51
        try clear c54
        try clear c55
        try clear c56
        try clear c58
        try clear c59
        try clear hcz16_0
        try clear hcz16_1
        try clear hcz18_0
        try clear hcz18_1
        try clear hcz26_0
        try clear hcz26_1
        try clear hcz28_0
        try clear hcz28_1
        try clear hcz34_0
        try clear hcz34_1
        try clear hcz42_0
        try clear hcz42_1
        try clear hcz49_0
        try clear hcz49_1
        try clear hcz52_0
        try clear hcz52_1
        try clear hcz57_0
        try clear hcz57_1
        try clear hcz60_0
        try clear hcz60_1
        try clear hcz8_0
        try clear hcz8_1
        try clear hfz16_0
        try clear hfz16_1
        try clear hfz18_0
        try clear hfz18_1
        try clear hfz26_0
        try clear hfz26_1
        try clear hfz28_0
        try clear hfz28_1
        try clear hfz34_0
        try clear hfz34_1
        try clear hfz42_0
        try clear hfz42_1
        try clear hfz49_0
        try clear hfz49_1
        try clear hfz52_0
        try clear hfz52_1
        try clear hfz57_0
        try clear hfz57_1
        try clear hfz60_0
        try clear hfz60_1
        try clear hfz8_0
        try clear hfz8_1
        obtain ⟨kq, x47_13, rfl, HA, HJ13, HO_548000, HO_548001, HO_555000, HO_555001, HO_563000, HO_563001, BK532, BK547, BK554, BK562, HB⟩ := hcut
        cases kq with
        | zero => exact absurd HA.out (by simp [laws_FnExactAppend.j0])
        | succ kj13 =>
          have H := HA.out
          clear HA
          simp only [laws_FnExactAppend.j0] at H
          by_cases c62 : x47_13 = true
          · subst c62
            have H1 : (none) = some r := by rw [if_pos rfl] at H; exact H
            clear H
            have H := H1
            clear H1
            exact absurd H (by simp)
          · replace c62 := Bool.eq_false_iff.mpr c62
            subst c62
            have H1 : ((laws_toLog.f kj13 l0_0 l0_1).bind fun bt564 => ((laws_eqLog.f kj13 t548 t551 bt564.1 bt564.2).bind fun t570 => (if t570 = true then ((laws_markLog.f kj13 t548 t551 1).bind fun bt571 => (if bt571.1 < 0 then (laws_FnExactAppend.j1 kj13 a1 t546 true l0_0 l0_1 t540 t543 t555 t558) else ((laws_eqLog.f kj13 t555 t558 t540 t543).bind fun t574 => (if t574 = true then (laws_FnExactAppend.j1 kj13 a1 t546 (t561 != t546) l0_0 l0_1 t540 t543 t555 t558) else (laws_FnExactAppend.j1 kj13 a1 t546 true l0_0 l0_1 t540 t543 t555 t558))))) else (none)))) = some r := by rw [if_neg (show ¬ (false = true) by decide)] at H; exact H
            clear H
            have H := H1
            clear H1
            replace H := Option.bind_eq_some_iff.mp H
            obtain ⟨⟨t564, t567⟩, A630, H⟩ := H
            replace H : ((laws_eqLog.f kj13 t548 t551 t564 t567).bind fun t570 => (if t570 = true then ((laws_markLog.f kj13 t548 t551 1).bind fun bt571 => (if bt571.1 < 0 then (laws_FnExactAppend.j1 kj13 a1 t546 true l0_0 l0_1 t540 t543 t555 t558) else ((laws_eqLog.f kj13 t555 t558 t540 t543).bind fun t574 => (if t574 = true then (laws_FnExactAppend.j1 kj13 a1 t546 (t561 != t546) l0_0 l0_1 t540 t543 t555 t558) else (laws_FnExactAppend.j1 kj13 a1 t546 true l0_0 l0_1 t540 t543 t555 t558))))) else (none))) = some r := H
            have A63 := Aside0.mk A630
            clear A630
            replace H := Option.bind_eq_some_iff.mp H
            obtain ⟨t570, A640, H⟩ := H
            replace H : (if t570 = true then ((laws_markLog.f kj13 t548 t551 1).bind fun bt571 => (if bt571.1 < 0 then (laws_FnExactAppend.j1 kj13 a1 t546 true l0_0 l0_1 t540 t543 t555 t558) else ((laws_eqLog.f kj13 t555 t558 t540 t543).bind fun t574 => (if t574 = true then (laws_FnExactAppend.j1 kj13 a1 t546 (t561 != t546) l0_0 l0_1 t540 t543 t555 t558) else (laws_FnExactAppend.j1 kj13 a1 t546 true l0_0 l0_1 t540 t543 t555 t558))))) else (none)) = some r := H
            have A64 := Aside0.mk A640
            clear A640
            by_cases c65 : t570 = true
            · subst c65
              have H1 : ((laws_markLog.f kj13 t548 t551 1).bind fun bt571 => (if bt571.1 < 0 then (laws_FnExactAppend.j1 kj13 a1 t546 true l0_0 l0_1 t540 t543 t555 t558) else ((laws_eqLog.f kj13 t555 t558 t540 t543).bind fun t574 => (if t574 = true then (laws_FnExactAppend.j1 kj13 a1 t546 (t561 != t546) l0_0 l0_1 t540 t543 t555 t558) else (laws_FnExactAppend.j1 kj13 a1 t546 true l0_0 l0_1 t540 t543 t555 t558))))) = some r := by rw [if_pos rfl] at H; exact H
              clear H
              have H := H1
              clear H1
              replace H := Option.bind_eq_some_iff.mp H
              obtain ⟨⟨t571, t572, t573⟩, A660, H⟩ := H
              replace H : (if t571 < 0 then (laws_FnExactAppend.j1 kj13 a1 t546 true l0_0 l0_1 t540 t543 t555 t558) else ((laws_eqLog.f kj13 t555 t558 t540 t543).bind fun t574 => (if t574 = true then (laws_FnExactAppend.j1 kj13 a1 t546 (t561 != t546) l0_0 l0_1 t540 t543 t555 t558) else (laws_FnExactAppend.j1 kj13 a1 t546 true l0_0 l0_1 t540 t543 t555 t558)))) = some r := H
              have A66 := Aside0.mk A660
              clear A660
              have HC67 := Aside0.mk H
              clear H
              try go_wp2
              have n0_ := Aside0.mk (Kd.R_drew HO_548000.out)
              have n1_ := Aside0.mk (Kd.R_drew HO_548001.out)
              have n2_ := Aside0.mk (Kd.R_drew HO_555000.out)
              have n3_ := Aside0.mk (Kd.R_drew HO_555001.out)
              have n4_ := Aside0.mk (Kd.R_drew HO_563000.out)
              have n5_ := Aside0.mk (Kd.R_drew HO_563001.out)
              have n6_ := Aside0.mk (blk_drew BK532.out)
              have n7_ := Aside0.mk (blk_drew BK547.out)
              have n8_ := Aside0.mk (blk_drew BK554.out)
              have n9_ := Aside0.mk (blk_drew BK562.out)
              have n10_ := Aside0.mk (below_drew1 HB.out)
              clear HO_548000
              clear HO_548001
              clear HO_555000
              clear HO_555001
              clear HO_563000
              clear HO_563001
              clear BK532
              clear BK547
              clear BK554
              clear BK562
              clear HB
              have HO_548000 := n0_
              have HO_548001 := n1_
              have HO_555000 := n2_
              have HO_555001 := n3_
              have HO_563000 := n4_
              have HO_563001 := n5_
              have BK532 := n6_
              have BK547 := n7_
              have BK554 := n8_
              have BK562 := n9_
              have HB := n10_
              clear n0_ n1_ n2_ n3_ n4_ n5_ n6_ n7_ n8_ n9_ n10_
              refine start_ (n := 5) (S := fun w' => w'.cell? ⟨gb554, 0, none⟩ = some (.slice Ao31 t548.length co31) ∧ w'.cell? ⟨gb554, 1, none⟩ = some (.slice Ao35 t551.length co35) ∧ w'.cell? ⟨gb532, 0, none⟩ = some (.slice A0_0 l0_0.length c0_0) ∧ w'.cell? ⟨gb532, 1, none⟩ = some (.slice A0_1 l0_1.length c0_1)) (ds := []) #[false, false, false, false, false] (by kernel_rfl) rfl rfl ⟨(blk_cell BK554.out 0).trans rfl, (blk_cell BK554.out 1).trans rfl, (blk_cell BK532.out 0).trans rfl, (blk_cell BK532.out 1).trans rfl⟩ (fun hHeld => ?_)
              generalize wc.drew = w68 at HO_548000 HO_548001 HO_555000 HO_555001 HO_563000 HO_563001 BK532 BK547 BK554 BK562 HB hHeld ⊢
              refine take_ (i := 0) (N := some 48) (v := ?_) (a' := ?_) #[true, false, false, false, false] rfl rfl (by kernel_rfl) (fun _ _ _ h => h) (Or.inl ⟨by rfl, ?_⟩) hHeld ?_ ?_
              rotate_left
              · rintro w' ⟨s0, s1, s2, s3⟩
                go_simp
                with_reducible rfl
              rotate_left
              · simp only [Act.put, List.setIfInBounds_toArray, List.set_cons_zero, List.set_cons_succ, i64_w, i32_w]
                rfl
              refine take_ (i := 1) (N := some 49) (v := ?_) (a' := ?_) #[true, true, false, false, false] rfl rfl (by kernel_rfl) (fun _ _ _ h => h) (Or.inl ⟨by rfl, ?_⟩) hHeld ?_ ?_
              rotate_left
              · rintro w' ⟨s0, s1, s2, s3⟩
                go_simp
                with_reducible rfl
              rotate_left
              · simp only [Act.put, List.setIfInBounds_toArray, List.set_cons_zero, List.set_cons_succ, i64_w, i32_w]
                rfl
              refine one_ (i := 2) (N := some 50) #[true, true, true, false, false] rfl rfl (by kernel_rfl) (by decide) (fun K hK => ?_)
              refine goes_ Try.func19 (by kernel_rfl) rfl #[.agg #[.slice A0_0 l0_0.length c0_0, .slice A0_1 l0_1.length c0_1]] (by rfl) rfl rfl (by (try simp only [List.map_toArray, List.map_cons, List.map_nil]); first | done | rfl | (simp only [List.length_drop, List.length_take]; rfl)) ?_
              with_reducible refine (laws_toLog.calls kj13 _ _ l0_0 _ _ l0_1 t564 t567 _ ?side1 ?side2 ?side3 ?side4 A63.out).mono ?_
              (case side1 => repeat (first | exact (Kd.C_below HR0_0.out HB.out) | (with_reducible refine Kd.C_alloc ?_ _) | (with_reducible refine Kd.C_drewN ?_ _) | (with_reducible refine Kd.C_drew ?_)))
              (case side2 => exact HC0_0.out)
              (case side3 => repeat (first | exact (Kd.C_below HR0_1.out HB.out) | (with_reducible refine Kd.C_alloc ?_ _) | (with_reducible refine Kd.C_drewN ?_ _) | (with_reducible refine Kd.C_drew ?_)))
              (case side4 => exact HC0_1.out)
              rintro e w69 ⟨v565, v568, rfl, ho0, ho1, hb⟩
              refine ⟨_, rfl, ?_⟩
              have n0_ := Aside0.mk (Kd.R_mono (Kd.R_told (Kd.R_told (Kd.R_old (by (with_reducible repeat (first | apply Kd.R_alloc | apply Kd.R_drewN | apply Kd.R_drew)); exact HO_548000.out) hb) (Kd.R_base ho0)) (Kd.R_base ho1)) (fun _ h_ => h_.1))
              have n1_ := Aside0.mk (Kd.R_mono (Kd.R_told (Kd.R_told (Kd.R_old (by (with_reducible repeat (first | apply Kd.R_alloc | apply Kd.R_drewN | apply Kd.R_drew)); exact HO_548001.out) hb) (Kd.R_base ho0)) (Kd.R_base ho1)) (fun _ h_ => h_.1))
              have n2_ := Aside0.mk (Kd.R_mono (Kd.R_told (Kd.R_told (Kd.R_old (by (with_reducible repeat (first | apply Kd.R_alloc | apply Kd.R_drewN | apply Kd.R_drew)); exact HO_555000.out) hb) (Kd.R_base ho0)) (Kd.R_base ho1)) (fun _ h_ => h_.1))
              have n3_ := Aside0.mk (Kd.R_mono (Kd.R_told (Kd.R_told (Kd.R_old (by (with_reducible repeat (first | apply Kd.R_alloc | apply Kd.R_drewN | apply Kd.R_drew)); exact HO_555001.out) hb) (Kd.R_base ho0)) (Kd.R_base ho1)) (fun _ h_ => h_.1))
              have n4_ := Aside0.mk (Kd.R_mono (Kd.R_told (Kd.R_told (Kd.R_old (by (with_reducible repeat (first | apply Kd.R_alloc | apply Kd.R_drewN | apply Kd.R_drew)); exact HO_563000.out) hb) (Kd.R_base ho0)) (Kd.R_base ho1)) (fun _ h_ => h_.1))
              have n5_ := Aside0.mk (Kd.R_mono (Kd.R_told (Kd.R_told (Kd.R_old (by (with_reducible repeat (first | apply Kd.R_alloc | apply Kd.R_drewN | apply Kd.R_drew)); exact HO_563001.out) hb) (Kd.R_base ho0)) (Kd.R_base ho1)) (fun _ h_ => h_.1))
              have n6_ := Aside0.mk (Kd.R_lower (Kd.R_new' (Kd.R_new' (Kd.R_new' (Kd.R_new' (Kd.R_new' (Kd.R_new' ho0 (Kd.R_lt (by (with_reducible repeat (first | apply Kd.R_alloc | apply Kd.R_drewN | apply Kd.R_drew)); exact HO_548000.out))) (Kd.R_lt (by (with_reducible repeat (first | apply Kd.R_alloc | apply Kd.R_drewN | apply Kd.R_drew)); exact HO_548001.out))) (Kd.R_lt (by (with_reducible repeat (first | apply Kd.R_alloc | apply Kd.R_drewN | apply Kd.R_drew)); exact HO_555000.out))) (Kd.R_lt (by (with_reducible repeat (first | apply Kd.R_alloc | apply Kd.R_drewN | apply Kd.R_drew)); exact HO_555001.out))) (Kd.R_lt (by (with_reducible repeat (first | apply Kd.R_alloc | apply Kd.R_drewN | apply Kd.R_drew)); exact HO_563000.out))) (Kd.R_lt (by (with_reducible repeat (first | apply Kd.R_alloc | apply Kd.R_drewN | apply Kd.R_drew)); exact HO_563001.out))) (below_size (by repeat (first | (with_reducible first | exact HB.out | apply below_alloc | apply pw_below_drewN | apply below_drew1 | refine below_set ?_ GE532.out | refine below_set ?_ GE547.out | refine below_set ?_ GE554.out | refine below_set ?_ GE562.out) | exact HB.out))))
              have n7_ := Aside0.mk (Kd.R_lower (Kd.R_new' (Kd.R_new' (Kd.R_new' (Kd.R_new' (Kd.R_new' (Kd.R_new' ho1 (Kd.R_lt (by (with_reducible repeat (first | apply Kd.R_alloc | apply Kd.R_drewN | apply Kd.R_drew)); exact HO_548000.out))) (Kd.R_lt (by (with_reducible repeat (first | apply Kd.R_alloc | apply Kd.R_drewN | apply Kd.R_drew)); exact HO_548001.out))) (Kd.R_lt (by (with_reducible repeat (first | apply Kd.R_alloc | apply Kd.R_drewN | apply Kd.R_drew)); exact HO_555000.out))) (Kd.R_lt (by (with_reducible repeat (first | apply Kd.R_alloc | apply Kd.R_drewN | apply Kd.R_drew)); exact HO_555001.out))) (Kd.R_lt (by (with_reducible repeat (first | apply Kd.R_alloc | apply Kd.R_drewN | apply Kd.R_drew)); exact HO_563000.out))) (Kd.R_lt (by (with_reducible repeat (first | apply Kd.R_alloc | apply Kd.R_drewN | apply Kd.R_drew)); exact HO_563001.out))) (below_size (by repeat (first | (with_reducible first | exact HB.out | apply below_alloc | apply pw_below_drewN | apply below_drew1 | refine below_set ?_ GE532.out | refine below_set ?_ GE547.out | refine below_set ?_ GE554.out | refine below_set ?_ GE562.out) | exact HB.out))))
              have n8_ := Aside0.mk (blk_below (g := gb532) (o := .cells #[.slice A0_0 l0_0.length c0_0, .slice A0_1 l0_1.length c0_1] 27 (0, 0)) (by (with_reducible repeat (first | refine blk_drewN ?_ _ | refine blk_drew ?_ | refine blk_alloc ?_ _)); exact BK532.out) hb)
              have n9_ := Aside0.mk (blk_below (g := gb547) (o := .cells #[.slice Ao24 t540.length co24, .slice Ao27 t543.length co27] 30 (0, 0)) (by (with_reducible repeat (first | refine blk_drewN ?_ _ | refine blk_drew ?_ | refine blk_alloc ?_ _)); exact BK547.out) hb)
              have n10_ := Aside0.mk (blk_below (g := gb554) (o := .cells #[.slice Ao31 t548.length co31, .slice Ao35 t551.length co35] 30 (0, 0)) (by (with_reducible repeat (first | refine blk_drewN ?_ _ | refine blk_drew ?_ | refine blk_alloc ?_ _)); exact BK554.out) hb)
              have n11_ := Aside0.mk (blk_below (g := gb562) (o := .cells #[.slice Ao38 t555.length co38, .slice Ao43 t558.length co43] 30 (0, 0)) (by (with_reducible repeat (first | refine blk_drewN ?_ _ | refine blk_drew ?_ | refine blk_alloc ?_ _)); exact BK562.out) hb)
              have n12_ := Aside0.mk (below_step (by repeat (first | (with_reducible first | exact HB.out | apply below_alloc | apply pw_below_drewN | apply below_drew1 | refine below_set ?_ GE532.out | refine below_set ?_ GE547.out | refine below_set ?_ GE554.out | refine below_set ?_ GE562.out) | exact HB.out)) hb)
              clear HO_548000
              clear HO_548001
              clear HO_555000
              clear HO_555001
              clear HO_563000
              clear HO_563001
              clear BK532
              clear BK547
              clear BK554
              clear BK562
              clear HB
              have HO_548000 := n0_
              have HO_548001 := n1_
              have HO_555000 := n2_
              have HO_555001 := n3_
              have HO_563000 := n4_
              have HO_563001 := n5_
              have HO566 := n6_
              have HO569 := n7_
              have BK532 := n8_
              have BK547 := n9_
              have BK554 := n10_
              have BK562 := n11_
              have HB := n12_
              clear n0_ n1_ n2_ n3_ n4_ n5_ n6_ n7_ n8_ n9_ n10_ n11_ n12_
              (try clear hb)
              (try clear hb2)
              (try clear hk)
              (try clear hi)
              (try clear ho0)
              (try clear ho1)
              obtain ⟨Ao70, co70, eo70⟩ := Kd.R_slice HO566.out
              (first | subst eo70 | (injection eo70 with f1_ f2_ f3_; have f4_ := f1_.symm; have f5_ := f3_.symm; clear f1_ f2_ f3_; subst f4_; subst f5_))
              obtain ⟨Ao71, co71, eo71⟩ := Kd.R_slice HO569.out
              (first | subst eo71 | (injection eo71 with f1_ f2_ f3_; have f4_ := f1_.symm; have f5_ := f3_.symm; clear f1_ f2_ f3_; subst f4_; subst f5_))
              refine hK.out _ _ ⟨(blk_cell BK554.out 0).trans rfl, (blk_cell BK554.out 1).trans rfl, (blk_cell BK532.out 0).trans rfl, (blk_cell BK532.out 1).trans rfl⟩ (fun hHeld => ?_)
              clear hK K
              refine norm_ (a' := ?_) ?_ ?_
              rotate_left
              · show Act.put _ (some 50) _ = _
                simp only [Act.put, List.setIfInBounds_toArray, List.set_cons_zero, List.set_cons_succ, i64_w, i32_w]
                rfl
              refine one_ (i := 3) (N := some 51) #[true, true, true, true, false] rfl rfl (by kernel_rfl) (by decide) (fun K hK => ?_)
              refine goes_ Try.func21 (by kernel_rfl) rfl #[.agg #[.slice Ao31 t548.length co31, .slice Ao35 t551.length co35], .agg #[.slice Ao70 t564.length co70, .slice Ao71 t567.length co71]] (by rfl) rfl rfl (by (try simp only [List.map_toArray, List.map_cons, List.map_nil]); first | done | rfl | (simp only [List.length_drop, List.length_take]; rfl)) ?_
              with_reducible refine (laws_eqLog.calls kj13 _ _ t548 _ _ t551 _ _ t564 _ _ t567 true _ ?side1 ?side2 ?side3 ?side4 ?side5 ?side6 ?side7 ?side8 A64.out).mono ?_
              (case side1 => repeat (first | exact (Kd.R_reads' HO_555000.out).2.2 | (with_reducible refine Kd.C_alloc ?_ _) | (with_reducible refine Kd.C_drewN ?_ _) | (with_reducible refine Kd.C_drew ?_)))
              (case side2 => exact (Kd.R_reads' HO_555000.out).2.1)
              (case side3 => repeat (first | exact (Kd.R_reads' HO_555001.out).2.2 | (with_reducible refine Kd.C_alloc ?_ _) | (with_reducible refine Kd.C_drewN ?_ _) | (with_reducible refine Kd.C_drew ?_)))
              (case side4 => exact (Kd.R_reads' HO_555001.out).2.1)
              (case side5 => repeat (first | exact (Kd.R_reads' HO566.out).2.2 | (with_reducible refine Kd.C_alloc ?_ _) | (with_reducible refine Kd.C_drewN ?_ _) | (with_reducible refine Kd.C_drew ?_)))
              (case side6 => exact (Kd.R_reads' HO566.out).2.1)
              (case side7 => repeat (first | exact (Kd.R_reads' HO569.out).2.2 | (with_reducible refine Kd.C_alloc ?_ _) | (with_reducible refine Kd.C_drewN ?_ _) | (with_reducible refine Kd.C_drew ?_)))
              (case side8 => exact (Kd.R_reads' HO569.out).2.1)
              rintro e w72 ⟨rfl, hb⟩
              refine ⟨_, rfl, ?_⟩
              have n0_ := Aside0.mk (Kd.R_below (by (with_reducible repeat (first | apply Kd.R_alloc | apply Kd.R_drewN | apply Kd.R_drew)); exact HO_548000.out) hb)
              have n1_ := Aside0.mk (Kd.R_below (by (with_reducible repeat (first | apply Kd.R_alloc | apply Kd.R_drewN | apply Kd.R_drew)); exact HO_548001.out) hb)
              have n2_ := Aside0.mk (Kd.R_below (by (with_reducible repeat (first | apply Kd.R_alloc | apply Kd.R_drewN | apply Kd.R_drew)); exact HO_555000.out) hb)
              have n3_ := Aside0.mk (Kd.R_below (by (with_reducible repeat (first | apply Kd.R_alloc | apply Kd.R_drewN | apply Kd.R_drew)); exact HO_555001.out) hb)
              have n4_ := Aside0.mk (Kd.R_below (by (with_reducible repeat (first | apply Kd.R_alloc | apply Kd.R_drewN | apply Kd.R_drew)); exact HO_563000.out) hb)
              have n5_ := Aside0.mk (Kd.R_below (by (with_reducible repeat (first | apply Kd.R_alloc | apply Kd.R_drewN | apply Kd.R_drew)); exact HO_563001.out) hb)
              have n6_ := Aside0.mk (Kd.R_below (by (with_reducible repeat (first | apply Kd.R_alloc | apply Kd.R_drewN | apply Kd.R_drew)); exact HO566.out) hb)
              have n7_ := Aside0.mk (Kd.R_below (by (with_reducible repeat (first | apply Kd.R_alloc | apply Kd.R_drewN | apply Kd.R_drew)); exact HO569.out) hb)
              have n8_ := Aside0.mk (blk_below (g := gb532) (o := .cells #[.slice A0_0 l0_0.length c0_0, .slice A0_1 l0_1.length c0_1] 27 (0, 0)) (by (with_reducible repeat (first | refine blk_drewN ?_ _ | refine blk_drew ?_ | refine blk_alloc ?_ _)); exact BK532.out) hb)
              have n9_ := Aside0.mk (blk_below (g := gb547) (o := .cells #[.slice Ao24 t540.length co24, .slice Ao27 t543.length co27] 30 (0, 0)) (by (with_reducible repeat (first | refine blk_drewN ?_ _ | refine blk_drew ?_ | refine blk_alloc ?_ _)); exact BK547.out) hb)
              have n10_ := Aside0.mk (blk_below (g := gb554) (o := .cells #[.slice Ao31 t548.length co31, .slice Ao35 t551.length co35] 30 (0, 0)) (by (with_reducible repeat (first | refine blk_drewN ?_ _ | refine blk_drew ?_ | refine blk_alloc ?_ _)); exact BK554.out) hb)
              have n11_ := Aside0.mk (blk_below (g := gb562) (o := .cells #[.slice Ao38 t555.length co38, .slice Ao43 t558.length co43] 30 (0, 0)) (by (with_reducible repeat (first | refine blk_drewN ?_ _ | refine blk_drew ?_ | refine blk_alloc ?_ _)); exact BK562.out) hb)
              have n12_ := Aside0.mk (below_step (by repeat (first | (with_reducible first | exact HB.out | apply below_alloc | apply pw_below_drewN | apply below_drew1 | refine below_set ?_ GE532.out | refine below_set ?_ GE547.out | refine below_set ?_ GE554.out | refine below_set ?_ GE562.out) | exact HB.out)) hb)
              clear HO_548000
              clear HO_548001
              clear HO_555000
              clear HO_555001
              clear HO_563000
              clear HO_563001
              clear HO566
              clear HO569
              clear BK532
              clear BK547
              clear BK554
              clear BK562
              clear HB
              have HO_548000 := n0_
              have HO_548001 := n1_
              have HO_555000 := n2_
              have HO_555001 := n3_
              have HO_563000 := n4_
              have HO_563001 := n5_
              have HO566 := n6_
              have HO569 := n7_
              have BK532 := n8_
              have BK547 := n9_
              have BK554 := n10_
              have BK562 := n11_
              have HB := n12_
              clear n0_ n1_ n2_ n3_ n4_ n5_ n6_ n7_ n8_ n9_ n10_ n11_ n12_
              (try clear hb)
              (try clear hb2)
              (try clear hk)
              (try clear hi)
              refine hK.out _ _ ⟨(blk_cell BK554.out 0).trans rfl, (blk_cell BK554.out 1).trans rfl, (blk_cell BK532.out 0).trans rfl, (blk_cell BK532.out 1).trans rfl⟩ (fun hHeld => ?_)
              clear hK K
              refine norm_ (a' := ?_) ?_ ?_
              rotate_left
              · show Act.put _ (some 51) _ = _
                simp only [Act.put, List.setIfInBounds_toArray, List.set_cons_zero, List.set_cons_succ, i64_w, i32_w]
                rfl
              refine pure_ (i := 4) (N := some 52) (v := ?_) (a' := ?_) #[true, true, true, true, true] rfl rfl (by kernel_rfl) (fun _ _ _ h => h) (Or.inl ⟨by rfl, ?_⟩) ?_ ?_
              rotate_left
              · intro w'
                go_simp
                with_reducible rfl
              rotate_left
              · simp only [Act.put, List.setIfInBounds_toArray, List.set_cons_zero, List.set_cons_succ, i64_w, i32_w]
                rfl
              refine done_ (by kernel_rfl) ?_
              have hnb73 := NB554_532.out
              have hnc73 := NB532_554.out
              have hnb74 := NB554_547.out
              have hnc74 := NB547_554.out
              have hnb75 := NB554_562.out
              have hnc75 := NB562_554.out
              have hcz76_0 : w72.cell? ⟨gb554, 0, none⟩ = some (.slice Ao31 t548.length co31) := (blk_cell BK554.out 0).trans rfl
              have hcz76_1 : w72.cell? ⟨gb554, 1, none⟩ = some (.slice Ao35 t551.length co35) := (blk_cell BK554.out 1).trans rfl
              have hfz76_0 := blk_frozen BK554.out 0
              have hfz76_1 := blk_frozen BK554.out 1
              go_upto_region 16 with (first | ((with_reducible refine gate_callee (f := 33) rfl ?_); refine goesL_ (some 55) rfl rfl Try.func33 (by kernel_rfl) rfl #[.agg #[.slice Ao31 t548.length co31, .slice Ao35 t551.length co35], .int .i64 1] rfl (by (try simp only [List.map_toArray, List.map_cons, List.map_nil]); first | done | rfl | (simp only [List.length_drop, List.length_take]; rfl)) ?_; (with_reducible refine (laws_markLog.calls kj13 (fun k_ => some k_ = (.slice Ao31 t548.length co31 : Value).ownBlock) (.slice Ao31 t548.length co31) t548 (fun k_ => some k_ = (.slice Ao35 t551.length co35 : Value).ownBlock) (.slice Ao35 t551.length co35) t551 1 t571 t572 t573 w _ ?side1 ?side2 ?side3 ?side4 ?side5 A66.out).mono ?_); (case side1 => repeat (first | (with_reducible first | exact HB.out | apply below_alloc | apply pw_below_drewN | apply below_drew1 | refine below_set ?_ GE532.out | refine below_set ?_ GE547.out | refine below_set ?_ GE554.out | refine below_set ?_ GE562.out) | exact HB.out)); (case side2 => exact Kd.R_tight rfl HO_555000.out); (case side3 => exact fun k_ e_ => (HO_555000.out.1 k_ e_.symm).1.1.2.2.1); (case side4 => exact Kd.R_tight rfl HO_555001.out); (case side5 => exact fun k_ e_ => (HO_555001.out.1 k_ e_.symm).1.1.2.2.1); rintro e w77 ⟨rfl, hy0, hy1, hb, hkp⟩; refine ⟨_, rfl, ?_⟩; have n0_ := Aside0.mk (Kd.R_mono (ok' := fun k_ => some k_ ≠ (.slice Ao27 t543.length co27 : Value).ownBlock ∧ some k_ ≠ (.slice Ao31 t548.length co31 : Value).ownBlock ∧ some k_ ≠ (.slice Ao35 t551.length co35 : Value).ownBlock ∧ some k_ ≠ (.slice Ao38 t555.length co38 : Value).ownBlock ∧ some k_ ≠ (.slice Ao43 t558.length co43 : Value).ownBlock ∧ some k_ ≠ (.slice Ao70 t564.length co70 : Value).ownBlock ∧ some k_ ≠ (.slice Ao71 t567.length co71 : Value).ownBlock) (Kd.R_keptB (HO_548000.out) hkp (fun k_ hk_ hs_ => Or.elim hs_ (fun e_ => (hk_.1.1.2.1) e_) (fun e_ => (hk_.1.1.2.2.1) e_))) (fun k_ hk_ => ⟨hk_.1.1.1.1, hk_.1.1.1.2.1, hk_.1.1.1.2.2.1, hk_.1.1.1.2.2.2.1, hk_.1.1.1.2.2.2.2, hk_.1.1.2, hk_.1.2⟩)); have n1_ := Aside0.mk (Kd.R_mono (ok' := fun k_ => some k_ ≠ (.slice Ao24 t540.length co24 : Value).ownBlock ∧ some k_ ≠ (.slice Ao31 t548.length co31 : Value).ownBlock ∧ some k_ ≠ (.slice Ao35 t551.length co35 : Value).ownBlock ∧ some k_ ≠ (.slice Ao38 t555.length co38 : Value).ownBlock ∧ some k_ ≠ (.slice Ao43 t558.length co43 : Value).ownBlock ∧ some k_ ≠ (.slice Ao70 t564.length co70 : Value).ownBlock ∧ some k_ ≠ (.slice Ao71 t567.length co71 : Value).ownBlock) (Kd.R_keptB (HO_548001.out) hkp (fun k_ hk_ hs_ => Or.elim hs_ (fun e_ => (hk_.1.1.2.1) e_) (fun e_ => (hk_.1.1.2.2.1) e_))) (fun k_ hk_ => ⟨hk_.1.1.1.1, hk_.1.1.1.2.1, hk_.1.1.1.2.2.1, hk_.1.1.1.2.2.2.1, hk_.1.1.1.2.2.2.2, hk_.1.1.2, hk_.1.2⟩)); have n2_ := Aside0.mk (Kd.R_reok rfl hy0 (fun k_ e_ => HO_555000.out.1 k_ e_)); have n3_ := Aside0.mk (Kd.R_reok rfl hy1 (fun k_ e_ => HO_555001.out.1 k_ e_)); have n4_ := Aside0.mk (Kd.R_mono (ok' := fun k_ => some k_ ≠ (.slice Ao24 t540.length co24 : Value).ownBlock ∧ some k_ ≠ (.slice Ao27 t543.length co27 : Value).ownBlock ∧ some k_ ≠ (.slice Ao31 t548.length co31 : Value).ownBlock ∧ some k_ ≠ (.slice Ao35 t551.length co35 : Value).ownBlock ∧ some k_ ≠ (.slice Ao43 t558.length co43 : Value).ownBlock ∧ some k_ ≠ (.slice Ao70 t564.length co70 : Value).ownBlock ∧ some k_ ≠ (.slice Ao71 t567.length co71 : Value).ownBlock) (Kd.R_keptB (HO_563000.out) hkp (fun k_ hk_ hs_ => Or.elim hs_ (fun e_ => (hk_.1.1.2.2.1) e_) (fun e_ => (hk_.1.1.2.2.2.1) e_))) (fun k_ hk_ => ⟨hk_.1.1.1.1, hk_.1.1.1.2.1, hk_.1.1.1.2.2.1, hk_.1.1.1.2.2.2.1, hk_.1.1.1.2.2.2.2, hk_.1.1.2, hk_.1.2⟩)); have n5_ := Aside0.mk (Kd.R_mono (ok' := fun k_ => some k_ ≠ (.slice Ao24 t540.length co24 : Value).ownBlock ∧ some k_ ≠ (.slice Ao27 t543.length co27 : Value).ownBlock ∧ some k_ ≠ (.slice Ao31 t548.length co31 : Value).ownBlock ∧ some k_ ≠ (.slice Ao35 t551.length co35 : Value).ownBlock ∧ some k_ ≠ (.slice Ao38 t555.length co38 : Value).ownBlock ∧ some k_ ≠ (.slice Ao70 t564.length co70 : Value).ownBlock ∧ some k_ ≠ (.slice Ao71 t567.length co71 : Value).ownBlock) (Kd.R_keptB (HO_563001.out) hkp (fun k_ hk_ hs_ => Or.elim hs_ (fun e_ => (hk_.1.1.2.2.1) e_) (fun e_ => (hk_.1.1.2.2.2.1) e_))) (fun k_ hk_ => ⟨hk_.1.1.1.1, hk_.1.1.1.2.1, hk_.1.1.1.2.2.1, hk_.1.1.1.2.2.2.1, hk_.1.1.1.2.2.2.2, hk_.1.1.2, hk_.1.2⟩)); have n6_ := Aside0.mk (blk_kept (by (with_reducible repeat (first | refine blk_drewN ?_ _ | refine blk_drew ?_ | refine blk_alloc ?_ _)); exact BK532.out) hkp (fun hs_ => Or.elim hs_ (fun e_ => (fun e_ => (Kd.R_ne HO_555000.out BK532.out (by decide)) e_) e_) (fun e_ => (fun e_ => (Kd.R_ne HO_555001.out BK532.out (by decide)) e_) e_))); have n7_ := Aside0.mk (blk_kept (by (with_reducible repeat (first | refine blk_drewN ?_ _ | refine blk_drew ?_ | refine blk_alloc ?_ _)); exact BK547.out) hkp (fun hs_ => Or.elim hs_ (fun e_ => (fun e_ => (Kd.R_ne HO_555000.out BK547.out (by decide)) e_) e_) (fun e_ => (fun e_ => (Kd.R_ne HO_555001.out BK547.out (by decide)) e_) e_))); have n8_ := Aside0.mk (blk_kept (by (with_reducible repeat (first | refine blk_drewN ?_ _ | refine blk_drew ?_ | refine blk_alloc ?_ _)); exact BK554.out) hkp (fun hs_ => Or.elim hs_ (fun e_ => (fun e_ => (Kd.R_ne HO_555000.out BK554.out (by decide)) e_) e_) (fun e_ => (fun e_ => (Kd.R_ne HO_555001.out BK554.out (by decide)) e_) e_))); have n9_ := Aside0.mk (blk_kept (by (with_reducible repeat (first | refine blk_drewN ?_ _ | refine blk_drew ?_ | refine blk_alloc ?_ _)); exact BK562.out) hkp (fun hs_ => Or.elim hs_ (fun e_ => (fun e_ => (Kd.R_ne HO_555000.out BK562.out (by decide)) e_) e_) (fun e_ => (fun e_ => (Kd.R_ne HO_555001.out BK562.out (by decide)) e_) e_))); have n10_ := Aside0.mk (Kd.R_mono (ok' := fun k_ => some k_ ≠ (.slice Ao24 t540.length co24 : Value).ownBlock ∧ some k_ ≠ (.slice Ao27 t543.length co27 : Value).ownBlock ∧ some k_ ≠ (.slice Ao31 t548.length co31 : Value).ownBlock ∧ some k_ ≠ (.slice Ao35 t551.length co35 : Value).ownBlock ∧ some k_ ≠ (.slice Ao38 t555.length co38 : Value).ownBlock ∧ some k_ ≠ (.slice Ao43 t558.length co43 : Value).ownBlock ∧ some k_ ≠ (.slice Ao71 t567.length co71 : Value).ownBlock) (Kd.R_keptB (HO566.out) hkp (fun k_ hk_ hs_ => Or.elim hs_ (fun e_ => (hk_.1.1.1.2) e_) (fun e_ => (hk_.1.1.2) e_))) (fun k_ hk_ => ⟨hk_.1.1.1.1.1.1.2, hk_.1.1.1.1.1.2, hk_.1.1.1.1.2, hk_.1.1.1.2, hk_.1.1.2, hk_.1.2, hk_.1.1.1.1.1.1.1⟩)); have n11_ := Aside0.mk (Kd.R_mono (ok' := fun k_ => some k_ ≠ (.slice Ao24 t540.length co24 : Value).ownBlock ∧ some k_ ≠ (.slice Ao27 t543.length co27 : Value).ownBlock ∧ some k_ ≠ (.slice Ao31 t548.length co31 : Value).ownBlock ∧ some k_ ≠ (.slice Ao35 t551.length co35 : Value).ownBlock ∧ some k_ ≠ (.slice Ao38 t555.length co38 : Value).ownBlock ∧ some k_ ≠ (.slice Ao43 t558.length co43 : Value).ownBlock ∧ some k_ ≠ (.slice Ao70 t564.length co70 : Value).ownBlock) (Kd.R_keptB (HO569.out) hkp (fun k_ hk_ hs_ => Or.elim hs_ (fun e_ => (hk_.1.1.1.2) e_) (fun e_ => (hk_.1.1.2) e_))) (fun k_ hk_ => ⟨hk_.1.1.1.1.1.1.2, hk_.1.1.1.1.1.2, hk_.1.1.1.1.2, hk_.1.1.1.2, hk_.1.1.2, hk_.1.2, hk_.1.1.1.1.1.1.1⟩)); have n12_ := Aside0.mk (hb); clear HO_548000; clear HO_548001; clear HO_555000; clear HO_555001; clear HO_563000; clear HO_563001; clear BK532; clear BK547; clear BK554; clear BK562; clear HO566; clear HO569; clear HB; have HO_548000 := n0_; have HO_548001 := n1_; have HO_555000 := n2_; have HO_555001 := n3_; have HO_563000 := n4_; have HO_563001 := n5_; have BK532 := n6_; have BK547 := n7_; have BK554 := n8_; have BK562 := n9_; have HO566 := n10_; have HO569 := n11_; have HB := n12_; clear n0_ n1_ n2_ n3_ n4_ n5_ n6_ n7_ n8_ n9_ n10_ n11_ n12_; (try clear hb); (try clear hkp); (try clear hy0); (try clear hy1)))
              (try simp only [Act.put, List.setIfInBounds_toArray, List.set_cons_zero, List.set_cons_succ])
              go_cut [68] (fun v68 wc => ∃ (kq : Nat) (x68_66 : Bool), v68 = .bool x68_66 ∧ Aside0 (laws_FnExactAppend.j1 kq a1 t546 x68_66 l0_0 l0_1 t540 t543 t555 t558 = some r) ∧ Aside0 (kq ≤ kj13) ∧ Aside0 (Kd.R Kd.string 9 wc w.heap.size (fun k_ => some k_ ≠ ((.slice Ao27 t543.length co27) : Value).ownBlock ∧ some k_ ≠ ((.slice Ao31 t548.length co31) : Value).ownBlock ∧ some k_ ≠ ((.slice Ao35 t551.length co35) : Value).ownBlock ∧ some k_ ≠ ((.slice Ao38 t555.length co38) : Value).ownBlock ∧ some k_ ≠ ((.slice Ao43 t558.length co43) : Value).ownBlock) (.slice Ao24 t540.length co24) t540) ∧ Aside0 (Kd.R Kd.string 9 wc w.heap.size (fun k_ => some k_ ≠ ((.slice Ao24 t540.length co24) : Value).ownBlock ∧ some k_ ≠ ((.slice Ao31 t548.length co31) : Value).ownBlock ∧ some k_ ≠ ((.slice Ao35 t551.length co35) : Value).ownBlock ∧ some k_ ≠ ((.slice Ao38 t555.length co38) : Value).ownBlock ∧ some k_ ≠ ((.slice Ao43 t558.length co43) : Value).ownBlock) (.slice Ao27 t543.length co27) t543) ∧ Aside0 (Kd.R Kd.string 9 wc w.heap.size (fun k_ => some k_ ≠ ((.slice Ao24 t540.length co24) : Value).ownBlock ∧ some k_ ≠ ((.slice Ao27 t543.length co27) : Value).ownBlock ∧ some k_ ≠ ((.slice Ao35 t551.length co35) : Value).ownBlock ∧ some k_ ≠ ((.slice Ao38 t555.length co38) : Value).ownBlock ∧ some k_ ≠ ((.slice Ao43 t558.length co43) : Value).ownBlock) (.slice Ao31 t548.length co31) t572) ∧ Aside0 (Kd.R Kd.string 9 wc w.heap.size (fun k_ => some k_ ≠ ((.slice Ao24 t540.length co24) : Value).ownBlock ∧ some k_ ≠ ((.slice Ao27 t543.length co27) : Value).ownBlock ∧ some k_ ≠ ((.slice Ao31 t548.length co31) : Value).ownBlock ∧ some k_ ≠ ((.slice Ao38 t555.length co38) : Value).ownBlock ∧ some k_ ≠ ((.slice Ao43 t558.length co43) : Value).ownBlock) (.slice Ao35 t551.length co35) t573) ∧ Aside0 (Kd.R Kd.string 9 wc w.heap.size (fun k_ => some k_ ≠ ((.slice Ao24 t540.length co24) : Value).ownBlock ∧ some k_ ≠ ((.slice Ao27 t543.length co27) : Value).ownBlock ∧ some k_ ≠ ((.slice Ao31 t548.length co31) : Value).ownBlock ∧ some k_ ≠ ((.slice Ao35 t551.length co35) : Value).ownBlock ∧ some k_ ≠ ((.slice Ao43 t558.length co43) : Value).ownBlock) (.slice Ao38 t555.length co38) t555) ∧ Aside0 (Kd.R Kd.string 9 wc w.heap.size (fun k_ => some k_ ≠ ((.slice Ao24 t540.length co24) : Value).ownBlock ∧ some k_ ≠ ((.slice Ao27 t543.length co27) : Value).ownBlock ∧ some k_ ≠ ((.slice Ao31 t548.length co31) : Value).ownBlock ∧ some k_ ≠ ((.slice Ao35 t551.length co35) : Value).ownBlock ∧ some k_ ≠ ((.slice Ao38 t555.length co38) : Value).ownBlock) (.slice Ao43 t558.length co43) t558) ∧ Aside0 (wc.heap[gb532]? = some (.cells #[(.slice A0_0 l0_0.length c0_0), (.slice A0_1 l0_1.length c0_1)] 27 (0, 0))) ∧ Aside0 (wc.heap[gb547]? = some (.cells #[(.slice Ao24 t540.length co24), (.slice Ao27 t543.length co27)] 30 (0, 0))) ∧ Aside0 (wc.heap[gb554]? = some (.cells #[(.slice Ao31 t548.length co31), (.slice Ao35 t551.length co35)] 30 (0, 0))) ∧ Aside0 (wc.heap[gb562]? = some (.cells #[(.slice Ao38 t555.length co38), (.slice Ao43 t558.length co43)] 30 (0, 0))) ∧ Aside0 (Below w.heap.size w wc))
              case first =>
                have H := HC67.out
                clear HC67
                by_cases c78 : t571 < 0
                · rw [if_pos c78] at H
                  have c78b0 : decide (t571 < 0) = true := decide_eq_true c78
                  clear c78
                  (first | rw [c78b0] | (simp only [i64_w, i32_w]; rw [c78b0]) | skip)
                  have H' := Aside0.mk H
                  clear H
                  go_wp2
                  go_meet
                  case rel => exact ⟨_, (true), (by first | rfl | (simp; done) | (simp [*]; done)), H', ⟨by have := HJ13.out; first | omega | exact Nat.le_refl _⟩, ⟨by (with_reducible repeat (first | apply Kd.R_alloc | apply Kd.R_drewN | apply Kd.R_drew)); exact Kd.R_mono HO_548000.out (fun _ hk => ⟨hk.1, ⟨hk.2.1, ⟨hk.2.2.1, ⟨hk.2.2.2.1, hk.2.2.2.2.1⟩⟩⟩⟩)⟩, ⟨by (with_reducible repeat (first | apply Kd.R_alloc | apply Kd.R_drewN | apply Kd.R_drew)); exact Kd.R_mono HO_548001.out (fun _ hk => ⟨hk.1, ⟨hk.2.1, ⟨hk.2.2.1, ⟨hk.2.2.2.1, hk.2.2.2.2.1⟩⟩⟩⟩)⟩, ⟨by (with_reducible repeat (first | apply Kd.R_alloc | apply Kd.R_drewN | apply Kd.R_drew)); exact Kd.R_mono HO_555000.out (fun _ hk => ⟨hk.1.1.1, ⟨hk.1.1.2.1, ⟨hk.1.1.2.2.1, ⟨hk.1.1.2.2.2.1, hk.1.1.2.2.2.2⟩⟩⟩⟩)⟩, ⟨by (with_reducible repeat (first | apply Kd.R_alloc | apply Kd.R_drewN | apply Kd.R_drew)); exact Kd.R_mono HO_555001.out (fun _ hk => ⟨hk.1.1.1, ⟨hk.1.1.2.1, ⟨hk.1.1.2.2.1, ⟨hk.1.1.2.2.2.1, hk.1.1.2.2.2.2⟩⟩⟩⟩)⟩, ⟨by (with_reducible repeat (first | apply Kd.R_alloc | apply Kd.R_drewN | apply Kd.R_drew)); exact Kd.R_mono HO_563000.out (fun _ hk => ⟨hk.1, ⟨hk.2.1, ⟨hk.2.2.1, ⟨hk.2.2.2.1, hk.2.2.2.2.1⟩⟩⟩⟩)⟩, ⟨by (with_reducible repeat (first | apply Kd.R_alloc | apply Kd.R_drewN | apply Kd.R_drew)); exact Kd.R_mono HO_563001.out (fun _ hk => ⟨hk.1, ⟨hk.2.1, ⟨hk.2.2.1, ⟨hk.2.2.2.1, hk.2.2.2.2.1⟩⟩⟩⟩)⟩, ⟨by (with_reducible repeat (first | refine blk_drewN ?_ _ | refine blk_drew ?_ | refine blk_alloc ?_ _)); exact BK532.out⟩, ⟨by (with_reducible repeat (first | refine blk_drewN ?_ _ | refine blk_drew ?_ | refine blk_alloc ?_ _)); exact BK547.out⟩, ⟨by (with_reducible repeat (first | refine blk_drewN ?_ _ | refine blk_drew ?_ | refine blk_alloc ?_ _)); exact BK554.out⟩, ⟨by (with_reducible repeat (first | refine blk_drewN ?_ _ | refine blk_drew ?_ | refine blk_alloc ?_ _)); exact BK562.out⟩, ⟨by repeat (first | (with_reducible first | exact HB.out | apply below_alloc | apply pw_below_drewN | apply below_drew1 | refine below_set ?_ GE532.out | refine below_set ?_ GE547.out | refine below_set ?_ GE554.out | refine below_set ?_ GE562.out) | exact HB.out)⟩⟩
                · rw [if_neg c78] at H
                  have c78b0 : decide (t571 < 0) = false := decide_eq_false c78
                  clear c78
                  (first | rw [c78b0] | (simp only [i64_w, i32_w]; rw [c78b0]) | skip)
                  replace H := Option.bind_eq_some_iff.mp H
                  obtain ⟨t574, A790, H⟩ := H
                  replace H : (if t574 = true then (laws_FnExactAppend.j1 kj13 a1 t546 (t561 != t546) l0_0 l0_1 t540 t543 t555 t558) else (laws_FnExactAppend.j1 kj13 a1 t546 true l0_0 l0_1 t540 t543 t555 t558)) = some r := H
                  have A79 := Aside0.mk A790
                  clear A790
                  by_cases c80 : t574 = true
                  · subst c80
                    have H1 : (laws_FnExactAppend.j1 kj13 a1 t546 (t561 != t546) l0_0 l0_1 t540 t543 t555 t558) = some r := by rw [if_pos rfl] at H; exact H
                    clear H
                    have H := H1
                    clear H1
                    have H' := Aside0.mk H
                    clear H
                    have hnb81 := NB562_532.out
                    have hnc81 := NB532_562.out
                    have hnb82 := NB562_547.out
                    have hnc82 := NB547_562.out
                    have hnb83 := NB562_554.out
                    have hnc83 := NB554_562.out
                    have hcz84_0 : w77.cell? ⟨gb562, 0, none⟩ = some (.slice Ao38 t555.length co38) := (blk_cell BK562.out 0).trans rfl
                    have hcz84_1 : w77.cell? ⟨gb562, 1, none⟩ = some (.slice Ao43 t558.length co43) := (blk_cell BK562.out 1).trans rfl
                    have hfz84_0 := blk_frozen BK562.out 0
                    have hfz84_1 := blk_frozen BK562.out 1
                    have hnb85 := NB547_532.out
                    have hnc85 := NB532_547.out
                    have hnb86 := NB547_554.out
                    have hnc86 := NB554_547.out
                    have hcz87_0 : w77.cell? ⟨gb547, 0, none⟩ = some (.slice Ao24 t540.length co24) := (blk_cell BK547.out 0).trans rfl
                    have hcz87_1 : w77.cell? ⟨gb547, 1, none⟩ = some (.slice Ao27 t543.length co27) := (blk_cell BK547.out 1).trans rfl
                    have hfz87_0 := blk_frozen BK547.out 0
                    have hfz87_1 := blk_frozen BK547.out 1
                    go_wp2_with (first | (go_at_call 21; (with_reducible refine (laws_eqLog.calls kj13 _ _ t555 _ _ t558 _ _ t540 _ _ t543 true _ ?side1 ?side2 ?side3 ?side4 ?side5 ?side6 ?side7 ?side8 A79.out).mono ?_); (case side1 => repeat (first | exact (Kd.R_reads' HO_563000.out).2.2 | (with_reducible refine Kd.C_alloc ?_ _) | (with_reducible refine Kd.C_drewN ?_ _) | (with_reducible refine Kd.C_drew ?_))); (case side2 => exact (Kd.R_reads' HO_563000.out).2.1); (case side3 => repeat (first | exact (Kd.R_reads' HO_563001.out).2.2 | (with_reducible refine Kd.C_alloc ?_ _) | (with_reducible refine Kd.C_drewN ?_ _) | (with_reducible refine Kd.C_drew ?_))); (case side4 => exact (Kd.R_reads' HO_563001.out).2.1); (case side5 => repeat (first | exact (Kd.R_reads' HO_548000.out).2.2 | (with_reducible refine Kd.C_alloc ?_ _) | (with_reducible refine Kd.C_drewN ?_ _) | (with_reducible refine Kd.C_drew ?_))); (case side6 => exact (Kd.R_reads' HO_548000.out).2.1); (case side7 => repeat (first | exact (Kd.R_reads' HO_548001.out).2.2 | (with_reducible refine Kd.C_alloc ?_ _) | (with_reducible refine Kd.C_drewN ?_ _) | (with_reducible refine Kd.C_drew ?_))); (case side8 => exact (Kd.R_reads' HO_548001.out).2.1); rintro e w88 ⟨rfl, hb⟩; have n0_ := Aside0.mk (Kd.R_below (by (with_reducible repeat (first | apply Kd.R_alloc | apply Kd.R_drewN | apply Kd.R_drew)); exact HO_548000.out) hb); have n1_ := Aside0.mk (Kd.R_below (by (with_reducible repeat (first | apply Kd.R_alloc | apply Kd.R_drewN | apply Kd.R_drew)); exact HO_548001.out) hb); have n2_ := Aside0.mk (Kd.R_below (by (with_reducible repeat (first | apply Kd.R_alloc | apply Kd.R_drewN | apply Kd.R_drew)); exact HO_555000.out) hb); have n3_ := Aside0.mk (Kd.R_below (by (with_reducible repeat (first | apply Kd.R_alloc | apply Kd.R_drewN | apply Kd.R_drew)); exact HO_555001.out) hb); have n4_ := Aside0.mk (Kd.R_below (by (with_reducible repeat (first | apply Kd.R_alloc | apply Kd.R_drewN | apply Kd.R_drew)); exact HO_563000.out) hb); have n5_ := Aside0.mk (Kd.R_below (by (with_reducible repeat (first | apply Kd.R_alloc | apply Kd.R_drewN | apply Kd.R_drew)); exact HO_563001.out) hb); have n6_ := Aside0.mk (Kd.R_below (by (with_reducible repeat (first | apply Kd.R_alloc | apply Kd.R_drewN | apply Kd.R_drew)); exact HO566.out) hb); have n7_ := Aside0.mk (Kd.R_below (by (with_reducible repeat (first | apply Kd.R_alloc | apply Kd.R_drewN | apply Kd.R_drew)); exact HO569.out) hb); have n8_ := Aside0.mk (blk_below (g := gb532) (o := .cells #[.slice A0_0 l0_0.length c0_0, .slice A0_1 l0_1.length c0_1] 27 (0, 0)) (by (with_reducible repeat (first | refine blk_drewN ?_ _ | refine blk_drew ?_ | refine blk_alloc ?_ _)); exact BK532.out) hb); have n9_ := Aside0.mk (blk_below (g := gb547) (o := .cells #[.slice Ao24 t540.length co24, .slice Ao27 t543.length co27] 30 (0, 0)) (by (with_reducible repeat (first | refine blk_drewN ?_ _ | refine blk_drew ?_ | refine blk_alloc ?_ _)); exact BK547.out) hb); have n10_ := Aside0.mk (blk_below (g := gb554) (o := .cells #[.slice Ao31 t548.length co31, .slice Ao35 t551.length co35] 30 (0, 0)) (by (with_reducible repeat (first | refine blk_drewN ?_ _ | refine blk_drew ?_ | refine blk_alloc ?_ _)); exact BK554.out) hb); have n11_ := Aside0.mk (blk_below (g := gb562) (o := .cells #[.slice Ao38 t555.length co38, .slice Ao43 t558.length co43] 30 (0, 0)) (by (with_reducible repeat (first | refine blk_drewN ?_ _ | refine blk_drew ?_ | refine blk_alloc ?_ _)); exact BK562.out) hb); have n12_ := Aside0.mk (below_step (by repeat (first | (with_reducible first | exact HB.out | apply below_alloc | apply pw_below_drewN | apply below_drew1 | refine below_set ?_ GE532.out | refine below_set ?_ GE547.out | refine below_set ?_ GE554.out | refine below_set ?_ GE562.out) | exact HB.out)) hb); clear HO_548000; clear HO_548001; clear HO_555000; clear HO_555001; clear HO_563000; clear HO_563001; clear HO566; clear HO569; clear BK532; clear BK547; clear BK554; clear BK562; clear HB; have HO_548000 := n0_; have HO_548001 := n1_; have HO_555000 := n2_; have HO_555001 := n3_; have HO_563000 := n4_; have HO_563001 := n5_; have HO566 := n6_; have HO569 := n7_; have BK532 := n8_; have BK547 := n9_; have BK554 := n10_; have BK562 := n11_; have HB := n12_; clear n0_ n1_ n2_ n3_ n4_ n5_ n6_ n7_ n8_ n9_ n10_ n11_ n12_; (try clear hb); (try clear hb2); (try clear hk); (try clear hi)))
                    go_meet
                    case rel => exact ⟨_, ((t561 != t546)), (by first | rfl | (simp; done) | (simp [*]; done)), H', ⟨by have := HJ13.out; first | omega | exact Nat.le_refl _⟩, ⟨by (with_reducible repeat (first | apply Kd.R_alloc | apply Kd.R_drewN | apply Kd.R_drew)); exact Kd.R_mono HO_548000.out (fun _ hk => ⟨hk.1, ⟨hk.2.1, ⟨hk.2.2.1, ⟨hk.2.2.2.1, hk.2.2.2.2.1⟩⟩⟩⟩)⟩, ⟨by (with_reducible repeat (first | apply Kd.R_alloc | apply Kd.R_drewN | apply Kd.R_drew)); exact Kd.R_mono HO_548001.out (fun _ hk => ⟨hk.1, ⟨hk.2.1, ⟨hk.2.2.1, ⟨hk.2.2.2.1, hk.2.2.2.2.1⟩⟩⟩⟩)⟩, ⟨by (with_reducible repeat (first | apply Kd.R_alloc | apply Kd.R_drewN | apply Kd.R_drew)); exact Kd.R_mono HO_555000.out (fun _ hk => ⟨hk.1.1.1, ⟨hk.1.1.2.1, ⟨hk.1.1.2.2.1, ⟨hk.1.1.2.2.2.1, hk.1.1.2.2.2.2⟩⟩⟩⟩)⟩, ⟨by (with_reducible repeat (first | apply Kd.R_alloc | apply Kd.R_drewN | apply Kd.R_drew)); exact Kd.R_mono HO_555001.out (fun _ hk => ⟨hk.1.1.1, ⟨hk.1.1.2.1, ⟨hk.1.1.2.2.1, ⟨hk.1.1.2.2.2.1, hk.1.1.2.2.2.2⟩⟩⟩⟩)⟩, ⟨by (with_reducible repeat (first | apply Kd.R_alloc | apply Kd.R_drewN | apply Kd.R_drew)); exact Kd.R_mono HO_563000.out (fun _ hk => ⟨hk.1, ⟨hk.2.1, ⟨hk.2.2.1, ⟨hk.2.2.2.1, hk.2.2.2.2.1⟩⟩⟩⟩)⟩, ⟨by (with_reducible repeat (first | apply Kd.R_alloc | apply Kd.R_drewN | apply Kd.R_drew)); exact Kd.R_mono HO_563001.out (fun _ hk => ⟨hk.1, ⟨hk.2.1, ⟨hk.2.2.1, ⟨hk.2.2.2.1, hk.2.2.2.2.1⟩⟩⟩⟩)⟩, ⟨by (with_reducible repeat (first | refine blk_drewN ?_ _ | refine blk_drew ?_ | refine blk_alloc ?_ _)); exact BK532.out⟩, ⟨by (with_reducible repeat (first | refine blk_drewN ?_ _ | refine blk_drew ?_ | refine blk_alloc ?_ _)); exact BK547.out⟩, ⟨by (with_reducible repeat (first | refine blk_drewN ?_ _ | refine blk_drew ?_ | refine blk_alloc ?_ _)); exact BK554.out⟩, ⟨by (with_reducible repeat (first | refine blk_drewN ?_ _ | refine blk_drew ?_ | refine blk_alloc ?_ _)); exact BK562.out⟩, ⟨by repeat (first | (with_reducible first | exact HB.out | apply below_alloc | apply pw_below_drewN | apply below_drew1 | refine below_set ?_ GE532.out | refine below_set ?_ GE547.out | refine below_set ?_ GE554.out | refine below_set ?_ GE562.out) | exact HB.out)⟩⟩
                  · replace c80 := Bool.eq_false_iff.mpr c80
                    subst c80
                    have H1 : (laws_FnExactAppend.j1 kj13 a1 t546 true l0_0 l0_1 t540 t543 t555 t558) = some r := by rw [if_neg (show ¬ (false = true) by decide)] at H; exact H
                    clear H
                    have H := H1
                    clear H1
                    have H' := Aside0.mk H
                    clear H
                    have hnb89 := NB562_532.out
                    have hnc89 := NB532_562.out
                    have hnb90 := NB562_547.out
                    have hnc90 := NB547_562.out
                    have hnb91 := NB562_554.out
                    have hnc91 := NB554_562.out
                    have hcz92_0 : w77.cell? ⟨gb562, 0, none⟩ = some (.slice Ao38 t555.length co38) := (blk_cell BK562.out 0).trans rfl
                    have hcz92_1 : w77.cell? ⟨gb562, 1, none⟩ = some (.slice Ao43 t558.length co43) := (blk_cell BK562.out 1).trans rfl
                    have hfz92_0 := blk_frozen BK562.out 0
                    have hfz92_1 := blk_frozen BK562.out 1
                    have hnb93 := NB547_532.out
                    have hnc93 := NB532_547.out
                    have hnb94 := NB547_554.out
                    have hnc94 := NB554_547.out
                    have hcz95_0 : w77.cell? ⟨gb547, 0, none⟩ = some (.slice Ao24 t540.length co24) := (blk_cell BK547.out 0).trans rfl
                    have hcz95_1 : w77.cell? ⟨gb547, 1, none⟩ = some (.slice Ao27 t543.length co27) := (blk_cell BK547.out 1).trans rfl
                    have hfz95_0 := blk_frozen BK547.out 0
                    have hfz95_1 := blk_frozen BK547.out 1
                    go_wp2_with (first | (go_at_call 21; (with_reducible refine (laws_eqLog.calls kj13 _ _ t555 _ _ t558 _ _ t540 _ _ t543 false _ ?side1 ?side2 ?side3 ?side4 ?side5 ?side6 ?side7 ?side8 A79.out).mono ?_); (case side1 => repeat (first | exact (Kd.R_reads' HO_563000.out).2.2 | (with_reducible refine Kd.C_alloc ?_ _) | (with_reducible refine Kd.C_drewN ?_ _) | (with_reducible refine Kd.C_drew ?_))); (case side2 => exact (Kd.R_reads' HO_563000.out).2.1); (case side3 => repeat (first | exact (Kd.R_reads' HO_563001.out).2.2 | (with_reducible refine Kd.C_alloc ?_ _) | (with_reducible refine Kd.C_drewN ?_ _) | (with_reducible refine Kd.C_drew ?_))); (case side4 => exact (Kd.R_reads' HO_563001.out).2.1); (case side5 => repeat (first | exact (Kd.R_reads' HO_548000.out).2.2 | (with_reducible refine Kd.C_alloc ?_ _) | (with_reducible refine Kd.C_drewN ?_ _) | (with_reducible refine Kd.C_drew ?_))); (case side6 => exact (Kd.R_reads' HO_548000.out).2.1); (case side7 => repeat (first | exact (Kd.R_reads' HO_548001.out).2.2 | (with_reducible refine Kd.C_alloc ?_ _) | (with_reducible refine Kd.C_drewN ?_ _) | (with_reducible refine Kd.C_drew ?_))); (case side8 => exact (Kd.R_reads' HO_548001.out).2.1); rintro e w96 ⟨rfl, hb⟩; have n0_ := Aside0.mk (Kd.R_below (by (with_reducible repeat (first | apply Kd.R_alloc | apply Kd.R_drewN | apply Kd.R_drew)); exact HO_548000.out) hb); have n1_ := Aside0.mk (Kd.R_below (by (with_reducible repeat (first | apply Kd.R_alloc | apply Kd.R_drewN | apply Kd.R_drew)); exact HO_548001.out) hb); have n2_ := Aside0.mk (Kd.R_below (by (with_reducible repeat (first | apply Kd.R_alloc | apply Kd.R_drewN | apply Kd.R_drew)); exact HO_555000.out) hb); have n3_ := Aside0.mk (Kd.R_below (by (with_reducible repeat (first | apply Kd.R_alloc | apply Kd.R_drewN | apply Kd.R_drew)); exact HO_555001.out) hb); have n4_ := Aside0.mk (Kd.R_below (by (with_reducible repeat (first | apply Kd.R_alloc | apply Kd.R_drewN | apply Kd.R_drew)); exact HO_563000.out) hb); have n5_ := Aside0.mk (Kd.R_below (by (with_reducible repeat (first | apply Kd.R_alloc | apply Kd.R_drewN | apply Kd.R_drew)); exact HO_563001.out) hb); have n6_ := Aside0.mk (Kd.R_below (by (with_reducible repeat (first | apply Kd.R_alloc | apply Kd.R_drewN | apply Kd.R_drew)); exact HO566.out) hb); have n7_ := Aside0.mk (Kd.R_below (by (with_reducible repeat (first | apply Kd.R_alloc | apply Kd.R_drewN | apply Kd.R_drew)); exact HO569.out) hb); have n8_ := Aside0.mk (blk_below (g := gb532) (o := .cells #[.slice A0_0 l0_0.length c0_0, .slice A0_1 l0_1.length c0_1] 27 (0, 0)) (by (with_reducible repeat (first | refine blk_drewN ?_ _ | refine blk_drew ?_ | refine blk_alloc ?_ _)); exact BK532.out) hb); have n9_ := Aside0.mk (blk_below (g := gb547) (o := .cells #[.slice Ao24 t540.length co24, .slice Ao27 t543.length co27] 30 (0, 0)) (by (with_reducible repeat (first | refine blk_drewN ?_ _ | refine blk_drew ?_ | refine blk_alloc ?_ _)); exact BK547.out) hb); have n10_ := Aside0.mk (blk_below (g := gb554) (o := .cells #[.slice Ao31 t548.length co31, .slice Ao35 t551.length co35] 30 (0, 0)) (by (with_reducible repeat (first | refine blk_drewN ?_ _ | refine blk_drew ?_ | refine blk_alloc ?_ _)); exact BK554.out) hb); have n11_ := Aside0.mk (blk_below (g := gb562) (o := .cells #[.slice Ao38 t555.length co38, .slice Ao43 t558.length co43] 30 (0, 0)) (by (with_reducible repeat (first | refine blk_drewN ?_ _ | refine blk_drew ?_ | refine blk_alloc ?_ _)); exact BK562.out) hb); have n12_ := Aside0.mk (below_step (by repeat (first | (with_reducible first | exact HB.out | apply below_alloc | apply pw_below_drewN | apply below_drew1 | refine below_set ?_ GE532.out | refine below_set ?_ GE547.out | refine below_set ?_ GE554.out | refine below_set ?_ GE562.out) | exact HB.out)) hb); clear HO_548000; clear HO_548001; clear HO_555000; clear HO_555001; clear HO_563000; clear HO_563001; clear HO566; clear HO569; clear BK532; clear BK547; clear BK554; clear BK562; clear HB; have HO_548000 := n0_; have HO_548001 := n1_; have HO_555000 := n2_; have HO_555001 := n3_; have HO_563000 := n4_; have HO_563001 := n5_; have HO566 := n6_; have HO569 := n7_; have BK532 := n8_; have BK547 := n9_; have BK554 := n10_; have BK562 := n11_; have HB := n12_; clear n0_ n1_ n2_ n3_ n4_ n5_ n6_ n7_ n8_ n9_ n10_ n11_ n12_; (try clear hb); (try clear hb2); (try clear hk); (try clear hi)))
                    go_meet
                    case rel => exact ⟨_, (true), (by first | rfl | (simp; done) | (simp [*]; done)), H', ⟨by have := HJ13.out; first | omega | exact Nat.le_refl _⟩, ⟨by (with_reducible repeat (first | apply Kd.R_alloc | apply Kd.R_drewN | apply Kd.R_drew)); exact Kd.R_mono HO_548000.out (fun _ hk => ⟨hk.1, ⟨hk.2.1, ⟨hk.2.2.1, ⟨hk.2.2.2.1, hk.2.2.2.2.1⟩⟩⟩⟩)⟩, ⟨by (with_reducible repeat (first | apply Kd.R_alloc | apply Kd.R_drewN | apply Kd.R_drew)); exact Kd.R_mono HO_548001.out (fun _ hk => ⟨hk.1, ⟨hk.2.1, ⟨hk.2.2.1, ⟨hk.2.2.2.1, hk.2.2.2.2.1⟩⟩⟩⟩)⟩, ⟨by (with_reducible repeat (first | apply Kd.R_alloc | apply Kd.R_drewN | apply Kd.R_drew)); exact Kd.R_mono HO_555000.out (fun _ hk => ⟨hk.1.1.1, ⟨hk.1.1.2.1, ⟨hk.1.1.2.2.1, ⟨hk.1.1.2.2.2.1, hk.1.1.2.2.2.2⟩⟩⟩⟩)⟩, ⟨by (with_reducible repeat (first | apply Kd.R_alloc | apply Kd.R_drewN | apply Kd.R_drew)); exact Kd.R_mono HO_555001.out (fun _ hk => ⟨hk.1.1.1, ⟨hk.1.1.2.1, ⟨hk.1.1.2.2.1, ⟨hk.1.1.2.2.2.1, hk.1.1.2.2.2.2⟩⟩⟩⟩)⟩, ⟨by (with_reducible repeat (first | apply Kd.R_alloc | apply Kd.R_drewN | apply Kd.R_drew)); exact Kd.R_mono HO_563000.out (fun _ hk => ⟨hk.1, ⟨hk.2.1, ⟨hk.2.2.1, ⟨hk.2.2.2.1, hk.2.2.2.2.1⟩⟩⟩⟩)⟩, ⟨by (with_reducible repeat (first | apply Kd.R_alloc | apply Kd.R_drewN | apply Kd.R_drew)); exact Kd.R_mono HO_563001.out (fun _ hk => ⟨hk.1, ⟨hk.2.1, ⟨hk.2.2.1, ⟨hk.2.2.2.1, hk.2.2.2.2.1⟩⟩⟩⟩)⟩, ⟨by (with_reducible repeat (first | refine blk_drewN ?_ _ | refine blk_drew ?_ | refine blk_alloc ?_ _)); exact BK532.out⟩, ⟨by (with_reducible repeat (first | refine blk_drewN ?_ _ | refine blk_drew ?_ | refine blk_alloc ?_ _)); exact BK547.out⟩, ⟨by (with_reducible repeat (first | refine blk_drewN ?_ _ | refine blk_drew ?_ | refine blk_alloc ?_ _)); exact BK554.out⟩, ⟨by (with_reducible repeat (first | refine blk_drewN ?_ _ | refine blk_drew ?_ | refine blk_alloc ?_ _)); exact BK562.out⟩, ⟨by repeat (first | (with_reducible first | exact HB.out | apply below_alloc | apply pw_below_drewN | apply below_drew1 | refine below_set ?_ GE532.out | refine below_set ?_ GE547.out | refine below_set ?_ GE554.out | refine below_set ?_ GE562.out) | exact HB.out)⟩⟩
              case rest =>
                clear HC67
                try clear c1
                try clear c2
                try clear p2
                try clear c3
                try clear c3b0
                try clear c3b1
                try clear c4
                try clear c5
                try clear c6
                try clear c6b0
                try clear c7
                try clear c8
                try clear c9
                try clear c10
                try clear c17
                try clear c19
                try clear c21
                try clear c25
                try clear c32
                try clear c33
                try clear c37
                try clear c38
                try clear c39
                try clear c40
                try clear c41
                try clear c45
                try clear c46
                try clear c47
                try clear c48
                try clear c50
                try clear c51
                try clear c54
                try clear c55
                try clear c56
                try clear c58
                try clear c59
                try clear c62
                try clear c65
                try clear c73
                try clear c74
                try clear c75
                try clear c78
                try clear c78b0
                try clear c80
                try clear c81
                try clear c82
                try clear c83
                try clear c85
                try clear c86
                try clear c89
                try clear c90
                try clear c91
                try clear c93
                try clear c94
                try clear hcz16_0
                try clear hcz16_1
                try clear hcz18_0
                try clear hcz18_1
                try clear hcz26_0
                try clear hcz26_1
                try clear hcz28_0
                try clear hcz28_1
                try clear hcz34_0
                try clear hcz34_1
                try clear hcz42_0
                try clear hcz42_1
                try clear hcz49_0
                try clear hcz49_1
                try clear hcz52_0
                try clear hcz52_1
                try clear hcz57_0
                try clear hcz57_1
                try clear hcz60_0
                try clear hcz60_1
                try clear hcz76_0
                try clear hcz76_1
                try clear hcz84_0
                try clear hcz84_1
                try clear hcz87_0
                try clear hcz87_1
                try clear hcz8_0
                try clear hcz8_1
                try clear hcz92_0
                try clear hcz92_1
                try clear hcz95_0
                try clear hcz95_1
                try clear hfz16_0
                try clear hfz16_1
                try clear hfz18_0
                try clear hfz18_1
                try clear hfz26_0
                try clear hfz26_1
                try clear hfz28_0
                try clear hfz28_1
                try clear hfz34_0
                try clear hfz34_1
                try clear hfz42_0
                try clear hfz42_1
                try clear hfz49_0
                try clear hfz49_1
                try clear hfz52_0
                try clear hfz52_1
                try clear hfz57_0
                try clear hfz57_1
                try clear hfz60_0
                try clear hfz60_1
                try clear hfz76_0
                try clear hfz76_1
                try clear hfz84_0
                try clear hfz84_1
                try clear hfz87_0
                try clear hfz87_1
                try clear hfz8_0
                try clear hfz8_1
                try clear hfz92_0
                try clear hfz92_1
                try clear hfz95_0
                try clear hfz95_1
                try clear p2
                obtain ⟨kq, x68_66, rfl, HA, HJ66, HO_548000, HO_548001, HO_555000, HO_555001, HO_563000, HO_563001, BK532, BK547, BK554, BK562, HB⟩ := hcut
                have hl555000_66 := (Kd.R_reads' HO_555000.out).1
                rw [hl555000_66] at HO_555000
                (try simp only [hl555000_66])
                (try simp only [hl555000_66] at BK532)
                (try simp only [hl555000_66] at BK547)
                (try simp only [hl555000_66] at BK554)
                (try simp only [hl555000_66] at BK562)
                (try simp only [hl555000_66] at HO_548000)
                (try simp only [hl555000_66] at HO_548001)
                (try simp only [hl555000_66] at HO_555001)
                (try simp only [hl555000_66] at HO_563000)
                (try simp only [hl555000_66] at HO_563001)
                have hl555001_66 := (Kd.R_reads' HO_555001.out).1
                rw [hl555001_66] at HO_555001
                (try simp only [hl555001_66])
                (try simp only [hl555001_66] at BK532)
                (try simp only [hl555001_66] at BK547)
                (try simp only [hl555001_66] at BK554)
                (try simp only [hl555001_66] at BK562)
                (try simp only [hl555001_66] at HO_548000)
                (try simp only [hl555001_66] at HO_548001)
                (try simp only [hl555001_66] at HO_555000)
                (try simp only [hl555001_66] at HO_563000)
                (try simp only [hl555001_66] at HO_563001)
                cases kq with
                | zero => exact absurd HA.out (by simp [laws_FnExactAppend.j1])
                | succ kj66 =>
                  have H := HA.out
                  clear HA
                  simp only [laws_FnExactAppend.j1] at H
                  by_cases c97 : x68_66 = true
                  · subst c97
                    have H1 : (none) = some r := by rw [if_pos rfl] at H; exact H
                    clear H
                    have H := H1
                    clear H1
                    exact absurd H (by simp)
                  · replace c97 := Bool.eq_false_iff.mpr c97
                    subst c97
                    have H1 : ((laws_markLog.f kj66 t555 t558 1).bind fun bt575 => ((laws_heldLog.f kj66 bt575.2.1 bt575.2.2 1).bind fun t578 => (if t578 < 0 then (none) else (if t578 = bt575.1 then ((laws_toLog.f kj66 l0_0 l0_1).bind fun bt579 => ((impl_Append.f kj66 bt579.1 bt579.2 a1).bind fun bt585 => ((laws_eqLog.f kj66 bt585.1 bt585.2.1 t540 t543).bind fun t593 => (if t593 = true then (laws_FnExactAppend.j2 kj66 bt575.1 (bt585.2.2 != t546) bt575.2.1 bt575.2.2) else (laws_FnExactAppend.j2 kj66 bt575.1 true bt575.2.1 bt575.2.2))))) else (none))))) = some r := by rw [if_neg (show ¬ (false = true) by decide)] at H; exact H
                    clear H
                    have H := H1
                    clear H1
                    replace H := Option.bind_eq_some_iff.mp H
                    obtain ⟨⟨t575, t576, t577⟩, A980, H⟩ := H
                    replace H : ((laws_heldLog.f kj66 t576 t577 1).bind fun t578 => (if t578 < 0 then (none) else (if t578 = t575 then ((laws_toLog.f kj66 l0_0 l0_1).bind fun bt579 => ((impl_Append.f kj66 bt579.1 bt579.2 a1).bind fun bt585 => ((laws_eqLog.f kj66 bt585.1 bt585.2.1 t540 t543).bind fun t593 => (if t593 = true then (laws_FnExactAppend.j2 kj66 t575 (bt585.2.2 != t546) t576 t577) else (laws_FnExactAppend.j2 kj66 t575 true t576 t577))))) else (none)))) = some r := H
                    have A98 := Aside0.mk A980
                    clear A980
                    replace H := Option.bind_eq_some_iff.mp H
                    obtain ⟨t578, A990, H⟩ := H
                    replace H : (if t578 < 0 then (none) else (if t578 = t575 then ((laws_toLog.f kj66 l0_0 l0_1).bind fun bt579 => ((impl_Append.f kj66 bt579.1 bt579.2 a1).bind fun bt585 => ((laws_eqLog.f kj66 bt585.1 bt585.2.1 t540 t543).bind fun t593 => (if t593 = true then (laws_FnExactAppend.j2 kj66 t575 (bt585.2.2 != t546) t576 t577) else (laws_FnExactAppend.j2 kj66 t575 true t576 t577))))) else (none))) = some r := H
                    have A99 := Aside0.mk A990
                    clear A990
                    by_cases c100 : t578 < 0
                    · rw [if_pos c100] at H
                      exact absurd H (by simp)
                    · rw [if_neg c100] at H
                      have c100b0 : decide (t578 < 0) = false := decide_eq_false c100
                      clear c100
                      by_cases c101 : t578 = t575
                      · rw [if_pos c101] at H
                        have c101b0 : (t578 == t575) = true := beq_iff_eq.mpr c101
                        have c101b1 : (t578 != t575) = false := bne_eq_false_iff_eq.mpr c101
                        clear c101
                        replace H := Option.bind_eq_some_iff.mp H
                        obtain ⟨⟨t579, t582⟩, A1020, H⟩ := H
                        replace H : ((impl_Append.f kj66 t579 t582 a1).bind fun bt585 => ((laws_eqLog.f kj66 bt585.1 bt585.2.1 t540 t543).bind fun t593 => (if t593 = true then (laws_FnExactAppend.j2 kj66 t575 (bt585.2.2 != t546) t576 t577) else (laws_FnExactAppend.j2 kj66 t575 true t576 t577)))) = some r := H
                        have A102 := Aside0.mk A1020
                        clear A1020
                        replace H := Option.bind_eq_some_iff.mp H
                        obtain ⟨⟨t585, t588, t591⟩, A1030, H⟩ := H
                        replace H : ((laws_eqLog.f kj66 t585 t588 t540 t543).bind fun t593 => (if t593 = true then (laws_FnExactAppend.j2 kj66 t575 (t591 != t546) t576 t577) else (laws_FnExactAppend.j2 kj66 t575 true t576 t577))) = some r := H
                        have A103 := Aside0.mk A1030
                        clear A1030
                        have HC104 := Aside0.mk H
                        clear H
                        have hnb105 := NB562_532.out
                        have hnc105 := NB532_562.out
                        have hnb106 := NB562_547.out
                        have hnc106 := NB547_562.out
                        have hnb107 := NB562_554.out
                        have hnc107 := NB554_562.out
                        have hcz108_0 : wc.cell? ⟨gb562, 0, none⟩ = some (.slice Ao38 t555.length co38) := (blk_cell BK562.out 0).trans rfl
                        have hcz108_1 : wc.cell? ⟨gb562, 1, none⟩ = some (.slice Ao43 t558.length co43) := (blk_cell BK562.out 1).trans rfl
                        have hfz108_0 := blk_frozen BK562.out 0
                        have hfz108_1 := blk_frozen BK562.out 1
                        go_upto_region 27 with (first | ((with_reducible refine gate_callee (f := 33) rfl ?_); refine goesL_ (some 71) rfl rfl Try.func33 (by kernel_rfl) rfl #[.agg #[.slice Ao38 t555.length co38, .slice Ao43 t558.length co43], .int .i64 1] rfl (by (try simp only [List.map_toArray, List.map_cons, List.map_nil]); first | done | rfl | (simp only [List.length_drop, List.length_take]; rfl)) ?_; (with_reducible refine (laws_markLog.calls kj66 (fun k_ => some k_ = (.slice Ao38 t555.length co38 : Value).ownBlock) (.slice Ao38 t555.length co38) t555 (fun k_ => some k_ = (.slice Ao43 t558.length co43 : Value).ownBlock) (.slice Ao43 t558.length co43) t558 1 t575 t576 t577 w _ ?side1 ?side2 ?side3 ?side4 ?side5 A98.out).mono ?_); (case side1 => repeat (first | (with_reducible first | exact HB.out | apply below_alloc | apply pw_below_drewN | apply below_drew1 | refine below_set ?_ GE532.out | refine below_set ?_ GE547.out | refine below_set ?_ GE554.out | refine below_set ?_ GE562.out) | exact HB.out)); (case side2 => exact Kd.R_tight rfl HO_563000.out); (case side3 => exact fun k_ e_ => (HO_563000.out.1 k_ e_.symm).2.2.2.2); (case side4 => exact Kd.R_tight rfl HO_563001.out); (case side5 => exact fun k_ e_ => (HO_563001.out.1 k_ e_.symm).2.2.2.2); rintro e w109 ⟨rfl, hy0, hy1, hb, hkp⟩; refine ⟨_, rfl, ?_⟩; have n0_ := Aside0.mk (Kd.R_mono (ok' := fun k_ => some k_ ≠ (.slice Ao27 t543.length co27 : Value).ownBlock ∧ some k_ ≠ (.slice Ao31 t572.length co31 : Value).ownBlock ∧ some k_ ≠ (.slice Ao35 t573.length co35 : Value).ownBlock ∧ some k_ ≠ (.slice Ao38 t555.length co38 : Value).ownBlock ∧ some k_ ≠ (.slice Ao43 t558.length co43 : Value).ownBlock) (Kd.R_keptB (HO_548000.out) hkp (fun k_ hk_ hs_ => Or.elim hs_ (fun e_ => (hk_.2.2.2.1) e_) (fun e_ => (hk_.2.2.2.2) e_))) (fun k_ hk_ => ⟨hk_.1.1, hk_.1.2.1, hk_.1.2.2.1, hk_.1.2.2.2.1, hk_.1.2.2.2.2⟩)); have n1_ := Aside0.mk (Kd.R_mono (ok' := fun k_ => some k_ ≠ (.slice Ao24 t540.length co24 : Value).ownBlock ∧ some k_ ≠ (.slice Ao31 t572.length co31 : Value).ownBlock ∧ some k_ ≠ (.slice Ao35 t573.length co35 : Value).ownBlock ∧ some k_ ≠ (.slice Ao38 t555.length co38 : Value).ownBlock ∧ some k_ ≠ (.slice Ao43 t558.length co43 : Value).ownBlock) (Kd.R_keptB (HO_548001.out) hkp (fun k_ hk_ hs_ => Or.elim hs_ (fun e_ => (hk_.2.2.2.1) e_) (fun e_ => (hk_.2.2.2.2) e_))) (fun k_ hk_ => ⟨hk_.1.1, hk_.1.2.1, hk_.1.2.2.1, hk_.1.2.2.2.1, hk_.1.2.2.2.2⟩)); have n2_ := Aside0.mk (Kd.R_mono (ok' := fun k_ => some k_ ≠ (.slice Ao24 t540.length co24 : Value).ownBlock ∧ some k_ ≠ (.slice Ao27 t543.length co27 : Value).ownBlock ∧ some k_ ≠ (.slice Ao35 t573.length co35 : Value).ownBlock ∧ some k_ ≠ (.slice Ao38 t555.length co38 : Value).ownBlock ∧ some k_ ≠ (.slice Ao43 t558.length co43 : Value).ownBlock) (Kd.R_keptB (HO_555000.out) hkp (fun k_ hk_ hs_ => Or.elim hs_ (fun e_ => (hk_.2.2.2.1) e_) (fun e_ => (hk_.2.2.2.2) e_))) (fun k_ hk_ => ⟨hk_.1.1, hk_.1.2.1, hk_.1.2.2.1, hk_.1.2.2.2.1, hk_.1.2.2.2.2⟩)); have n3_ := Aside0.mk (Kd.R_mono (ok' := fun k_ => some k_ ≠ (.slice Ao24 t540.length co24 : Value).ownBlock ∧ some k_ ≠ (.slice Ao27 t543.length co27 : Value).ownBlock ∧ some k_ ≠ (.slice Ao31 t572.length co31 : Value).ownBlock ∧ some k_ ≠ (.slice Ao38 t555.length co38 : Value).ownBlock ∧ some k_ ≠ (.slice Ao43 t558.length co43 : Value).ownBlock) (Kd.R_keptB (HO_555001.out) hkp (fun k_ hk_ hs_ => Or.elim hs_ (fun e_ => (hk_.2.2.2.1) e_) (fun e_ => (hk_.2.2.2.2) e_))) (fun k_ hk_ => ⟨hk_.1.1, hk_.1.2.1, hk_.1.2.2.1, hk_.1.2.2.2.1, hk_.1.2.2.2.2⟩)); have n4_ := Aside0.mk (Kd.R_reok rfl hy0 (fun k_ e_ => HO_563000.out.1 k_ e_)); have n5_ := Aside0.mk (Kd.R_reok rfl hy1 (fun k_ e_ => HO_563001.out.1 k_ e_)); have n6_ := Aside0.mk (blk_kept (by (with_reducible repeat (first | refine blk_drewN ?_ _ | refine blk_drew ?_ | refine blk_alloc ?_ _)); exact BK532.out) hkp (fun hs_ => Or.elim hs_ (fun e_ => (fun e_ => (Kd.R_ne HO_563000.out BK532.out (by decide)) e_) e_) (fun e_ => (fun e_ => (Kd.R_ne HO_563001.out BK532.out (by decide)) e_) e_))); have n7_ := Aside0.mk (blk_kept (by (with_reducible repeat (first | refine blk_drewN ?_ _ | refine blk_drew ?_ | refine blk_alloc ?_ _)); exact BK547.out) hkp (fun hs_ => Or.elim hs_ (fun e_ => (fun e_ => (Kd.R_ne HO_563000.out BK547.out (by decide)) e_) e_) (fun e_ => (fun e_ => (Kd.R_ne HO_563001.out BK547.out (by decide)) e_) e_))); have n8_ := Aside0.mk (blk_kept (by (with_reducible repeat (first | refine blk_drewN ?_ _ | refine blk_drew ?_ | refine blk_alloc ?_ _)); exact BK554.out) hkp (fun hs_ => Or.elim hs_ (fun e_ => (fun e_ => (Kd.R_ne HO_563000.out BK554.out (by decide)) e_) e_) (fun e_ => (fun e_ => (Kd.R_ne HO_563001.out BK554.out (by decide)) e_) e_))); have n9_ := Aside0.mk (blk_kept (by (with_reducible repeat (first | refine blk_drewN ?_ _ | refine blk_drew ?_ | refine blk_alloc ?_ _)); exact BK562.out) hkp (fun hs_ => Or.elim hs_ (fun e_ => (fun e_ => (Kd.R_ne HO_563000.out BK562.out (by decide)) e_) e_) (fun e_ => (fun e_ => (Kd.R_ne HO_563001.out BK562.out (by decide)) e_) e_))); have n10_ := Aside0.mk (hb); clear HO_548000; clear HO_548001; clear HO_555000; clear HO_555001; clear HO_563000; clear HO_563001; clear BK532; clear BK547; clear BK554; clear BK562; clear HB; have HO_548000 := n0_; have HO_548001 := n1_; have HO_555000 := n2_; have HO_555001 := n3_; have HO_563000 := n4_; have HO_563001 := n5_; have BK532 := n6_; have BK547 := n7_; have BK554 := n8_; have BK562 := n9_; have HB := n10_; clear n0_ n1_ n2_ n3_ n4_ n5_ n6_ n7_ n8_ n9_ n10_; (try clear hb); (try clear hkp); (try clear hy0); (try clear hy1); have hcz110_0 : w109.cell? ⟨gb562, 0, none⟩ = some (.slice Ao38 t555.length co38) := (blk_cell BK562.out 0).trans rfl; have hcz110_1 : w109.cell? ⟨gb562, 1, none⟩ = some (.slice Ao43 t558.length co43) := (blk_cell BK562.out 1).trans rfl; have hfz110_0 := blk_frozen BK562.out 0; have hfz110_1 := blk_frozen BK562.out 1) | ((with_reducible refine gate_callee (f := 34) rfl ?_); refine goesL_ (some 74) rfl rfl Try.func34 (by kernel_rfl) rfl #[.agg #[.slice Ao38 t576.length co38, .slice Ao43 t577.length co43], .int .i64 1] rfl (by (try simp only [List.map_toArray, List.map_cons, List.map_nil]); first | done | (rw [show t576.length = t555.length from (Kd.R_reads' HO_563000.out).1.symm, show t577.length = t558.length from (Kd.R_reads' HO_563001.out).1.symm] <;> rfl) | rfl | (simp only [List.length_drop, List.length_take]; rfl)) ?_; (with_reducible refine (laws_heldLog.calls kj66 _ _ t576 _ _ t577 1 t578 _ ?side1 ?side2 ?side3 ?side4 A99.out).mono ?_); (case side1 => repeat (first | exact (Kd.R_reads' HO_563000.out).2.2 | (with_reducible refine Kd.C_alloc ?_ _) | (with_reducible refine Kd.C_drewN ?_ _) | (with_reducible refine Kd.C_drew ?_))); (case side2 => rw [show t576.length = t555.length from (Kd.R_reads' HO_563000.out).1.symm]; exact (Kd.R_reads' HO_563000.out).2.1); (case side3 => repeat (first | exact (Kd.R_reads' HO_563001.out).2.2 | (with_reducible refine Kd.C_alloc ?_ _) | (with_reducible refine Kd.C_drewN ?_ _) | (with_reducible refine Kd.C_drew ?_))); (case side4 => rw [show t577.length = t558.length from (Kd.R_reads' HO_563001.out).1.symm]; exact (Kd.R_reads' HO_563001.out).2.1); rintro e w111 ⟨rfl, hb⟩; refine ⟨_, rfl, ?_⟩; have n0_ := Aside0.mk (Kd.R_below (by (with_reducible repeat (first | apply Kd.R_alloc | apply Kd.R_drewN | apply Kd.R_drew)); exact HO_548000.out) hb); have n1_ := Aside0.mk (Kd.R_below (by (with_reducible repeat (first | apply Kd.R_alloc | apply Kd.R_drewN | apply Kd.R_drew)); exact HO_548001.out) hb); have n2_ := Aside0.mk (Kd.R_below (by (with_reducible repeat (first | apply Kd.R_alloc | apply Kd.R_drewN | apply Kd.R_drew)); exact HO_555000.out) hb); have n3_ := Aside0.mk (Kd.R_below (by (with_reducible repeat (first | apply Kd.R_alloc | apply Kd.R_drewN | apply Kd.R_drew)); exact HO_555001.out) hb); have n4_ := Aside0.mk (Kd.R_below (by (with_reducible repeat (first | apply Kd.R_alloc | apply Kd.R_drewN | apply Kd.R_drew)); exact HO_563000.out) hb); have n5_ := Aside0.mk (Kd.R_below (by (with_reducible repeat (first | apply Kd.R_alloc | apply Kd.R_drewN | apply Kd.R_drew)); exact HO_563001.out) hb); have n6_ := Aside0.mk (blk_below (g := gb532) (o := .cells #[.slice A0_0 l0_0.length c0_0, .slice A0_1 l0_1.length c0_1] 27 (0, 0)) (by (with_reducible repeat (first | refine blk_drewN ?_ _ | refine blk_drew ?_ | refine blk_alloc ?_ _)); exact BK532.out) hb); have n7_ := Aside0.mk (blk_below (g := gb547) (o := .cells #[.slice Ao24 t540.length co24, .slice Ao27 t543.length co27] 30 (0, 0)) (by (with_reducible repeat (first | refine blk_drewN ?_ _ | refine blk_drew ?_ | refine blk_alloc ?_ _)); exact BK547.out) hb); have n8_ := Aside0.mk (blk_below (g := gb554) (o := .cells #[.slice Ao31 t572.length co31, .slice Ao35 t573.length co35] 30 (0, 0)) (by (with_reducible repeat (first | refine blk_drewN ?_ _ | refine blk_drew ?_ | refine blk_alloc ?_ _)); exact BK554.out) hb); have n9_ := Aside0.mk (blk_below (g := gb562) (o := .cells #[.slice Ao38 t555.length co38, .slice Ao43 t558.length co43] 30 (0, 0)) (by (with_reducible repeat (first | refine blk_drewN ?_ _ | refine blk_drew ?_ | refine blk_alloc ?_ _)); exact BK562.out) hb); have n10_ := Aside0.mk (below_step (by repeat (first | (with_reducible first | exact HB.out | apply below_alloc | apply pw_below_drewN | apply below_drew1 | refine below_set ?_ GE532.out | refine below_set ?_ GE547.out | refine below_set ?_ GE554.out | refine below_set ?_ GE562.out) | exact HB.out)) hb); clear HO_548000; clear HO_548001; clear HO_555000; clear HO_555001; clear HO_563000; clear HO_563001; clear BK532; clear BK547; clear BK554; clear BK562; clear HB; have HO_548000 := n0_; have HO_548001 := n1_; have HO_555000 := n2_; have HO_555001 := n3_; have HO_563000 := n4_; have HO_563001 := n5_; have BK532 := n6_; have BK547 := n7_; have BK554 := n8_; have BK562 := n9_; have HB := n10_; clear n0_ n1_ n2_ n3_ n4_ n5_ n6_ n7_ n8_ n9_ n10_; (try clear hb); (try clear hb2); (try clear hk); (try clear hi); have hnb112 := NB532_547.out; have hnc112 := NB547_532.out; have hnb113 := NB532_554.out; have hnc113 := NB554_532.out; have hcz114_0 : w111.cell? ⟨gb532, 0, none⟩ = some (.slice A0_0 l0_0.length c0_0) := (blk_cell BK532.out 0).trans rfl; have hcz114_1 : w111.cell? ⟨gb532, 1, none⟩ = some (.slice A0_1 l0_1.length c0_1) := (blk_cell BK532.out 1).trans rfl; have hfz114_0 := blk_frozen BK532.out 0; have hfz114_1 := blk_frozen BK532.out 1) | ((with_reducible refine gate_callee (f := 19) rfl ?_); refine goesL_ (some 82) rfl rfl Try.func19 (by kernel_rfl) rfl #[.agg #[.slice A0_0 l0_0.length c0_0, .slice A0_1 l0_1.length c0_1]] rfl (by (try simp only [List.map_toArray, List.map_cons, List.map_nil]); first | done | rfl | (simp only [List.length_drop, List.length_take]; rfl)) ?_; (with_reducible refine (laws_toLog.calls kj66 _ _ l0_0 _ _ l0_1 t579 t582 _ ?side1 ?side2 ?side3 ?side4 A102.out).mono ?_); (case side1 => repeat (first | exact (Kd.C_below HR0_0.out HB.out) | (with_reducible refine Kd.C_alloc ?_ _) | (with_reducible refine Kd.C_drewN ?_ _) | (with_reducible refine Kd.C_drew ?_))); (case side2 => exact HC0_0.out); (case side3 => repeat (first | exact (Kd.C_below HR0_1.out HB.out) | (with_reducible refine Kd.C_alloc ?_ _) | (with_reducible refine Kd.C_drewN ?_ _) | (with_reducible refine Kd.C_drew ?_))); (case side4 => exact HC0_1.out); rintro e w115 ⟨v580, v583, rfl, ho0, ho1, hb⟩; refine ⟨_, rfl, ?_⟩; have n0_ := Aside0.mk (Kd.R_mono (Kd.R_told (Kd.R_told (Kd.R_old (by (with_reducible repeat (first | apply Kd.R_alloc | apply Kd.R_drewN | apply Kd.R_drew)); exact HO_548000.out) hb) (Kd.R_base ho0)) (Kd.R_base ho1)) (fun _ h_ => h_.1)); have n1_ := Aside0.mk (Kd.R_mono (Kd.R_told (Kd.R_told (Kd.R_old (by (with_reducible repeat (first | apply Kd.R_alloc | apply Kd.R_drewN | apply Kd.R_drew)); exact HO_548001.out) hb) (Kd.R_base ho0)) (Kd.R_base ho1)) (fun _ h_ => h_.1)); have n2_ := Aside0.mk (Kd.R_mono (Kd.R_told (Kd.R_told (Kd.R_old (by (with_reducible repeat (first | apply Kd.R_alloc | apply Kd.R_drewN | apply Kd.R_drew)); exact HO_555000.out) hb) (Kd.R_base ho0)) (Kd.R_base ho1)) (fun _ h_ => h_.1)); have n3_ := Aside0.mk (Kd.R_mono (Kd.R_told (Kd.R_told (Kd.R_old (by (with_reducible repeat (first | apply Kd.R_alloc | apply Kd.R_drewN | apply Kd.R_drew)); exact HO_555001.out) hb) (Kd.R_base ho0)) (Kd.R_base ho1)) (fun _ h_ => h_.1)); have n4_ := Aside0.mk (Kd.R_mono (Kd.R_told (Kd.R_told (Kd.R_old (by (with_reducible repeat (first | apply Kd.R_alloc | apply Kd.R_drewN | apply Kd.R_drew)); exact HO_563000.out) hb) (Kd.R_base ho0)) (Kd.R_base ho1)) (fun _ h_ => h_.1)); have n5_ := Aside0.mk (Kd.R_mono (Kd.R_told (Kd.R_told (Kd.R_old (by (with_reducible repeat (first | apply Kd.R_alloc | apply Kd.R_drewN | apply Kd.R_drew)); exact HO_563001.out) hb) (Kd.R_base ho0)) (Kd.R_base ho1)) (fun _ h_ => h_.1)); have n6_ := Aside0.mk (Kd.R_lower (Kd.R_new' (Kd.R_new' (Kd.R_new' (Kd.R_new' (Kd.R_new' (Kd.R_new' ho0 (Kd.R_lt (by (with_reducible repeat (first | apply Kd.R_alloc | apply Kd.R_drewN | apply Kd.R_drew)); exact HO_548000.out))) (Kd.R_lt (by (with_reducible repeat (first | apply Kd.R_alloc | apply Kd.R_drewN | apply Kd.R_drew)); exact HO_548001.out))) (Kd.R_lt (by (with_reducible repeat (first | apply Kd.R_alloc | apply Kd.R_drewN | apply Kd.R_drew)); exact HO_555000.out))) (Kd.R_lt (by (with_reducible repeat (first | apply Kd.R_alloc | apply Kd.R_drewN | apply Kd.R_drew)); exact HO_555001.out))) (Kd.R_lt (by (with_reducible repeat (first | apply Kd.R_alloc | apply Kd.R_drewN | apply Kd.R_drew)); exact HO_563000.out))) (Kd.R_lt (by (with_reducible repeat (first | apply Kd.R_alloc | apply Kd.R_drewN | apply Kd.R_drew)); exact HO_563001.out))) (below_size (by repeat (first | (with_reducible first | exact HB.out | apply below_alloc | apply pw_below_drewN | apply below_drew1 | refine below_set ?_ GE532.out | refine below_set ?_ GE547.out | refine below_set ?_ GE554.out | refine below_set ?_ GE562.out) | exact HB.out)))); have n7_ := Aside0.mk (Kd.R_lower (Kd.R_new' (Kd.R_new' (Kd.R_new' (Kd.R_new' (Kd.R_new' (Kd.R_new' ho1 (Kd.R_lt (by (with_reducible repeat (first | apply Kd.R_alloc | apply Kd.R_drewN | apply Kd.R_drew)); exact HO_548000.out))) (Kd.R_lt (by (with_reducible repeat (first | apply Kd.R_alloc | apply Kd.R_drewN | apply Kd.R_drew)); exact HO_548001.out))) (Kd.R_lt (by (with_reducible repeat (first | apply Kd.R_alloc | apply Kd.R_drewN | apply Kd.R_drew)); exact HO_555000.out))) (Kd.R_lt (by (with_reducible repeat (first | apply Kd.R_alloc | apply Kd.R_drewN | apply Kd.R_drew)); exact HO_555001.out))) (Kd.R_lt (by (with_reducible repeat (first | apply Kd.R_alloc | apply Kd.R_drewN | apply Kd.R_drew)); exact HO_563000.out))) (Kd.R_lt (by (with_reducible repeat (first | apply Kd.R_alloc | apply Kd.R_drewN | apply Kd.R_drew)); exact HO_563001.out))) (below_size (by repeat (first | (with_reducible first | exact HB.out | apply below_alloc | apply pw_below_drewN | apply below_drew1 | refine below_set ?_ GE532.out | refine below_set ?_ GE547.out | refine below_set ?_ GE554.out | refine below_set ?_ GE562.out) | exact HB.out)))); have n8_ := Aside0.mk (blk_below (g := gb532) (o := .cells #[.slice A0_0 l0_0.length c0_0, .slice A0_1 l0_1.length c0_1] 27 (0, 0)) (by (with_reducible repeat (first | refine blk_drewN ?_ _ | refine blk_drew ?_ | refine blk_alloc ?_ _)); exact BK532.out) hb); have n9_ := Aside0.mk (blk_below (g := gb547) (o := .cells #[.slice Ao24 t540.length co24, .slice Ao27 t543.length co27] 30 (0, 0)) (by (with_reducible repeat (first | refine blk_drewN ?_ _ | refine blk_drew ?_ | refine blk_alloc ?_ _)); exact BK547.out) hb); have n10_ := Aside0.mk (blk_below (g := gb554) (o := .cells #[.slice Ao31 t572.length co31, .slice Ao35 t573.length co35] 30 (0, 0)) (by (with_reducible repeat (first | refine blk_drewN ?_ _ | refine blk_drew ?_ | refine blk_alloc ?_ _)); exact BK554.out) hb); have n11_ := Aside0.mk (blk_below (g := gb562) (o := .cells #[.slice Ao38 t555.length co38, .slice Ao43 t558.length co43] 30 (0, 0)) (by (with_reducible repeat (first | refine blk_drewN ?_ _ | refine blk_drew ?_ | refine blk_alloc ?_ _)); exact BK562.out) hb); have n12_ := Aside0.mk (below_step (by repeat (first | (with_reducible first | exact HB.out | apply below_alloc | apply pw_below_drewN | apply below_drew1 | refine below_set ?_ GE532.out | refine below_set ?_ GE547.out | refine below_set ?_ GE554.out | refine below_set ?_ GE562.out) | exact HB.out)) hb); clear HO_548000; clear HO_548001; clear HO_555000; clear HO_555001; clear HO_563000; clear HO_563001; clear BK532; clear BK547; clear BK554; clear BK562; clear HB; have HO_548000 := n0_; have HO_548001 := n1_; have HO_555000 := n2_; have HO_555001 := n3_; have HO_563000 := n4_; have HO_563001 := n5_; have HO581 := n6_; have HO584 := n7_; have BK532 := n8_; have BK547 := n9_; have BK554 := n10_; have BK562 := n11_; have HB := n12_; clear n0_ n1_ n2_ n3_ n4_ n5_ n6_ n7_ n8_ n9_ n10_ n11_ n12_; (try clear hb); (try clear hb2); (try clear hk); (try clear hi); (try clear ho0); (try clear ho1); obtain ⟨Ao116, co116, eo116⟩ := Kd.R_slice HO581.out; subst eo116; obtain ⟨Ao117, co117, eo117⟩ := Kd.R_slice HO584.out; subst eo117) | ((with_reducible refine gate_callee (f := 38) rfl ?_); refine goesL_ (some 84) rfl rfl Try.func38 (by kernel_rfl) rfl #[.agg #[.slice Ao116 t579.length co116, .slice Ao117 t582.length co117], .string a1] rfl (by (try simp only [List.map_toArray, List.map_cons, List.map_nil]); first | done | rfl | (simp only [List.length_drop, List.length_take]; rfl)) ?_; (with_reducible refine (impl_Append.calls kj66 _ _ t579 _ _ t582 a1 t585 t588 t591 _ ?side1 ?side2 ?side3 ?side4 A103.out).mono ?_); (case side1 => repeat (first | exact (Kd.R_reads' HO581.out).2.2 | (with_reducible refine Kd.C_alloc ?_ _) | (with_reducible refine Kd.C_drewN ?_ _) | (with_reducible refine Kd.C_drew ?_))); (case side2 => exact (Kd.R_reads' HO581.out).2.1); (case side3 => repeat (first | exact (Kd.R_reads' HO584.out).2.2 | (with_reducible refine Kd.C_alloc ?_ _) | (with_reducible refine Kd.C_drewN ?_ _) | (with_reducible refine Kd.C_drew ?_))); (case side4 => exact (Kd.R_reads' HO584.out).2.1); rintro e w118 ⟨v586, v589, rfl, ho0, ho1, hb⟩; refine ⟨_, rfl, ?_⟩; have n0_ := Aside0.mk (Kd.R_mono (Kd.R_told (Kd.R_told (Kd.R_old (by (with_reducible repeat (first | apply Kd.R_alloc | apply Kd.R_drewN | apply Kd.R_drew)); exact HO_548000.out) hb) (Kd.R_base ho0)) (Kd.R_base ho1)) (fun _ h_ => h_.1)); have n1_ := Aside0.mk (Kd.R_mono (Kd.R_told (Kd.R_told (Kd.R_old (by (with_reducible repeat (first | apply Kd.R_alloc | apply Kd.R_drewN | apply Kd.R_drew)); exact HO_548001.out) hb) (Kd.R_base ho0)) (Kd.R_base ho1)) (fun _ h_ => h_.1)); have n2_ := Aside0.mk (Kd.R_mono (Kd.R_told (Kd.R_told (Kd.R_old (by (with_reducible repeat (first | apply Kd.R_alloc | apply Kd.R_drewN | apply Kd.R_drew)); exact HO_555000.out) hb) (Kd.R_base ho0)) (Kd.R_base ho1)) (fun _ h_ => h_.1)); have n3_ := Aside0.mk (Kd.R_mono (Kd.R_told (Kd.R_told (Kd.R_old (by (with_reducible repeat (first | apply Kd.R_alloc | apply Kd.R_drewN | apply Kd.R_drew)); exact HO_555001.out) hb) (Kd.R_base ho0)) (Kd.R_base ho1)) (fun _ h_ => h_.1)); have n4_ := Aside0.mk (Kd.R_mono (Kd.R_told (Kd.R_told (Kd.R_old (by (with_reducible repeat (first | apply Kd.R_alloc | apply Kd.R_drewN | apply Kd.R_drew)); exact HO_563000.out) hb) (Kd.R_base ho0)) (Kd.R_base ho1)) (fun _ h_ => h_.1)); have n5_ := Aside0.mk (Kd.R_mono (Kd.R_told (Kd.R_told (Kd.R_old (by (with_reducible repeat (first | apply Kd.R_alloc | apply Kd.R_drewN | apply Kd.R_drew)); exact HO_563001.out) hb) (Kd.R_base ho0)) (Kd.R_base ho1)) (fun _ h_ => h_.1)); have n6_ := Aside0.mk (Kd.R_mono (Kd.R_told (Kd.R_told (Kd.R_old (by (with_reducible repeat (first | apply Kd.R_alloc | apply Kd.R_drewN | apply Kd.R_drew)); exact HO581.out) hb) (Kd.R_base ho0)) (Kd.R_base ho1)) (fun _ h_ => h_.1)); have n7_ := Aside0.mk (Kd.R_mono (Kd.R_told (Kd.R_told (Kd.R_old (by (with_reducible repeat (first | apply Kd.R_alloc | apply Kd.R_drewN | apply Kd.R_drew)); exact HO584.out) hb) (Kd.R_base ho0)) (Kd.R_base ho1)) (fun _ h_ => h_.1)); have n8_ := Aside0.mk (Kd.R_lower (Kd.R_new' (Kd.R_new' (Kd.R_new' (Kd.R_new' (Kd.R_new' (Kd.R_new' (Kd.R_new' (Kd.R_new' ho0 (Kd.R_lt (by (with_reducible repeat (first | apply Kd.R_alloc | apply Kd.R_drewN | apply Kd.R_drew)); exact HO_548000.out))) (Kd.R_lt (by (with_reducible repeat (first | apply Kd.R_alloc | apply Kd.R_drewN | apply Kd.R_drew)); exact HO_548001.out))) (Kd.R_lt (by (with_reducible repeat (first | apply Kd.R_alloc | apply Kd.R_drewN | apply Kd.R_drew)); exact HO_555000.out))) (Kd.R_lt (by (with_reducible repeat (first | apply Kd.R_alloc | apply Kd.R_drewN | apply Kd.R_drew)); exact HO_555001.out))) (Kd.R_lt (by (with_reducible repeat (first | apply Kd.R_alloc | apply Kd.R_drewN | apply Kd.R_drew)); exact HO_563000.out))) (Kd.R_lt (by (with_reducible repeat (first | apply Kd.R_alloc | apply Kd.R_drewN | apply Kd.R_drew)); exact HO_563001.out))) (Kd.R_lt (by (with_reducible repeat (first | apply Kd.R_alloc | apply Kd.R_drewN | apply Kd.R_drew)); exact HO581.out))) (Kd.R_lt (by (with_reducible repeat (first | apply Kd.R_alloc | apply Kd.R_drewN | apply Kd.R_drew)); exact HO584.out))) (below_size (by repeat (first | (with_reducible first | exact HB.out | apply below_alloc | apply pw_below_drewN | apply below_drew1 | refine below_set ?_ GE532.out | refine below_set ?_ GE547.out | refine below_set ?_ GE554.out | refine below_set ?_ GE562.out) | exact HB.out)))); have n9_ := Aside0.mk (Kd.R_lower (Kd.R_new' (Kd.R_new' (Kd.R_new' (Kd.R_new' (Kd.R_new' (Kd.R_new' (Kd.R_new' (Kd.R_new' ho1 (Kd.R_lt (by (with_reducible repeat (first | apply Kd.R_alloc | apply Kd.R_drewN | apply Kd.R_drew)); exact HO_548000.out))) (Kd.R_lt (by (with_reducible repeat (first | apply Kd.R_alloc | apply Kd.R_drewN | apply Kd.R_drew)); exact HO_548001.out))) (Kd.R_lt (by (with_reducible repeat (first | apply Kd.R_alloc | apply Kd.R_drewN | apply Kd.R_drew)); exact HO_555000.out))) (Kd.R_lt (by (with_reducible repeat (first | apply Kd.R_alloc | apply Kd.R_drewN | apply Kd.R_drew)); exact HO_555001.out))) (Kd.R_lt (by (with_reducible repeat (first | apply Kd.R_alloc | apply Kd.R_drewN | apply Kd.R_drew)); exact HO_563000.out))) (Kd.R_lt (by (with_reducible repeat (first | apply Kd.R_alloc | apply Kd.R_drewN | apply Kd.R_drew)); exact HO_563001.out))) (Kd.R_lt (by (with_reducible repeat (first | apply Kd.R_alloc | apply Kd.R_drewN | apply Kd.R_drew)); exact HO581.out))) (Kd.R_lt (by (with_reducible repeat (first | apply Kd.R_alloc | apply Kd.R_drewN | apply Kd.R_drew)); exact HO584.out))) (below_size (by repeat (first | (with_reducible first | exact HB.out | apply below_alloc | apply pw_below_drewN | apply below_drew1 | refine below_set ?_ GE532.out | refine below_set ?_ GE547.out | refine below_set ?_ GE554.out | refine below_set ?_ GE562.out) | exact HB.out)))); have n10_ := Aside0.mk (blk_below (g := gb532) (o := .cells #[.slice A0_0 l0_0.length c0_0, .slice A0_1 l0_1.length c0_1] 27 (0, 0)) (by (with_reducible repeat (first | refine blk_drewN ?_ _ | refine blk_drew ?_ | refine blk_alloc ?_ _)); exact BK532.out) hb); have n11_ := Aside0.mk (blk_below (g := gb547) (o := .cells #[.slice Ao24 t540.length co24, .slice Ao27 t543.length co27] 30 (0, 0)) (by (with_reducible repeat (first | refine blk_drewN ?_ _ | refine blk_drew ?_ | refine blk_alloc ?_ _)); exact BK547.out) hb); have n12_ := Aside0.mk (blk_below (g := gb554) (o := .cells #[.slice Ao31 t572.length co31, .slice Ao35 t573.length co35] 30 (0, 0)) (by (with_reducible repeat (first | refine blk_drewN ?_ _ | refine blk_drew ?_ | refine blk_alloc ?_ _)); exact BK554.out) hb); have n13_ := Aside0.mk (blk_below (g := gb562) (o := .cells #[.slice Ao38 t555.length co38, .slice Ao43 t558.length co43] 30 (0, 0)) (by (with_reducible repeat (first | refine blk_drewN ?_ _ | refine blk_drew ?_ | refine blk_alloc ?_ _)); exact BK562.out) hb); have n14_ := Aside0.mk (below_step (by repeat (first | (with_reducible first | exact HB.out | apply below_alloc | apply pw_below_drewN | apply below_drew1 | refine below_set ?_ GE532.out | refine below_set ?_ GE547.out | refine below_set ?_ GE554.out | refine below_set ?_ GE562.out) | exact HB.out)) hb); clear HO_548000; clear HO_548001; clear HO_555000; clear HO_555001; clear HO_563000; clear HO_563001; clear HO581; clear HO584; clear BK532; clear BK547; clear BK554; clear BK562; clear HB; have HO_548000 := n0_; have HO_548001 := n1_; have HO_555000 := n2_; have HO_555001 := n3_; have HO_563000 := n4_; have HO_563001 := n5_; have HO581 := n6_; have HO584 := n7_; have HO587 := n8_; have HO590 := n9_; have BK532 := n10_; have BK547 := n11_; have BK554 := n12_; have BK562 := n13_; have HB := n14_; clear n0_ n1_ n2_ n3_ n4_ n5_ n6_ n7_ n8_ n9_ n10_ n11_ n12_ n13_ n14_; (try clear hb); (try clear hb2); (try clear hk); (try clear hi); (try clear ho0); (try clear ho1)) | ((with_reducible refine gate_dst (N := 14) rfl ?_); refine box_event ?hg (N := 14) ?hd (cs := #[.slice none 0 0, .slice none 0 0]) (t := 30) ?hr ?_; (case hd => rfl); (case hg => rfl); (case hr => first | (go_simp; done) | (go_simp; rfl)); intro gb592 hg w119 hbox hb; have n0_ := Aside0.mk (Kd.R_below (by (with_reducible repeat (first | apply Kd.R_alloc | apply Kd.R_drewN | apply Kd.R_drew)); exact HO_548000.out) hb); have n1_ := Aside0.mk (Kd.R_below (by (with_reducible repeat (first | apply Kd.R_alloc | apply Kd.R_drewN | apply Kd.R_drew)); exact HO_548001.out) hb); have n2_ := Aside0.mk (Kd.R_below (by (with_reducible repeat (first | apply Kd.R_alloc | apply Kd.R_drewN | apply Kd.R_drew)); exact HO_555000.out) hb); have n3_ := Aside0.mk (Kd.R_below (by (with_reducible repeat (first | apply Kd.R_alloc | apply Kd.R_drewN | apply Kd.R_drew)); exact HO_555001.out) hb); have n4_ := Aside0.mk (Kd.R_below (by (with_reducible repeat (first | apply Kd.R_alloc | apply Kd.R_drewN | apply Kd.R_drew)); exact HO_563000.out) hb); have n5_ := Aside0.mk (Kd.R_below (by (with_reducible repeat (first | apply Kd.R_alloc | apply Kd.R_drewN | apply Kd.R_drew)); exact HO_563001.out) hb); have n6_ := Aside0.mk (Kd.R_below (by (with_reducible repeat (first | apply Kd.R_alloc | apply Kd.R_drewN | apply Kd.R_drew)); exact HO581.out) hb); have n7_ := Aside0.mk (Kd.R_below (by (with_reducible repeat (first | apply Kd.R_alloc | apply Kd.R_drewN | apply Kd.R_drew)); exact HO584.out) hb); have n8_ := Aside0.mk (Kd.R_below (by (with_reducible repeat (first | apply Kd.R_alloc | apply Kd.R_drewN | apply Kd.R_drew)); exact HO587.out) hb); have n9_ := Aside0.mk (Kd.R_below (by (with_reducible repeat (first | apply Kd.R_alloc | apply Kd.R_drewN | apply Kd.R_drew)); exact HO590.out) hb); have n10_ := Aside0.mk (blk_below (g := gb532) (o := .cells #[.slice A0_0 l0_0.length c0_0, .slice A0_1 l0_1.length c0_1] 27 (0, 0)) (by (with_reducible repeat (first | refine blk_drewN ?_ _ | refine blk_drew ?_ | refine blk_alloc ?_ _)); exact BK532.out) hb); have n11_ := Aside0.mk (blk_below (g := gb547) (o := .cells #[.slice Ao24 t540.length co24, .slice Ao27 t543.length co27] 30 (0, 0)) (by (with_reducible repeat (first | refine blk_drewN ?_ _ | refine blk_drew ?_ | refine blk_alloc ?_ _)); exact BK547.out) hb); have n12_ := Aside0.mk (blk_below (g := gb554) (o := .cells #[.slice Ao31 t572.length co31, .slice Ao35 t573.length co35] 30 (0, 0)) (by (with_reducible repeat (first | refine blk_drewN ?_ _ | refine blk_drew ?_ | refine blk_alloc ?_ _)); exact BK554.out) hb); have n13_ := Aside0.mk (blk_below (g := gb562) (o := .cells #[.slice Ao38 t555.length co38, .slice Ao43 t558.length co43] 30 (0, 0)) (by (with_reducible repeat (first | refine blk_drewN ?_ _ | refine blk_drew ?_ | refine blk_alloc ?_ _)); exact BK562.out) hb); have n14_ := Aside0.mk (below_step (by repeat (first | (with_reducible first | exact HB.out | apply below_alloc | apply pw_below_drewN | apply below_drew1 | refine below_set ?_ GE532.out | refine below_set ?_ GE547.out | refine below_set ?_ GE554.out | refine below_set ?_ GE562.out) | exact HB.out)) hb); have n15_ := Aside0.mk (hbox); have n16_ := Aside0.mk ((by rw [hg]; exact (below_size (by repeat (first | (with_reducible first | exact HB.out | apply below_alloc | apply pw_below_drewN | apply below_drew1 | refine below_set ?_ GE532.out | refine below_set ?_ GE547.out | refine below_set ?_ GE554.out | refine below_set ?_ GE562.out) | exact HB.out))) : w.heap.size ≤ gb592)); have n17_ := Aside0.mk ((by rw [hg]; exact (below_size (by repeat (first | (with_reducible first | exact HB.out | apply below_alloc | apply pw_below_drewN | apply below_drew1 | refine below_set ?_ GE532.out | refine below_set ?_ GE547.out | refine below_set ?_ GE554.out | refine below_set ?_ GE562.out) | exact HB.out))) : w.heap.size ≤ gb592)); have n18_ := Aside0.mk ((by rw [hg]; exact Nat.ne_of_lt (blk_lt (g := gb532) (o := .cells #[.slice A0_0 l0_0.length c0_0, .slice A0_1 l0_1.length c0_1] 27 (0, 0)) (by (with_reducible repeat (first | refine blk_drewN ?_ _ | refine blk_drew ?_ | refine blk_alloc ?_ _)); exact BK532.out)) : gb532 ≠ gb592)); have n19_ := Aside0.mk ((by rw [hg]; exact Nat.ne_of_gt (blk_lt (g := gb532) (o := .cells #[.slice A0_0 l0_0.length c0_0, .slice A0_1 l0_1.length c0_1] 27 (0, 0)) (by (with_reducible repeat (first | refine blk_drewN ?_ _ | refine blk_drew ?_ | refine blk_alloc ?_ _)); exact BK532.out)) : gb592 ≠ gb532)); have n20_ := Aside0.mk ((by rw [hg]; exact Nat.ne_of_lt (blk_lt (g := gb547) (o := .cells #[.slice Ao24 t540.length co24, .slice Ao27 t543.length co27] 30 (0, 0)) (by (with_reducible repeat (first | refine blk_drewN ?_ _ | refine blk_drew ?_ | refine blk_alloc ?_ _)); exact BK547.out)) : gb547 ≠ gb592)); have n21_ := Aside0.mk ((by rw [hg]; exact Nat.ne_of_gt (blk_lt (g := gb547) (o := .cells #[.slice Ao24 t540.length co24, .slice Ao27 t543.length co27] 30 (0, 0)) (by (with_reducible repeat (first | refine blk_drewN ?_ _ | refine blk_drew ?_ | refine blk_alloc ?_ _)); exact BK547.out)) : gb592 ≠ gb547)); have n22_ := Aside0.mk ((by rw [hg]; exact Nat.ne_of_lt (blk_lt (g := gb554) (o := .cells #[.slice Ao31 t572.length co31, .slice Ao35 t573.length co35] 30 (0, 0)) (by (with_reducible repeat (first | refine blk_drewN ?_ _ | refine blk_drew ?_ | refine blk_alloc ?_ _)); exact BK554.out)) : gb554 ≠ gb592)); have n23_ := Aside0.mk ((by rw [hg]; exact Nat.ne_of_gt (blk_lt (g := gb554) (o := .cells #[.slice Ao31 t572.length co31, .slice Ao35 t573.length co35] 30 (0, 0)) (by (with_reducible repeat (first | refine blk_drewN ?_ _ | refine blk_drew ?_ | refine blk_alloc ?_ _)); exact BK554.out)) : gb592 ≠ gb554)); have n24_ := Aside0.mk ((by rw [hg]; exact Nat.ne_of_lt (blk_lt (g := gb562) (o := .cells #[.slice Ao38 t555.length co38, .slice Ao43 t558.length co43] 30 (0, 0)) (by (with_reducible repeat (first | refine blk_drewN ?_ _ | refine blk_drew ?_ | refine blk_alloc ?_ _)); exact BK562.out)) : gb562 ≠ gb592)); have n25_ := Aside0.mk ((by rw [hg]; exact Nat.ne_of_gt (blk_lt (g := gb562) (o := .cells #[.slice Ao38 t555.length co38, .slice Ao43 t558.length co43] 30 (0, 0)) (by (with_reducible repeat (first | refine blk_drewN ?_ _ | refine blk_drew ?_ | refine blk_alloc ?_ _)); exact BK562.out)) : gb592 ≠ gb562)); clear HO_548000; clear HO_548001; clear HO_555000; clear HO_555001; clear HO_563000; clear HO_563001; clear HO581; clear HO584; clear HO587; clear HO590; clear BK532; clear BK547; clear BK554; clear BK562; clear HB; have HO_548000 := n0_; have HO_548001 := n1_; have HO_555000 := n2_; have HO_555001 := n3_; have HO_563000 := n4_; have HO_563001 := n5_; have HO581 := n6_; have HO584 := n7_; have HO587 := n8_; have HO590 := n9_; have BK532 := n10_; have BK547 := n11_; have BK554 := n12_; have BK562 := n13_; have HB := n14_; have BK592 := n15_; have GW592 := n16_; have GE592 := n17_; have NB532_592 := n18_; have NB592_532 := n19_; have NB547_592 := n20_; have NB592_547 := n21_; have NB554_592 := n22_; have NB592_554 := n23_; have NB562_592 := n24_; have NB592_562 := n25_; clear n0_ n1_ n2_ n3_ n4_ n5_ n6_ n7_ n8_ n9_ n10_ n11_ n12_ n13_ n14_ n15_ n16_ n17_ n18_ n19_ n20_ n21_ n22_ n23_ n24_ n25_; clear hb hbox hg; obtain ⟨Ao120, co120, eo120⟩ := Kd.R_slice HO587.out; subst eo120; have hnb121 := NB592_532.out; have hnc121 := NB532_592.out; have hnb122 := NB592_547.out; have hnc122 := NB547_592.out; have hnb123 := NB592_554.out; have hnc123 := NB554_592.out; have hnb124 := NB592_562.out; have hnc124 := NB562_592.out; have hcz125_0 : w119.cell? ⟨gb592, 0, none⟩ = some (.slice none 0 0) := (blk_cell BK592.out 0).trans rfl; have hcz125_1 : w119.cell? ⟨gb592, 1, none⟩ = some (.slice none 0 0) := (blk_cell BK592.out 1).trans rfl; have hfz125_0 := blk_frozen BK592.out 0; have hfz125_1 := blk_frozen BK592.out 1; obtain ⟨Ao126, co126, eo126⟩ := Kd.R_slice HO590.out; subst eo126))
                        (try simp only [Act.put, List.setIfInBounds_toArray, List.set_cons_zero, List.set_cons_succ])
                        go_cut [95] (fun v95 wc => ∃ (kq : Nat) (x95_103 : Bool), v95 = .bool x95_103 ∧ Aside0 (laws_FnExactAppend.j2 kq t575 x95_103 t576 t577 = some r) ∧ Aside0 (kq ≤ kj66) ∧ Aside0 (Kd.R Kd.string 9 wc w.heap.size (fun k_ => some k_ ≠ ((.slice Ao27 t543.length co27) : Value).ownBlock ∧ some k_ ≠ ((.slice Ao31 t572.length co31) : Value).ownBlock ∧ some k_ ≠ ((.slice Ao35 t573.length co35) : Value).ownBlock ∧ some k_ ≠ ((.slice Ao38 t555.length co38) : Value).ownBlock ∧ some k_ ≠ ((.slice Ao43 t558.length co43) : Value).ownBlock ∧ some k_ ≠ ((.slice Ao120 t585.length co120) : Value).ownBlock ∧ some k_ ≠ ((.slice Ao126 t588.length co126) : Value).ownBlock) (.slice Ao24 t540.length co24) t540) ∧ Aside0 (Kd.R Kd.string 9 wc w.heap.size (fun k_ => some k_ ≠ ((.slice Ao24 t540.length co24) : Value).ownBlock ∧ some k_ ≠ ((.slice Ao31 t572.length co31) : Value).ownBlock ∧ some k_ ≠ ((.slice Ao35 t573.length co35) : Value).ownBlock ∧ some k_ ≠ ((.slice Ao38 t555.length co38) : Value).ownBlock ∧ some k_ ≠ ((.slice Ao43 t558.length co43) : Value).ownBlock ∧ some k_ ≠ ((.slice Ao120 t585.length co120) : Value).ownBlock ∧ some k_ ≠ ((.slice Ao126 t588.length co126) : Value).ownBlock) (.slice Ao27 t543.length co27) t543) ∧ Aside0 (Kd.R Kd.string 9 wc w.heap.size (fun k_ => some k_ ≠ ((.slice Ao24 t540.length co24) : Value).ownBlock ∧ some k_ ≠ ((.slice Ao27 t543.length co27) : Value).ownBlock ∧ some k_ ≠ ((.slice Ao35 t573.length co35) : Value).ownBlock ∧ some k_ ≠ ((.slice Ao38 t555.length co38) : Value).ownBlock ∧ some k_ ≠ ((.slice Ao43 t558.length co43) : Value).ownBlock ∧ some k_ ≠ ((.slice Ao120 t585.length co120) : Value).ownBlock ∧ some k_ ≠ ((.slice Ao126 t588.length co126) : Value).ownBlock) (.slice Ao31 t572.length co31) t572) ∧ Aside0 (Kd.R Kd.string 9 wc w.heap.size (fun k_ => some k_ ≠ ((.slice Ao24 t540.length co24) : Value).ownBlock ∧ some k_ ≠ ((.slice Ao27 t543.length co27) : Value).ownBlock ∧ some k_ ≠ ((.slice Ao31 t572.length co31) : Value).ownBlock ∧ some k_ ≠ ((.slice Ao38 t555.length co38) : Value).ownBlock ∧ some k_ ≠ ((.slice Ao43 t558.length co43) : Value).ownBlock ∧ some k_ ≠ ((.slice Ao120 t585.length co120) : Value).ownBlock ∧ some k_ ≠ ((.slice Ao126 t588.length co126) : Value).ownBlock) (.slice Ao35 t573.length co35) t573) ∧ Aside0 (Kd.R Kd.string 9 wc w.heap.size (fun k_ => some k_ ≠ ((.slice Ao24 t540.length co24) : Value).ownBlock ∧ some k_ ≠ ((.slice Ao27 t543.length co27) : Value).ownBlock ∧ some k_ ≠ ((.slice Ao31 t572.length co31) : Value).ownBlock ∧ some k_ ≠ ((.slice Ao35 t573.length co35) : Value).ownBlock ∧ some k_ ≠ ((.slice Ao43 t558.length co43) : Value).ownBlock ∧ some k_ ≠ ((.slice Ao120 t585.length co120) : Value).ownBlock ∧ some k_ ≠ ((.slice Ao126 t588.length co126) : Value).ownBlock) (.slice Ao38 t555.length co38) t576) ∧ Aside0 (Kd.R Kd.string 9 wc w.heap.size (fun k_ => some k_ ≠ ((.slice Ao24 t540.length co24) : Value).ownBlock ∧ some k_ ≠ ((.slice Ao27 t543.length co27) : Value).ownBlock ∧ some k_ ≠ ((.slice Ao31 t572.length co31) : Value).ownBlock ∧ some k_ ≠ ((.slice Ao35 t573.length co35) : Value).ownBlock ∧ some k_ ≠ ((.slice Ao38 t555.length co38) : Value).ownBlock ∧ some k_ ≠ ((.slice Ao120 t585.length co120) : Value).ownBlock ∧ some k_ ≠ ((.slice Ao126 t588.length co126) : Value).ownBlock) (.slice Ao43 t558.length co43) t577) ∧ Aside0 (Kd.R Kd.string 9 wc w.heap.size (fun k_ => some k_ ≠ ((.slice Ao24 t540.length co24) : Value).ownBlock ∧ some k_ ≠ ((.slice Ao27 t543.length co27) : Value).ownBlock ∧ some k_ ≠ ((.slice Ao31 t572.length co31) : Value).ownBlock ∧ some k_ ≠ ((.slice Ao35 t573.length co35) : Value).ownBlock ∧ some k_ ≠ ((.slice Ao38 t555.length co38) : Value).ownBlock ∧ some k_ ≠ ((.slice Ao43 t558.length co43) : Value).ownBlock ∧ some k_ ≠ ((.slice Ao126 t588.length co126) : Value).ownBlock) (.slice Ao120 t585.length co120) t585) ∧ Aside0 (Kd.R Kd.string 9 wc w.heap.size (fun k_ => some k_ ≠ ((.slice Ao24 t540.length co24) : Value).ownBlock ∧ some k_ ≠ ((.slice Ao27 t543.length co27) : Value).ownBlock ∧ some k_ ≠ ((.slice Ao31 t572.length co31) : Value).ownBlock ∧ some k_ ≠ ((.slice Ao35 t573.length co35) : Value).ownBlock ∧ some k_ ≠ ((.slice Ao38 t555.length co38) : Value).ownBlock ∧ some k_ ≠ ((.slice Ao43 t558.length co43) : Value).ownBlock ∧ some k_ ≠ ((.slice Ao120 t585.length co120) : Value).ownBlock) (.slice Ao126 t588.length co126) t588) ∧ Aside0 (wc.heap[gb532]? = some (.cells #[(.slice A0_0 l0_0.length c0_0), (.slice A0_1 l0_1.length c0_1)] 27 (0, 0))) ∧ Aside0 (wc.heap[gb547]? = some (.cells #[(.slice Ao24 t540.length co24), (.slice Ao27 t543.length co27)] 30 (0, 0))) ∧ Aside0 (wc.heap[gb554]? = some (.cells #[(.slice Ao31 t572.length co31), (.slice Ao35 t573.length co35)] 30 (0, 0))) ∧ Aside0 (wc.heap[gb562]? = some (.cells #[(.slice Ao38 t555.length co38), (.slice Ao43 t558.length co43)] 30 (0, 0))) ∧ Aside0 (wc.heap[gb592]? = some (.cells #[(.slice Ao120 t585.length co120), (.slice Ao126 t588.length co126)] 30 (0, 0))) ∧ Aside0 (Below w.heap.size w wc))
                        case first =>
                          have H := HC104.out
                          clear HC104
                          replace H := Option.bind_eq_some_iff.mp H
                          obtain ⟨t593, A1270, H⟩ := H
                          replace H : (if t593 = true then (laws_FnExactAppend.j2 kj66 t575 (t591 != t546) t576 t577) else (laws_FnExactAppend.j2 kj66 t575 true t576 t577)) = some r := H
                          have A127 := Aside0.mk A1270
                          clear A1270
                          by_cases c128 : t593 = true
                          · subst c128
                            have H1 : (laws_FnExactAppend.j2 kj66 t575 (t591 != t546) t576 t577) = some r := by rw [if_pos rfl] at H; exact H
                            clear H
                            have H := H1
                            clear H1
                            have H' := Aside0.mk H
                            clear H
                            have hnb129 := NB592_532.out
                            have hnc129 := NB532_592.out
                            have hnb130 := NB592_547.out
                            have hnc130 := NB547_592.out
                            have hnb131 := NB592_554.out
                            have hnc131 := NB554_592.out
                            have hnb132 := NB592_562.out
                            have hnc132 := NB562_592.out
                            have hcz133_0 : w119.cell? ⟨gb592, 0, none⟩ = some (.slice none 0 0) := (blk_cell BK592.out 0).trans rfl
                            have hcz133_1 : w119.cell? ⟨gb592, 1, none⟩ = some (.slice none 0 0) := (blk_cell BK592.out 1).trans rfl
                            have hfz133_0 := blk_frozen BK592.out 0
                            have hfz133_1 := blk_frozen BK592.out 1
                            have hnb134 := NB547_532.out
                            have hnc134 := NB532_547.out
                            have hnb135 := NB547_554.out
                            have hnc135 := NB554_547.out
                            have hnb136 := NB547_562.out
                            have hnc136 := NB562_547.out
                            have hcz137_0 : w119.cell? ⟨gb547, 0, none⟩ = some (.slice Ao24 t540.length co24) := (blk_cell BK547.out 0).trans rfl
                            have hcz137_1 : w119.cell? ⟨gb547, 1, none⟩ = some (.slice Ao27 t543.length co27) := (blk_cell BK547.out 1).trans rfl
                            have hfz137_0 := blk_frozen BK547.out 0
                            have hfz137_1 := blk_frozen BK547.out 1
                            go_wp2_with (first | ((with_reducible refine gate_callee (f := 21) rfl ?_); refine goesL_ (some 89) rfl rfl Try.func21 (by kernel_rfl) rfl #[.agg #[.slice Ao120 t585.length co120, .slice Ao126 t588.length co126], .agg #[.slice Ao24 t540.length co24, .slice Ao27 t543.length co27]] rfl (by (try simp only [List.map_toArray, List.map_cons, List.map_nil]); first | done | rfl | (simp only [List.length_drop, List.length_take]; rfl)) ?_; (with_reducible refine (laws_eqLog.calls kj66 _ _ t585 _ _ t588 _ _ t540 _ _ t543 true _ ?side1 ?side2 ?side3 ?side4 ?side5 ?side6 ?side7 ?side8 A127.out).mono ?_); (case side1 => refine (Kd.R_reads' (e := 9) (base := w.heap.size) (ok := fun k_ => ((((((((some k_ ≠ (.slice Ao126 t588.length co126 : Value).ownBlock ∧ some k_ ≠ (.slice Ao24 t540.length co24 : Value).ownBlock) ∧ some k_ ≠ (.slice Ao27 t543.length co27 : Value).ownBlock) ∧ some k_ ≠ (.slice Ao31 t572.length co31 : Value).ownBlock) ∧ some k_ ≠ (.slice Ao35 t573.length co35 : Value).ownBlock) ∧ some k_ ≠ (.slice Ao38 t555.length co38 : Value).ownBlock) ∧ some k_ ≠ (.slice Ao43 t558.length co43 : Value).ownBlock) ∧ some k_ ≠ (.slice Ao116 t579.length co116 : Value).ownBlock) ∧ some k_ ≠ (.slice Ao117 t582.length co117 : Value).ownBlock)) (n := t585.length) (c := co120) ?_).2.2; exact (by (with_reducible repeat (first | apply Kd.R_alloc | apply Kd.R_drewN | apply Kd.R_drew)); exact (Kd.R_mono (Kd.R_far (p := ⟨gb592, 1, none⟩) (Kd.R_far (p := ⟨gb592, 0, none⟩) (Kd.R_types HO587.out BK592.out (by decide)) (fun _ hk => hk.2) (.slice Ao120 t585.length co120)) (fun _ hk => hk.2) (.slice Ao126 t588.length co126)) (fun _ h_ => h_.1)))); (case side2 => exact (Kd.R_reads' HO587.out).2.1); (case side3 => refine (Kd.R_reads' (e := 9) (base := w.heap.size) (ok := fun k_ => ((((((((some k_ ≠ (.slice Ao120 t585.length co120 : Value).ownBlock ∧ some k_ ≠ (.slice Ao24 t540.length co24 : Value).ownBlock) ∧ some k_ ≠ (.slice Ao27 t543.length co27 : Value).ownBlock) ∧ some k_ ≠ (.slice Ao31 t572.length co31 : Value).ownBlock) ∧ some k_ ≠ (.slice Ao35 t573.length co35 : Value).ownBlock) ∧ some k_ ≠ (.slice Ao38 t555.length co38 : Value).ownBlock) ∧ some k_ ≠ (.slice Ao43 t558.length co43 : Value).ownBlock) ∧ some k_ ≠ (.slice Ao116 t579.length co116 : Value).ownBlock) ∧ some k_ ≠ (.slice Ao117 t582.length co117 : Value).ownBlock)) (n := t588.length) (c := co126) ?_).2.2; exact (by (with_reducible repeat (first | apply Kd.R_alloc | apply Kd.R_drewN | apply Kd.R_drew)); exact (Kd.R_mono (Kd.R_far (p := ⟨gb592, 1, none⟩) (Kd.R_far (p := ⟨gb592, 0, none⟩) (Kd.R_types HO590.out BK592.out (by decide)) (fun _ hk => hk.2) (.slice Ao120 t585.length co120)) (fun _ hk => hk.2) (.slice Ao126 t588.length co126)) (fun _ h_ => h_.1)))); (case side4 => exact (Kd.R_reads' HO590.out).2.1); (case side5 => refine (Kd.R_reads' (e := 9) (base := w.heap.size) (ok := fun k_ => (((((some k_ ≠ (.slice Ao27 t543.length co27 : Value).ownBlock ∧ (some k_ ≠ (.slice Ao31 t572.length co31 : Value).ownBlock ∧ (some k_ ≠ (.slice Ao35 t573.length co35 : Value).ownBlock ∧ (some k_ ≠ (.slice Ao38 t555.length co38 : Value).ownBlock ∧ some k_ ≠ (.slice Ao43 t558.length co43 : Value).ownBlock)))) ∧ some k_ ≠ (.slice Ao116 t579.length co116 : Value).ownBlock) ∧ some k_ ≠ (.slice Ao117 t582.length co117 : Value).ownBlock) ∧ some k_ ≠ (.slice Ao120 t585.length co120 : Value).ownBlock) ∧ some k_ ≠ (.slice Ao126 t588.length co126 : Value).ownBlock)) (n := t540.length) (c := co24) ?_).2.2; exact (by (with_reducible repeat (first | apply Kd.R_alloc | apply Kd.R_drewN | apply Kd.R_drew)); exact (Kd.R_mono (Kd.R_far (p := ⟨gb592, 1, none⟩) (Kd.R_far (p := ⟨gb592, 0, none⟩) (Kd.R_types HO_548000.out BK592.out (by decide)) (fun _ hk => hk.2) (.slice Ao120 t585.length co120)) (fun _ hk => hk.2) (.slice Ao126 t588.length co126)) (fun _ h_ => h_.1)))); (case side6 => exact (Kd.R_reads' HO_548000.out).2.1); (case side7 => refine (Kd.R_reads' (e := 9) (base := w.heap.size) (ok := fun k_ => (((((some k_ ≠ (.slice Ao24 t540.length co24 : Value).ownBlock ∧ (some k_ ≠ (.slice Ao31 t572.length co31 : Value).ownBlock ∧ (some k_ ≠ (.slice Ao35 t573.length co35 : Value).ownBlock ∧ (some k_ ≠ (.slice Ao38 t555.length co38 : Value).ownBlock ∧ some k_ ≠ (.slice Ao43 t558.length co43 : Value).ownBlock)))) ∧ some k_ ≠ (.slice Ao116 t579.length co116 : Value).ownBlock) ∧ some k_ ≠ (.slice Ao117 t582.length co117 : Value).ownBlock) ∧ some k_ ≠ (.slice Ao120 t585.length co120 : Value).ownBlock) ∧ some k_ ≠ (.slice Ao126 t588.length co126 : Value).ownBlock)) (n := t543.length) (c := co27) ?_).2.2; exact (by (with_reducible repeat (first | apply Kd.R_alloc | apply Kd.R_drewN | apply Kd.R_drew)); exact (Kd.R_mono (Kd.R_far (p := ⟨gb592, 1, none⟩) (Kd.R_far (p := ⟨gb592, 0, none⟩) (Kd.R_types HO_548001.out BK592.out (by decide)) (fun _ hk => hk.2) (.slice Ao120 t585.length co120)) (fun _ hk => hk.2) (.slice Ao126 t588.length co126)) (fun _ h_ => h_.1)))); (case side8 => exact (Kd.R_reads' HO_548001.out).2.1); rintro e w138 ⟨rfl, hb⟩; refine ⟨_, rfl, ?_⟩; have n0_ := Aside0.mk (Kd.R_below (by (with_reducible repeat (first | apply Kd.R_alloc | apply Kd.R_drewN | apply Kd.R_drew)); exact (Kd.R_mono (Kd.R_far (p := ⟨gb592, 1, none⟩) (Kd.R_far (p := ⟨gb592, 0, none⟩) (Kd.R_types HO_548000.out BK592.out (by decide)) (fun _ hk => hk.2) (.slice Ao120 t585.length co120)) (fun _ hk => hk.2) (.slice Ao126 t588.length co126)) (fun _ h_ => h_.1))) hb); have n1_ := Aside0.mk (Kd.R_below (by (with_reducible repeat (first | apply Kd.R_alloc | apply Kd.R_drewN | apply Kd.R_drew)); exact (Kd.R_mono (Kd.R_far (p := ⟨gb592, 1, none⟩) (Kd.R_far (p := ⟨gb592, 0, none⟩) (Kd.R_types HO_548001.out BK592.out (by decide)) (fun _ hk => hk.2) (.slice Ao120 t585.length co120)) (fun _ hk => hk.2) (.slice Ao126 t588.length co126)) (fun _ h_ => h_.1))) hb); have n2_ := Aside0.mk (Kd.R_below (by (with_reducible repeat (first | apply Kd.R_alloc | apply Kd.R_drewN | apply Kd.R_drew)); exact (Kd.R_mono (Kd.R_far (p := ⟨gb592, 1, none⟩) (Kd.R_far (p := ⟨gb592, 0, none⟩) (Kd.R_types HO_555000.out BK592.out (by decide)) (fun _ hk => hk.2) (.slice Ao120 t585.length co120)) (fun _ hk => hk.2) (.slice Ao126 t588.length co126)) (fun _ h_ => h_.1))) hb); have n3_ := Aside0.mk (Kd.R_below (by (with_reducible repeat (first | apply Kd.R_alloc | apply Kd.R_drewN | apply Kd.R_drew)); exact (Kd.R_mono (Kd.R_far (p := ⟨gb592, 1, none⟩) (Kd.R_far (p := ⟨gb592, 0, none⟩) (Kd.R_types HO_555001.out BK592.out (by decide)) (fun _ hk => hk.2) (.slice Ao120 t585.length co120)) (fun _ hk => hk.2) (.slice Ao126 t588.length co126)) (fun _ h_ => h_.1))) hb); have n4_ := Aside0.mk (Kd.R_below (by (with_reducible repeat (first | apply Kd.R_alloc | apply Kd.R_drewN | apply Kd.R_drew)); exact (Kd.R_mono (Kd.R_far (p := ⟨gb592, 1, none⟩) (Kd.R_far (p := ⟨gb592, 0, none⟩) (Kd.R_types HO_563000.out BK592.out (by decide)) (fun _ hk => hk.2) (.slice Ao120 t585.length co120)) (fun _ hk => hk.2) (.slice Ao126 t588.length co126)) (fun _ h_ => h_.1))) hb); have n5_ := Aside0.mk (Kd.R_below (by (with_reducible repeat (first | apply Kd.R_alloc | apply Kd.R_drewN | apply Kd.R_drew)); exact (Kd.R_mono (Kd.R_far (p := ⟨gb592, 1, none⟩) (Kd.R_far (p := ⟨gb592, 0, none⟩) (Kd.R_types HO_563001.out BK592.out (by decide)) (fun _ hk => hk.2) (.slice Ao120 t585.length co120)) (fun _ hk => hk.2) (.slice Ao126 t588.length co126)) (fun _ h_ => h_.1))) hb); have n6_ := Aside0.mk (Kd.R_below (by (with_reducible repeat (first | apply Kd.R_alloc | apply Kd.R_drewN | apply Kd.R_drew)); exact (Kd.R_mono (Kd.R_far (p := ⟨gb592, 1, none⟩) (Kd.R_far (p := ⟨gb592, 0, none⟩) (Kd.R_types HO581.out BK592.out (by decide)) (fun _ hk => hk.2) (.slice Ao120 t585.length co120)) (fun _ hk => hk.2) (.slice Ao126 t588.length co126)) (fun _ h_ => h_.1))) hb); have n7_ := Aside0.mk (Kd.R_below (by (with_reducible repeat (first | apply Kd.R_alloc | apply Kd.R_drewN | apply Kd.R_drew)); exact (Kd.R_mono (Kd.R_far (p := ⟨gb592, 1, none⟩) (Kd.R_far (p := ⟨gb592, 0, none⟩) (Kd.R_types HO584.out BK592.out (by decide)) (fun _ hk => hk.2) (.slice Ao120 t585.length co120)) (fun _ hk => hk.2) (.slice Ao126 t588.length co126)) (fun _ h_ => h_.1))) hb); have n8_ := Aside0.mk (Kd.R_below (by (with_reducible repeat (first | apply Kd.R_alloc | apply Kd.R_drewN | apply Kd.R_drew)); exact (Kd.R_mono (Kd.R_far (p := ⟨gb592, 1, none⟩) (Kd.R_far (p := ⟨gb592, 0, none⟩) (Kd.R_types HO587.out BK592.out (by decide)) (fun _ hk => hk.2) (.slice Ao120 t585.length co120)) (fun _ hk => hk.2) (.slice Ao126 t588.length co126)) (fun _ h_ => h_.1))) hb); have n9_ := Aside0.mk (Kd.R_below (by (with_reducible repeat (first | apply Kd.R_alloc | apply Kd.R_drewN | apply Kd.R_drew)); exact (Kd.R_mono (Kd.R_far (p := ⟨gb592, 1, none⟩) (Kd.R_far (p := ⟨gb592, 0, none⟩) (Kd.R_types HO590.out BK592.out (by decide)) (fun _ hk => hk.2) (.slice Ao120 t585.length co120)) (fun _ hk => hk.2) (.slice Ao126 t588.length co126)) (fun _ h_ => h_.1))) hb); have n10_ := Aside0.mk (blk_below (g := gb532) (o := .cells #[.slice A0_0 l0_0.length c0_0, .slice A0_1 l0_1.length c0_1] 27 (0, 0)) (by (with_reducible repeat (first | refine blk_drewN ?_ _ | refine blk_drew ?_ | refine blk_alloc ?_ _)); refine blk_far ?_ NB532_592.out _; (with_reducible repeat (first | refine blk_drewN ?_ _ | refine blk_drew ?_ | refine blk_alloc ?_ _)); refine blk_far ?_ NB532_592.out _; (with_reducible repeat (first | refine blk_drewN ?_ _ | refine blk_drew ?_ | refine blk_alloc ?_ _)); exact BK532.out) hb); have n11_ := Aside0.mk (blk_below (g := gb547) (o := .cells #[.slice Ao24 t540.length co24, .slice Ao27 t543.length co27] 30 (0, 0)) (by (with_reducible repeat (first | refine blk_drewN ?_ _ | refine blk_drew ?_ | refine blk_alloc ?_ _)); refine blk_far ?_ NB547_592.out _; (with_reducible repeat (first | refine blk_drewN ?_ _ | refine blk_drew ?_ | refine blk_alloc ?_ _)); refine blk_far ?_ NB547_592.out _; (with_reducible repeat (first | refine blk_drewN ?_ _ | refine blk_drew ?_ | refine blk_alloc ?_ _)); exact BK547.out) hb); have n12_ := Aside0.mk (blk_below (g := gb554) (o := .cells #[.slice Ao31 t572.length co31, .slice Ao35 t573.length co35] 30 (0, 0)) (by (with_reducible repeat (first | refine blk_drewN ?_ _ | refine blk_drew ?_ | refine blk_alloc ?_ _)); refine blk_far ?_ NB554_592.out _; (with_reducible repeat (first | refine blk_drewN ?_ _ | refine blk_drew ?_ | refine blk_alloc ?_ _)); refine blk_far ?_ NB554_592.out _; (with_reducible repeat (first | refine blk_drewN ?_ _ | refine blk_drew ?_ | refine blk_alloc ?_ _)); exact BK554.out) hb); have n13_ := Aside0.mk (blk_below (g := gb562) (o := .cells #[.slice Ao38 t555.length co38, .slice Ao43 t558.length co43] 30 (0, 0)) (by (with_reducible repeat (first | refine blk_drewN ?_ _ | refine blk_drew ?_ | refine blk_alloc ?_ _)); refine blk_far ?_ NB562_592.out _; (with_reducible repeat (first | refine blk_drewN ?_ _ | refine blk_drew ?_ | refine blk_alloc ?_ _)); refine blk_far ?_ NB562_592.out _; (with_reducible repeat (first | refine blk_drewN ?_ _ | refine blk_drew ?_ | refine blk_alloc ?_ _)); exact BK562.out) hb); have n14_ := Aside0.mk (blk_below (g := gb592) (o := .cells #[.slice Ao120 t585.length co120, .slice Ao126 t588.length co126] 30 (0, 0)) (by (with_reducible repeat (first | refine blk_drewN ?_ _ | refine blk_drew ?_ | refine blk_alloc ?_ _)); refine blk_put (cs := #[.slice Ao120 t585.length co120, .slice none 0 0]) ?_ 1 _ rfl; (with_reducible repeat (first | refine blk_drewN ?_ _ | refine blk_drew ?_ | refine blk_alloc ?_ _)); refine blk_put (cs := #[.slice none 0 0, .slice none 0 0]) ?_ 0 _ rfl; (with_reducible repeat (first | refine blk_drewN ?_ _ | refine blk_drew ?_ | refine blk_alloc ?_ _)); exact BK592.out) hb); have n15_ := Aside0.mk (below_step (by repeat (first | (with_reducible first | exact HB.out | apply below_alloc | apply pw_below_drewN | apply below_drew1 | refine below_set ?_ GE532.out | refine below_set ?_ GE547.out | refine below_set ?_ GE554.out | refine below_set ?_ GE562.out | refine below_set ?_ GE592.out) | exact HB.out)) hb); clear HO_548000; clear HO_548001; clear HO_555000; clear HO_555001; clear HO_563000; clear HO_563001; clear HO581; clear HO584; clear HO587; clear HO590; clear BK532; clear BK547; clear BK554; clear BK562; clear BK592; clear HB; have HO_548000 := n0_; have HO_548001 := n1_; have HO_555000 := n2_; have HO_555001 := n3_; have HO_563000 := n4_; have HO_563001 := n5_; have HO581 := n6_; have HO584 := n7_; have HO587 := n8_; have HO590 := n9_; have BK532 := n10_; have BK547 := n11_; have BK554 := n12_; have BK562 := n13_; have BK592 := n14_; have HB := n15_; clear n0_ n1_ n2_ n3_ n4_ n5_ n6_ n7_ n8_ n9_ n10_ n11_ n12_ n13_ n14_ n15_; (try clear hb); (try clear hb2); (try clear hk); (try clear hi)))
                            go_meet
                            case rel => exact ⟨_, ((t591 != t546)), (by first | rfl | (simp; done) | (simp [*]; done)), H', ⟨by have := HJ13.out; have := HJ66.out; first | omega | exact Nat.le_refl _⟩, ⟨by (try simp only [hl555000_66]); (try simp only [hl555001_66]); (with_reducible repeat (first | apply Kd.R_alloc | apply Kd.R_drewN | apply Kd.R_drew)); exact Kd.R_mono HO_548000.out (fun _ hk => ⟨hk.1.1.1.1.1, ⟨hk.1.1.1.1.2.1, ⟨hk.1.1.1.1.2.2.1, ⟨hk.1.1.1.1.2.2.2.1, ⟨hk.1.1.1.1.2.2.2.2, ⟨hk.1.2, hk.2⟩⟩⟩⟩⟩⟩)⟩, ⟨by (try simp only [hl555000_66]); (try simp only [hl555001_66]); (with_reducible repeat (first | apply Kd.R_alloc | apply Kd.R_drewN | apply Kd.R_drew)); exact Kd.R_mono HO_548001.out (fun _ hk => ⟨hk.1.1.1.1.1, ⟨hk.1.1.1.1.2.1, ⟨hk.1.1.1.1.2.2.1, ⟨hk.1.1.1.1.2.2.2.1, ⟨hk.1.1.1.1.2.2.2.2, ⟨hk.1.2, hk.2⟩⟩⟩⟩⟩⟩)⟩, ⟨by (try simp only [hl555000_66]); (try simp only [hl555001_66]); (with_reducible repeat (first | apply Kd.R_alloc | apply Kd.R_drewN | apply Kd.R_drew)); exact Kd.R_mono HO_555000.out (fun _ hk => ⟨hk.1.1.1.1.1, ⟨hk.1.1.1.1.2.1, ⟨hk.1.1.1.1.2.2.1, ⟨hk.1.1.1.1.2.2.2.1, ⟨hk.1.1.1.1.2.2.2.2, ⟨hk.1.2, hk.2⟩⟩⟩⟩⟩⟩)⟩, ⟨by (try simp only [hl555000_66]); (try simp only [hl555001_66]); (with_reducible repeat (first | apply Kd.R_alloc | apply Kd.R_drewN | apply Kd.R_drew)); exact Kd.R_mono HO_555001.out (fun _ hk => ⟨hk.1.1.1.1.1, ⟨hk.1.1.1.1.2.1, ⟨hk.1.1.1.1.2.2.1, ⟨hk.1.1.1.1.2.2.2.1, ⟨hk.1.1.1.1.2.2.2.2, ⟨hk.1.2, hk.2⟩⟩⟩⟩⟩⟩)⟩, ⟨by (try simp only [hl555000_66]); (try simp only [hl555001_66]); (with_reducible repeat (first | apply Kd.R_alloc | apply Kd.R_drewN | apply Kd.R_drew)); exact Kd.R_mono HO_563000.out (fun _ hk => ⟨hk.1.1.1.1.1, ⟨hk.1.1.1.1.2.1, ⟨hk.1.1.1.1.2.2.1, ⟨hk.1.1.1.1.2.2.2.1, ⟨hk.1.1.1.1.2.2.2.2, ⟨hk.1.2, hk.2⟩⟩⟩⟩⟩⟩)⟩, ⟨by (try simp only [hl555000_66]); (try simp only [hl555001_66]); (with_reducible repeat (first | apply Kd.R_alloc | apply Kd.R_drewN | apply Kd.R_drew)); exact Kd.R_mono HO_563001.out (fun _ hk => ⟨hk.1.1.1.1.1, ⟨hk.1.1.1.1.2.1, ⟨hk.1.1.1.1.2.2.1, ⟨hk.1.1.1.1.2.2.2.1, ⟨hk.1.1.1.1.2.2.2.2, ⟨hk.1.2, hk.2⟩⟩⟩⟩⟩⟩)⟩, ⟨by (try simp only [hl555000_66]); (try simp only [hl555001_66]); (with_reducible repeat (first | apply Kd.R_alloc | apply Kd.R_drewN | apply Kd.R_drew)); exact Kd.R_mono HO587.out (fun _ hk => ⟨hk.1.1.1.1.1.1.1.2, ⟨hk.1.1.1.1.1.1.2, ⟨hk.1.1.1.1.1.2, ⟨hk.1.1.1.1.2, ⟨hk.1.1.1.2, ⟨hk.1.1.2, hk.1.1.1.1.1.1.1.1⟩⟩⟩⟩⟩⟩)⟩, ⟨by (try simp only [hl555000_66]); (try simp only [hl555001_66]); (with_reducible repeat (first | apply Kd.R_alloc | apply Kd.R_drewN | apply Kd.R_drew)); exact Kd.R_mono HO590.out (fun _ hk => ⟨hk.1.1.1.1.1.1.1.2, ⟨hk.1.1.1.1.1.1.2, ⟨hk.1.1.1.1.1.2, ⟨hk.1.1.1.1.2, ⟨hk.1.1.1.2, ⟨hk.1.1.2, hk.1.1.1.1.1.1.1.1⟩⟩⟩⟩⟩⟩)⟩, ⟨by (try simp only [hl555000_66]); (try simp only [hl555001_66]); (with_reducible repeat (first | refine blk_drewN ?_ _ | refine blk_drew ?_ | refine blk_alloc ?_ _)); exact BK532.out⟩, ⟨by (try simp only [hl555000_66]); (try simp only [hl555001_66]); (with_reducible repeat (first | refine blk_drewN ?_ _ | refine blk_drew ?_ | refine blk_alloc ?_ _)); exact BK547.out⟩, ⟨by (try simp only [hl555000_66]); (try simp only [hl555001_66]); (with_reducible repeat (first | refine blk_drewN ?_ _ | refine blk_drew ?_ | refine blk_alloc ?_ _)); exact BK554.out⟩, ⟨by (try simp only [hl555000_66]); (try simp only [hl555001_66]); (with_reducible repeat (first | refine blk_drewN ?_ _ | refine blk_drew ?_ | refine blk_alloc ?_ _)); exact BK562.out⟩, ⟨by (try simp only [hl555000_66]); (try simp only [hl555001_66]); (with_reducible repeat (first | refine blk_drewN ?_ _ | refine blk_drew ?_ | refine blk_alloc ?_ _)); exact BK592.out⟩, ⟨by repeat (first | (with_reducible first | exact HB.out | apply below_alloc | apply pw_below_drewN | apply below_drew1 | refine below_set ?_ GE532.out | refine below_set ?_ GE547.out | refine below_set ?_ GE554.out | refine below_set ?_ GE562.out | refine below_set ?_ GE592.out) | exact HB.out)⟩⟩
                          · replace c128 := Bool.eq_false_iff.mpr c128
                            subst c128
                            have H1 : (laws_FnExactAppend.j2 kj66 t575 true t576 t577) = some r := by rw [if_neg (show ¬ (false = true) by decide)] at H; exact H
                            clear H
                            have H := H1
                            clear H1
                            have H' := Aside0.mk H
                            clear H
                            have hnb139 := NB592_532.out
                            have hnc139 := NB532_592.out
                            have hnb140 := NB592_547.out
                            have hnc140 := NB547_592.out
                            have hnb141 := NB592_554.out
                            have hnc141 := NB554_592.out
                            have hnb142 := NB592_562.out
                            have hnc142 := NB562_592.out
                            have hcz143_0 : w119.cell? ⟨gb592, 0, none⟩ = some (.slice none 0 0) := (blk_cell BK592.out 0).trans rfl
                            have hcz143_1 : w119.cell? ⟨gb592, 1, none⟩ = some (.slice none 0 0) := (blk_cell BK592.out 1).trans rfl
                            have hfz143_0 := blk_frozen BK592.out 0
                            have hfz143_1 := blk_frozen BK592.out 1
                            have hnb144 := NB547_532.out
                            have hnc144 := NB532_547.out
                            have hnb145 := NB547_554.out
                            have hnc145 := NB554_547.out
                            have hnb146 := NB547_562.out
                            have hnc146 := NB562_547.out
                            have hcz147_0 : w119.cell? ⟨gb547, 0, none⟩ = some (.slice Ao24 t540.length co24) := (blk_cell BK547.out 0).trans rfl
                            have hcz147_1 : w119.cell? ⟨gb547, 1, none⟩ = some (.slice Ao27 t543.length co27) := (blk_cell BK547.out 1).trans rfl
                            have hfz147_0 := blk_frozen BK547.out 0
                            have hfz147_1 := blk_frozen BK547.out 1
                            go_wp2_with (first | ((with_reducible refine gate_callee (f := 21) rfl ?_); refine goesL_ (some 89) rfl rfl Try.func21 (by kernel_rfl) rfl #[.agg #[.slice Ao120 t585.length co120, .slice Ao126 t588.length co126], .agg #[.slice Ao24 t540.length co24, .slice Ao27 t543.length co27]] rfl (by (try simp only [List.map_toArray, List.map_cons, List.map_nil]); first | done | rfl | (simp only [List.length_drop, List.length_take]; rfl)) ?_; (with_reducible refine (laws_eqLog.calls kj66 _ _ t585 _ _ t588 _ _ t540 _ _ t543 false _ ?side1 ?side2 ?side3 ?side4 ?side5 ?side6 ?side7 ?side8 A127.out).mono ?_); (case side1 => refine (Kd.R_reads' (e := 9) (base := w.heap.size) (ok := fun k_ => ((((((((some k_ ≠ (.slice Ao126 t588.length co126 : Value).ownBlock ∧ some k_ ≠ (.slice Ao24 t540.length co24 : Value).ownBlock) ∧ some k_ ≠ (.slice Ao27 t543.length co27 : Value).ownBlock) ∧ some k_ ≠ (.slice Ao31 t572.length co31 : Value).ownBlock) ∧ some k_ ≠ (.slice Ao35 t573.length co35 : Value).ownBlock) ∧ some k_ ≠ (.slice Ao38 t555.length co38 : Value).ownBlock) ∧ some k_ ≠ (.slice Ao43 t558.length co43 : Value).ownBlock) ∧ some k_ ≠ (.slice Ao116 t579.length co116 : Value).ownBlock) ∧ some k_ ≠ (.slice Ao117 t582.length co117 : Value).ownBlock)) (n := t585.length) (c := co120) ?_).2.2; exact (by (with_reducible repeat (first | apply Kd.R_alloc | apply Kd.R_drewN | apply Kd.R_drew)); exact (Kd.R_mono (Kd.R_far (p := ⟨gb592, 1, none⟩) (Kd.R_far (p := ⟨gb592, 0, none⟩) (Kd.R_types HO587.out BK592.out (by decide)) (fun _ hk => hk.2) (.slice Ao120 t585.length co120)) (fun _ hk => hk.2) (.slice Ao126 t588.length co126)) (fun _ h_ => h_.1)))); (case side2 => exact (Kd.R_reads' HO587.out).2.1); (case side3 => refine (Kd.R_reads' (e := 9) (base := w.heap.size) (ok := fun k_ => ((((((((some k_ ≠ (.slice Ao120 t585.length co120 : Value).ownBlock ∧ some k_ ≠ (.slice Ao24 t540.length co24 : Value).ownBlock) ∧ some k_ ≠ (.slice Ao27 t543.length co27 : Value).ownBlock) ∧ some k_ ≠ (.slice Ao31 t572.length co31 : Value).ownBlock) ∧ some k_ ≠ (.slice Ao35 t573.length co35 : Value).ownBlock) ∧ some k_ ≠ (.slice Ao38 t555.length co38 : Value).ownBlock) ∧ some k_ ≠ (.slice Ao43 t558.length co43 : Value).ownBlock) ∧ some k_ ≠ (.slice Ao116 t579.length co116 : Value).ownBlock) ∧ some k_ ≠ (.slice Ao117 t582.length co117 : Value).ownBlock)) (n := t588.length) (c := co126) ?_).2.2; exact (by (with_reducible repeat (first | apply Kd.R_alloc | apply Kd.R_drewN | apply Kd.R_drew)); exact (Kd.R_mono (Kd.R_far (p := ⟨gb592, 1, none⟩) (Kd.R_far (p := ⟨gb592, 0, none⟩) (Kd.R_types HO590.out BK592.out (by decide)) (fun _ hk => hk.2) (.slice Ao120 t585.length co120)) (fun _ hk => hk.2) (.slice Ao126 t588.length co126)) (fun _ h_ => h_.1)))); (case side4 => exact (Kd.R_reads' HO590.out).2.1); (case side5 => refine (Kd.R_reads' (e := 9) (base := w.heap.size) (ok := fun k_ => (((((some k_ ≠ (.slice Ao27 t543.length co27 : Value).ownBlock ∧ (some k_ ≠ (.slice Ao31 t572.length co31 : Value).ownBlock ∧ (some k_ ≠ (.slice Ao35 t573.length co35 : Value).ownBlock ∧ (some k_ ≠ (.slice Ao38 t555.length co38 : Value).ownBlock ∧ some k_ ≠ (.slice Ao43 t558.length co43 : Value).ownBlock)))) ∧ some k_ ≠ (.slice Ao116 t579.length co116 : Value).ownBlock) ∧ some k_ ≠ (.slice Ao117 t582.length co117 : Value).ownBlock) ∧ some k_ ≠ (.slice Ao120 t585.length co120 : Value).ownBlock) ∧ some k_ ≠ (.slice Ao126 t588.length co126 : Value).ownBlock)) (n := t540.length) (c := co24) ?_).2.2; exact (by (with_reducible repeat (first | apply Kd.R_alloc | apply Kd.R_drewN | apply Kd.R_drew)); exact (Kd.R_mono (Kd.R_far (p := ⟨gb592, 1, none⟩) (Kd.R_far (p := ⟨gb592, 0, none⟩) (Kd.R_types HO_548000.out BK592.out (by decide)) (fun _ hk => hk.2) (.slice Ao120 t585.length co120)) (fun _ hk => hk.2) (.slice Ao126 t588.length co126)) (fun _ h_ => h_.1)))); (case side6 => exact (Kd.R_reads' HO_548000.out).2.1); (case side7 => refine (Kd.R_reads' (e := 9) (base := w.heap.size) (ok := fun k_ => (((((some k_ ≠ (.slice Ao24 t540.length co24 : Value).ownBlock ∧ (some k_ ≠ (.slice Ao31 t572.length co31 : Value).ownBlock ∧ (some k_ ≠ (.slice Ao35 t573.length co35 : Value).ownBlock ∧ (some k_ ≠ (.slice Ao38 t555.length co38 : Value).ownBlock ∧ some k_ ≠ (.slice Ao43 t558.length co43 : Value).ownBlock)))) ∧ some k_ ≠ (.slice Ao116 t579.length co116 : Value).ownBlock) ∧ some k_ ≠ (.slice Ao117 t582.length co117 : Value).ownBlock) ∧ some k_ ≠ (.slice Ao120 t585.length co120 : Value).ownBlock) ∧ some k_ ≠ (.slice Ao126 t588.length co126 : Value).ownBlock)) (n := t543.length) (c := co27) ?_).2.2; exact (by (with_reducible repeat (first | apply Kd.R_alloc | apply Kd.R_drewN | apply Kd.R_drew)); exact (Kd.R_mono (Kd.R_far (p := ⟨gb592, 1, none⟩) (Kd.R_far (p := ⟨gb592, 0, none⟩) (Kd.R_types HO_548001.out BK592.out (by decide)) (fun _ hk => hk.2) (.slice Ao120 t585.length co120)) (fun _ hk => hk.2) (.slice Ao126 t588.length co126)) (fun _ h_ => h_.1)))); (case side8 => exact (Kd.R_reads' HO_548001.out).2.1); rintro e w148 ⟨rfl, hb⟩; refine ⟨_, rfl, ?_⟩; have n0_ := Aside0.mk (Kd.R_below (by (with_reducible repeat (first | apply Kd.R_alloc | apply Kd.R_drewN | apply Kd.R_drew)); exact (Kd.R_mono (Kd.R_far (p := ⟨gb592, 1, none⟩) (Kd.R_far (p := ⟨gb592, 0, none⟩) (Kd.R_types HO_548000.out BK592.out (by decide)) (fun _ hk => hk.2) (.slice Ao120 t585.length co120)) (fun _ hk => hk.2) (.slice Ao126 t588.length co126)) (fun _ h_ => h_.1))) hb); have n1_ := Aside0.mk (Kd.R_below (by (with_reducible repeat (first | apply Kd.R_alloc | apply Kd.R_drewN | apply Kd.R_drew)); exact (Kd.R_mono (Kd.R_far (p := ⟨gb592, 1, none⟩) (Kd.R_far (p := ⟨gb592, 0, none⟩) (Kd.R_types HO_548001.out BK592.out (by decide)) (fun _ hk => hk.2) (.slice Ao120 t585.length co120)) (fun _ hk => hk.2) (.slice Ao126 t588.length co126)) (fun _ h_ => h_.1))) hb); have n2_ := Aside0.mk (Kd.R_below (by (with_reducible repeat (first | apply Kd.R_alloc | apply Kd.R_drewN | apply Kd.R_drew)); exact (Kd.R_mono (Kd.R_far (p := ⟨gb592, 1, none⟩) (Kd.R_far (p := ⟨gb592, 0, none⟩) (Kd.R_types HO_555000.out BK592.out (by decide)) (fun _ hk => hk.2) (.slice Ao120 t585.length co120)) (fun _ hk => hk.2) (.slice Ao126 t588.length co126)) (fun _ h_ => h_.1))) hb); have n3_ := Aside0.mk (Kd.R_below (by (with_reducible repeat (first | apply Kd.R_alloc | apply Kd.R_drewN | apply Kd.R_drew)); exact (Kd.R_mono (Kd.R_far (p := ⟨gb592, 1, none⟩) (Kd.R_far (p := ⟨gb592, 0, none⟩) (Kd.R_types HO_555001.out BK592.out (by decide)) (fun _ hk => hk.2) (.slice Ao120 t585.length co120)) (fun _ hk => hk.2) (.slice Ao126 t588.length co126)) (fun _ h_ => h_.1))) hb); have n4_ := Aside0.mk (Kd.R_below (by (with_reducible repeat (first | apply Kd.R_alloc | apply Kd.R_drewN | apply Kd.R_drew)); exact (Kd.R_mono (Kd.R_far (p := ⟨gb592, 1, none⟩) (Kd.R_far (p := ⟨gb592, 0, none⟩) (Kd.R_types HO_563000.out BK592.out (by decide)) (fun _ hk => hk.2) (.slice Ao120 t585.length co120)) (fun _ hk => hk.2) (.slice Ao126 t588.length co126)) (fun _ h_ => h_.1))) hb); have n5_ := Aside0.mk (Kd.R_below (by (with_reducible repeat (first | apply Kd.R_alloc | apply Kd.R_drewN | apply Kd.R_drew)); exact (Kd.R_mono (Kd.R_far (p := ⟨gb592, 1, none⟩) (Kd.R_far (p := ⟨gb592, 0, none⟩) (Kd.R_types HO_563001.out BK592.out (by decide)) (fun _ hk => hk.2) (.slice Ao120 t585.length co120)) (fun _ hk => hk.2) (.slice Ao126 t588.length co126)) (fun _ h_ => h_.1))) hb); have n6_ := Aside0.mk (Kd.R_below (by (with_reducible repeat (first | apply Kd.R_alloc | apply Kd.R_drewN | apply Kd.R_drew)); exact (Kd.R_mono (Kd.R_far (p := ⟨gb592, 1, none⟩) (Kd.R_far (p := ⟨gb592, 0, none⟩) (Kd.R_types HO581.out BK592.out (by decide)) (fun _ hk => hk.2) (.slice Ao120 t585.length co120)) (fun _ hk => hk.2) (.slice Ao126 t588.length co126)) (fun _ h_ => h_.1))) hb); have n7_ := Aside0.mk (Kd.R_below (by (with_reducible repeat (first | apply Kd.R_alloc | apply Kd.R_drewN | apply Kd.R_drew)); exact (Kd.R_mono (Kd.R_far (p := ⟨gb592, 1, none⟩) (Kd.R_far (p := ⟨gb592, 0, none⟩) (Kd.R_types HO584.out BK592.out (by decide)) (fun _ hk => hk.2) (.slice Ao120 t585.length co120)) (fun _ hk => hk.2) (.slice Ao126 t588.length co126)) (fun _ h_ => h_.1))) hb); have n8_ := Aside0.mk (Kd.R_below (by (with_reducible repeat (first | apply Kd.R_alloc | apply Kd.R_drewN | apply Kd.R_drew)); exact (Kd.R_mono (Kd.R_far (p := ⟨gb592, 1, none⟩) (Kd.R_far (p := ⟨gb592, 0, none⟩) (Kd.R_types HO587.out BK592.out (by decide)) (fun _ hk => hk.2) (.slice Ao120 t585.length co120)) (fun _ hk => hk.2) (.slice Ao126 t588.length co126)) (fun _ h_ => h_.1))) hb); have n9_ := Aside0.mk (Kd.R_below (by (with_reducible repeat (first | apply Kd.R_alloc | apply Kd.R_drewN | apply Kd.R_drew)); exact (Kd.R_mono (Kd.R_far (p := ⟨gb592, 1, none⟩) (Kd.R_far (p := ⟨gb592, 0, none⟩) (Kd.R_types HO590.out BK592.out (by decide)) (fun _ hk => hk.2) (.slice Ao120 t585.length co120)) (fun _ hk => hk.2) (.slice Ao126 t588.length co126)) (fun _ h_ => h_.1))) hb); have n10_ := Aside0.mk (blk_below (g := gb532) (o := .cells #[.slice A0_0 l0_0.length c0_0, .slice A0_1 l0_1.length c0_1] 27 (0, 0)) (by (with_reducible repeat (first | refine blk_drewN ?_ _ | refine blk_drew ?_ | refine blk_alloc ?_ _)); refine blk_far ?_ NB532_592.out _; (with_reducible repeat (first | refine blk_drewN ?_ _ | refine blk_drew ?_ | refine blk_alloc ?_ _)); refine blk_far ?_ NB532_592.out _; (with_reducible repeat (first | refine blk_drewN ?_ _ | refine blk_drew ?_ | refine blk_alloc ?_ _)); exact BK532.out) hb); have n11_ := Aside0.mk (blk_below (g := gb547) (o := .cells #[.slice Ao24 t540.length co24, .slice Ao27 t543.length co27] 30 (0, 0)) (by (with_reducible repeat (first | refine blk_drewN ?_ _ | refine blk_drew ?_ | refine blk_alloc ?_ _)); refine blk_far ?_ NB547_592.out _; (with_reducible repeat (first | refine blk_drewN ?_ _ | refine blk_drew ?_ | refine blk_alloc ?_ _)); refine blk_far ?_ NB547_592.out _; (with_reducible repeat (first | refine blk_drewN ?_ _ | refine blk_drew ?_ | refine blk_alloc ?_ _)); exact BK547.out) hb); have n12_ := Aside0.mk (blk_below (g := gb554) (o := .cells #[.slice Ao31 t572.length co31, .slice Ao35 t573.length co35] 30 (0, 0)) (by (with_reducible repeat (first | refine blk_drewN ?_ _ | refine blk_drew ?_ | refine blk_alloc ?_ _)); refine blk_far ?_ NB554_592.out _; (with_reducible repeat (first | refine blk_drewN ?_ _ | refine blk_drew ?_ | refine blk_alloc ?_ _)); refine blk_far ?_ NB554_592.out _; (with_reducible repeat (first | refine blk_drewN ?_ _ | refine blk_drew ?_ | refine blk_alloc ?_ _)); exact BK554.out) hb); have n13_ := Aside0.mk (blk_below (g := gb562) (o := .cells #[.slice Ao38 t555.length co38, .slice Ao43 t558.length co43] 30 (0, 0)) (by (with_reducible repeat (first | refine blk_drewN ?_ _ | refine blk_drew ?_ | refine blk_alloc ?_ _)); refine blk_far ?_ NB562_592.out _; (with_reducible repeat (first | refine blk_drewN ?_ _ | refine blk_drew ?_ | refine blk_alloc ?_ _)); refine blk_far ?_ NB562_592.out _; (with_reducible repeat (first | refine blk_drewN ?_ _ | refine blk_drew ?_ | refine blk_alloc ?_ _)); exact BK562.out) hb); have n14_ := Aside0.mk (blk_below (g := gb592) (o := .cells #[.slice Ao120 t585.length co120, .slice Ao126 t588.length co126] 30 (0, 0)) (by (with_reducible repeat (first | refine blk_drewN ?_ _ | refine blk_drew ?_ | refine blk_alloc ?_ _)); refine blk_put (cs := #[.slice Ao120 t585.length co120, .slice none 0 0]) ?_ 1 _ rfl; (with_reducible repeat (first | refine blk_drewN ?_ _ | refine blk_drew ?_ | refine blk_alloc ?_ _)); refine blk_put (cs := #[.slice none 0 0, .slice none 0 0]) ?_ 0 _ rfl; (with_reducible repeat (first | refine blk_drewN ?_ _ | refine blk_drew ?_ | refine blk_alloc ?_ _)); exact BK592.out) hb); have n15_ := Aside0.mk (below_step (by repeat (first | (with_reducible first | exact HB.out | apply below_alloc | apply pw_below_drewN | apply below_drew1 | refine below_set ?_ GE532.out | refine below_set ?_ GE547.out | refine below_set ?_ GE554.out | refine below_set ?_ GE562.out | refine below_set ?_ GE592.out) | exact HB.out)) hb); clear HO_548000; clear HO_548001; clear HO_555000; clear HO_555001; clear HO_563000; clear HO_563001; clear HO581; clear HO584; clear HO587; clear HO590; clear BK532; clear BK547; clear BK554; clear BK562; clear BK592; clear HB; have HO_548000 := n0_; have HO_548001 := n1_; have HO_555000 := n2_; have HO_555001 := n3_; have HO_563000 := n4_; have HO_563001 := n5_; have HO581 := n6_; have HO584 := n7_; have HO587 := n8_; have HO590 := n9_; have BK532 := n10_; have BK547 := n11_; have BK554 := n12_; have BK562 := n13_; have BK592 := n14_; have HB := n15_; clear n0_ n1_ n2_ n3_ n4_ n5_ n6_ n7_ n8_ n9_ n10_ n11_ n12_ n13_ n14_ n15_; (try clear hb); (try clear hb2); (try clear hk); (try clear hi)))
                            go_meet
                            case rel => exact ⟨_, (true), (by first | rfl | (simp; done) | (simp [*]; done)), H', ⟨by have := HJ13.out; have := HJ66.out; first | omega | exact Nat.le_refl _⟩, ⟨by (try simp only [hl555000_66]); (try simp only [hl555001_66]); (with_reducible repeat (first | apply Kd.R_alloc | apply Kd.R_drewN | apply Kd.R_drew)); exact Kd.R_mono HO_548000.out (fun _ hk => ⟨hk.1.1.1.1.1, ⟨hk.1.1.1.1.2.1, ⟨hk.1.1.1.1.2.2.1, ⟨hk.1.1.1.1.2.2.2.1, ⟨hk.1.1.1.1.2.2.2.2, ⟨hk.1.2, hk.2⟩⟩⟩⟩⟩⟩)⟩, ⟨by (try simp only [hl555000_66]); (try simp only [hl555001_66]); (with_reducible repeat (first | apply Kd.R_alloc | apply Kd.R_drewN | apply Kd.R_drew)); exact Kd.R_mono HO_548001.out (fun _ hk => ⟨hk.1.1.1.1.1, ⟨hk.1.1.1.1.2.1, ⟨hk.1.1.1.1.2.2.1, ⟨hk.1.1.1.1.2.2.2.1, ⟨hk.1.1.1.1.2.2.2.2, ⟨hk.1.2, hk.2⟩⟩⟩⟩⟩⟩)⟩, ⟨by (try simp only [hl555000_66]); (try simp only [hl555001_66]); (with_reducible repeat (first | apply Kd.R_alloc | apply Kd.R_drewN | apply Kd.R_drew)); exact Kd.R_mono HO_555000.out (fun _ hk => ⟨hk.1.1.1.1.1, ⟨hk.1.1.1.1.2.1, ⟨hk.1.1.1.1.2.2.1, ⟨hk.1.1.1.1.2.2.2.1, ⟨hk.1.1.1.1.2.2.2.2, ⟨hk.1.2, hk.2⟩⟩⟩⟩⟩⟩)⟩, ⟨by (try simp only [hl555000_66]); (try simp only [hl555001_66]); (with_reducible repeat (first | apply Kd.R_alloc | apply Kd.R_drewN | apply Kd.R_drew)); exact Kd.R_mono HO_555001.out (fun _ hk => ⟨hk.1.1.1.1.1, ⟨hk.1.1.1.1.2.1, ⟨hk.1.1.1.1.2.2.1, ⟨hk.1.1.1.1.2.2.2.1, ⟨hk.1.1.1.1.2.2.2.2, ⟨hk.1.2, hk.2⟩⟩⟩⟩⟩⟩)⟩, ⟨by (try simp only [hl555000_66]); (try simp only [hl555001_66]); (with_reducible repeat (first | apply Kd.R_alloc | apply Kd.R_drewN | apply Kd.R_drew)); exact Kd.R_mono HO_563000.out (fun _ hk => ⟨hk.1.1.1.1.1, ⟨hk.1.1.1.1.2.1, ⟨hk.1.1.1.1.2.2.1, ⟨hk.1.1.1.1.2.2.2.1, ⟨hk.1.1.1.1.2.2.2.2, ⟨hk.1.2, hk.2⟩⟩⟩⟩⟩⟩)⟩, ⟨by (try simp only [hl555000_66]); (try simp only [hl555001_66]); (with_reducible repeat (first | apply Kd.R_alloc | apply Kd.R_drewN | apply Kd.R_drew)); exact Kd.R_mono HO_563001.out (fun _ hk => ⟨hk.1.1.1.1.1, ⟨hk.1.1.1.1.2.1, ⟨hk.1.1.1.1.2.2.1, ⟨hk.1.1.1.1.2.2.2.1, ⟨hk.1.1.1.1.2.2.2.2, ⟨hk.1.2, hk.2⟩⟩⟩⟩⟩⟩)⟩, ⟨by (try simp only [hl555000_66]); (try simp only [hl555001_66]); (with_reducible repeat (first | apply Kd.R_alloc | apply Kd.R_drewN | apply Kd.R_drew)); exact Kd.R_mono HO587.out (fun _ hk => ⟨hk.1.1.1.1.1.1.1.2, ⟨hk.1.1.1.1.1.1.2, ⟨hk.1.1.1.1.1.2, ⟨hk.1.1.1.1.2, ⟨hk.1.1.1.2, ⟨hk.1.1.2, hk.1.1.1.1.1.1.1.1⟩⟩⟩⟩⟩⟩)⟩, ⟨by (try simp only [hl555000_66]); (try simp only [hl555001_66]); (with_reducible repeat (first | apply Kd.R_alloc | apply Kd.R_drewN | apply Kd.R_drew)); exact Kd.R_mono HO590.out (fun _ hk => ⟨hk.1.1.1.1.1.1.1.2, ⟨hk.1.1.1.1.1.1.2, ⟨hk.1.1.1.1.1.2, ⟨hk.1.1.1.1.2, ⟨hk.1.1.1.2, ⟨hk.1.1.2, hk.1.1.1.1.1.1.1.1⟩⟩⟩⟩⟩⟩)⟩, ⟨by (try simp only [hl555000_66]); (try simp only [hl555001_66]); (with_reducible repeat (first | refine blk_drewN ?_ _ | refine blk_drew ?_ | refine blk_alloc ?_ _)); exact BK532.out⟩, ⟨by (try simp only [hl555000_66]); (try simp only [hl555001_66]); (with_reducible repeat (first | refine blk_drewN ?_ _ | refine blk_drew ?_ | refine blk_alloc ?_ _)); exact BK547.out⟩, ⟨by (try simp only [hl555000_66]); (try simp only [hl555001_66]); (with_reducible repeat (first | refine blk_drewN ?_ _ | refine blk_drew ?_ | refine blk_alloc ?_ _)); exact BK554.out⟩, ⟨by (try simp only [hl555000_66]); (try simp only [hl555001_66]); (with_reducible repeat (first | refine blk_drewN ?_ _ | refine blk_drew ?_ | refine blk_alloc ?_ _)); exact BK562.out⟩, ⟨by (try simp only [hl555000_66]); (try simp only [hl555001_66]); (with_reducible repeat (first | refine blk_drewN ?_ _ | refine blk_drew ?_ | refine blk_alloc ?_ _)); exact BK592.out⟩, ⟨by repeat (first | (with_reducible first | exact HB.out | apply below_alloc | apply pw_below_drewN | apply below_drew1 | refine below_set ?_ GE532.out | refine below_set ?_ GE547.out | refine below_set ?_ GE554.out | refine below_set ?_ GE562.out | refine below_set ?_ GE592.out) | exact HB.out)⟩⟩
                        case rest =>
                          clear HC104
                          try clear c1
                          try clear c2
                          try clear p2
                          try clear c3
                          try clear c3b0
                          try clear c3b1
                          try clear c4
                          try clear c5
                          try clear c6
                          try clear c6b0
                          try clear c7
                          try clear c8
                          try clear c9
                          try clear c10
                          try clear c11
                          try clear c12
                          try clear c13
                          try clear c14
                          try clear c17
                          try clear c19
                          try clear c21
                          try clear c25
                          try clear c32
                          try clear c33
                          try clear c34
                          try clear c37
                          try clear c38
                          try clear c39
                          try clear c40
                          try clear c41
                          try clear c45
                          try clear c46
                          try clear c47
                          try clear c48
                          try clear c50
                          try clear c51
                          try clear c54
                          try clear c55
                          try clear c56
                          try clear c58
                          try clear c59
                          try clear c62
                          try clear c65
                          try clear c73
                          try clear c74
                          try clear c75
                          try clear c78
                          try clear c78b0
                          try clear c80
                          try clear c81
                          try clear c82
                          try clear c83
                          try clear c85
                          try clear c86
                          try clear c89
                          try clear c90
                          try clear c91
                          try clear c93
                          try clear c94
                          try clear c97
                          try clear c100
                          try clear c100b0
                          try clear c101
                          try clear c101b0
                          try clear c101b1
                          try clear c105
                          try clear c106
                          try clear c107
                          try clear c112
                          try clear c113
                          try clear c121
                          try clear c122
                          try clear c123
                          try clear c124
                          try clear c128
                          try clear c129
                          try clear c130
                          try clear c131
                          try clear c132
                          try clear c134
                          try clear c135
                          try clear c136
                          try clear c139
                          try clear c140
                          try clear c141
                          try clear c142
                          try clear c144
                          try clear c145
                          try clear c146
                          try clear hcz108_0
                          try clear hcz108_1
                          try clear hcz110_0
                          try clear hcz110_1
                          try clear hcz114_0
                          try clear hcz114_1
                          try clear hcz125_0
                          try clear hcz125_1
                          try clear hcz133_0
                          try clear hcz133_1
                          try clear hcz137_0
                          try clear hcz137_1
                          try clear hcz143_0
                          try clear hcz143_1
                          try clear hcz147_0
                          try clear hcz147_1
                          try clear hcz16_0
                          try clear hcz16_1
                          try clear hcz18_0
                          try clear hcz18_1
                          try clear hcz26_0
                          try clear hcz26_1
                          try clear hcz28_0
                          try clear hcz28_1
                          try clear hcz34_0
                          try clear hcz34_1
                          try clear hcz42_0
                          try clear hcz42_1
                          try clear hcz49_0
                          try clear hcz49_1
                          try clear hcz52_0
                          try clear hcz52_1
                          try clear hcz57_0
                          try clear hcz57_1
                          try clear hcz60_0
                          try clear hcz60_1
                          try clear hcz76_0
                          try clear hcz76_1
                          try clear hcz84_0
                          try clear hcz84_1
                          try clear hcz87_0
                          try clear hcz87_1
                          try clear hcz8_0
                          try clear hcz8_1
                          try clear hcz92_0
                          try clear hcz92_1
                          try clear hcz95_0
                          try clear hcz95_1
                          try clear hfz108_0
                          try clear hfz108_1
                          try clear hfz110_0
                          try clear hfz110_1
                          try clear hfz114_0
                          try clear hfz114_1
                          try clear hfz125_0
                          try clear hfz125_1
                          try clear hfz133_0
                          try clear hfz133_1
                          try clear hfz137_0
                          try clear hfz137_1
                          try clear hfz143_0
                          try clear hfz143_1
                          try clear hfz147_0
                          try clear hfz147_1
                          try clear hfz16_0
                          try clear hfz16_1
                          try clear hfz18_0
                          try clear hfz18_1
                          try clear hfz26_0
                          try clear hfz26_1
                          try clear hfz28_0
                          try clear hfz28_1
                          try clear hfz34_0
                          try clear hfz34_1
                          try clear hfz42_0
                          try clear hfz42_1
                          try clear hfz49_0
                          try clear hfz49_1
                          try clear hfz52_0
                          try clear hfz52_1
                          try clear hfz57_0
                          try clear hfz57_1
                          try clear hfz60_0
                          try clear hfz60_1
                          try clear hfz76_0
                          try clear hfz76_1
                          try clear hfz84_0
                          try clear hfz84_1
                          try clear hfz87_0
                          try clear hfz87_1
                          try clear hfz8_0
                          try clear hfz8_1
                          try clear hfz92_0
                          try clear hfz92_1
                          try clear hfz95_0
                          try clear hfz95_1
                          try clear p2
                          obtain ⟨kq, x95_103, rfl, HA, HJ103, HO_548000, HO_548001, HO_555000, HO_555001, HO_563000, HO_563001, HO_593000, HO_593001, BK532, BK547, BK554, BK562, BK592, HB⟩ := hcut
                          have hl563000_103 := (Kd.R_reads' HO_563000.out).1
                          rw [hl563000_103] at HO_563000
                          (try simp only [hl563000_103])
                          (try simp only [hl563000_103] at BK532)
                          (try simp only [hl563000_103] at BK547)
                          (try simp only [hl563000_103] at BK554)
                          (try simp only [hl563000_103] at BK562)
                          (try simp only [hl563000_103] at BK592)
                          (try simp only [hl563000_103] at HO_548000)
                          (try simp only [hl563000_103] at HO_548001)
                          (try simp only [hl563000_103] at HO_555000)
                          (try simp only [hl563000_103] at HO_555001)
                          (try simp only [hl563000_103] at HO_563001)
                          (try simp only [hl563000_103] at HO_593000)
                          (try simp only [hl563000_103] at HO_593001)
                          have hl563001_103 := (Kd.R_reads' HO_563001.out).1
                          rw [hl563001_103] at HO_563001
                          (try simp only [hl563001_103])
                          (try simp only [hl563001_103] at BK532)
                          (try simp only [hl563001_103] at BK547)
                          (try simp only [hl563001_103] at BK554)
                          (try simp only [hl563001_103] at BK562)
                          (try simp only [hl563001_103] at BK592)
                          (try simp only [hl563001_103] at HO_548000)
                          (try simp only [hl563001_103] at HO_548001)
                          (try simp only [hl563001_103] at HO_555000)
                          (try simp only [hl563001_103] at HO_555001)
                          (try simp only [hl563001_103] at HO_563000)
                          (try simp only [hl563001_103] at HO_593000)
                          (try simp only [hl563001_103] at HO_593001)
                          cases kq with
                          | zero => exact absurd HA.out (by simp [laws_FnExactAppend.j2])
                          | succ kj103 =>
                            have H := HA.out
                            clear HA
                            simp only [laws_FnExactAppend.j2] at H
                            by_cases c149 : x95_103 = true
                            · subst c149
                              have H1 : (none) = some r := by rw [if_pos rfl] at H; exact H
                              clear H
                              have H := H1
                              clear H1
                              exact absurd H (by simp)
                            · replace c149 := Bool.eq_false_iff.mpr c149
                              subst c149
                              have H1 : ((laws_heldLog.f kj103 t576 t577 1).bind fun t594 => (if t594 < 0 then (none) else (if t594 = t575 then (some true) else (none)))) = some r := by rw [if_neg (show ¬ (false = true) by decide)] at H; exact H
                              clear H
                              have H := H1
                              clear H1
                              replace H := Option.bind_eq_some_iff.mp H
                              obtain ⟨t594, A1500, H⟩ := H
                              replace H : (if t594 < 0 then (none) else (if t594 = t575 then (some true) else (none))) = some r := H
                              have A150 := Aside0.mk A1500
                              clear A1500
                              by_cases c151 : t594 < 0
                              · rw [if_pos c151] at H
                                exact absurd H (by simp)
                              · rw [if_neg c151] at H
                                have c151b0 : decide (t594 < 0) = false := decide_eq_false c151
                                clear c151
                                by_cases c152 : t594 = t575
                                · rw [if_pos c152] at H
                                  have c152b0 : (t594 == t575) = true := beq_iff_eq.mpr c152
                                  have c152b1 : (t594 != t575) = false := bne_eq_false_iff_eq.mpr c152
                                  clear c152
                                  obtain rfl := Option.some.inj H
                                  have hnb153 := NB562_532.out
                                  have hnc153 := NB532_562.out
                                  have hnb154 := NB562_547.out
                                  have hnc154 := NB547_562.out
                                  have hnb155 := NB562_554.out
                                  have hnc155 := NB554_562.out
                                  have hnb156 := NB562_592.out
                                  have hnc156 := NB592_562.out
                                  have hcz157_0 : wc.cell? ⟨gb562, 0, none⟩ = some (.slice Ao38 t576.length co38) := (blk_cell BK562.out 0).trans rfl
                                  have hcz157_1 : wc.cell? ⟨gb562, 1, none⟩ = some (.slice Ao43 t577.length co43) := (blk_cell BK562.out 1).trans rfl
                                  have hfz157_0 := blk_frozen BK562.out 0
                                  have hfz157_1 := blk_frozen BK562.out 1
                                  go_wp2_with (first | ((with_reducible refine gate_callee (f := 34) rfl ?_); refine goesL_ (some 98) rfl rfl Try.func34 (by kernel_rfl) rfl #[.agg #[.slice Ao38 t576.length co38, .slice Ao43 t577.length co43], .int .i64 1] rfl (by (try simp only [List.map_toArray, List.map_cons, List.map_nil]); first | done | rfl | (simp only [List.length_drop, List.length_take]; rfl)) ?_; (with_reducible refine (laws_heldLog.calls kj103 _ _ t576 _ _ t577 1 t594 _ ?side1 ?side2 ?side3 ?side4 A150.out).mono ?_); (case side1 => repeat (first | exact (Kd.R_reads' HO_563000.out).2.2 | (with_reducible refine Kd.C_alloc ?_ _) | (with_reducible refine Kd.C_drewN ?_ _) | (with_reducible refine Kd.C_drew ?_))); (case side2 => exact (Kd.R_reads' HO_563000.out).2.1); (case side3 => repeat (first | exact (Kd.R_reads' HO_563001.out).2.2 | (with_reducible refine Kd.C_alloc ?_ _) | (with_reducible refine Kd.C_drewN ?_ _) | (with_reducible refine Kd.C_drew ?_))); (case side4 => exact (Kd.R_reads' HO_563001.out).2.1); rintro e w158 ⟨rfl, hb⟩; refine ⟨_, rfl, ?_⟩; have n0_ := Aside0.mk (Kd.R_below (by (with_reducible repeat (first | apply Kd.R_alloc | apply Kd.R_drewN | apply Kd.R_drew)); exact HO_548000.out) hb); have n1_ := Aside0.mk (Kd.R_below (by (with_reducible repeat (first | apply Kd.R_alloc | apply Kd.R_drewN | apply Kd.R_drew)); exact HO_548001.out) hb); have n2_ := Aside0.mk (Kd.R_below (by (with_reducible repeat (first | apply Kd.R_alloc | apply Kd.R_drewN | apply Kd.R_drew)); exact HO_555000.out) hb); have n3_ := Aside0.mk (Kd.R_below (by (with_reducible repeat (first | apply Kd.R_alloc | apply Kd.R_drewN | apply Kd.R_drew)); exact HO_555001.out) hb); have n4_ := Aside0.mk (Kd.R_below (by (with_reducible repeat (first | apply Kd.R_alloc | apply Kd.R_drewN | apply Kd.R_drew)); exact HO_563000.out) hb); have n5_ := Aside0.mk (Kd.R_below (by (with_reducible repeat (first | apply Kd.R_alloc | apply Kd.R_drewN | apply Kd.R_drew)); exact HO_563001.out) hb); have n6_ := Aside0.mk (Kd.R_below (by (with_reducible repeat (first | apply Kd.R_alloc | apply Kd.R_drewN | apply Kd.R_drew)); exact HO_593000.out) hb); have n7_ := Aside0.mk (Kd.R_below (by (with_reducible repeat (first | apply Kd.R_alloc | apply Kd.R_drewN | apply Kd.R_drew)); exact HO_593001.out) hb); have n8_ := Aside0.mk (blk_below (g := gb532) (o := .cells #[.slice A0_0 l0_0.length c0_0, .slice A0_1 l0_1.length c0_1] 27 (0, 0)) (by (with_reducible repeat (first | refine blk_drewN ?_ _ | refine blk_drew ?_ | refine blk_alloc ?_ _)); exact BK532.out) hb); have n9_ := Aside0.mk (blk_below (g := gb547) (o := .cells #[.slice Ao24 t540.length co24, .slice Ao27 t543.length co27] 30 (0, 0)) (by (with_reducible repeat (first | refine blk_drewN ?_ _ | refine blk_drew ?_ | refine blk_alloc ?_ _)); exact BK547.out) hb); have n10_ := Aside0.mk (blk_below (g := gb554) (o := .cells #[.slice Ao31 t572.length co31, .slice Ao35 t573.length co35] 30 (0, 0)) (by (with_reducible repeat (first | refine blk_drewN ?_ _ | refine blk_drew ?_ | refine blk_alloc ?_ _)); exact BK554.out) hb); have n11_ := Aside0.mk (blk_below (g := gb562) (o := .cells #[.slice Ao38 t576.length co38, .slice Ao43 t577.length co43] 30 (0, 0)) (by (with_reducible repeat (first | refine blk_drewN ?_ _ | refine blk_drew ?_ | refine blk_alloc ?_ _)); exact BK562.out) hb); have n12_ := Aside0.mk (blk_below (g := gb592) (o := .cells #[.slice Ao120 t585.length co120, .slice Ao126 t588.length co126] 30 (0, 0)) (by (with_reducible repeat (first | refine blk_drewN ?_ _ | refine blk_drew ?_ | refine blk_alloc ?_ _)); exact BK592.out) hb); have n13_ := Aside0.mk (below_step (by repeat (first | (with_reducible first | exact HB.out | apply below_alloc | apply pw_below_drewN | apply below_drew1 | refine below_set ?_ GE532.out | refine below_set ?_ GE547.out | refine below_set ?_ GE554.out | refine below_set ?_ GE562.out | refine below_set ?_ GE592.out) | exact HB.out)) hb); clear HO_548000; clear HO_548001; clear HO_555000; clear HO_555001; clear HO_563000; clear HO_563001; clear HO_593000; clear HO_593001; clear BK532; clear BK547; clear BK554; clear BK562; clear BK592; clear HB; have HO_548000 := n0_; have HO_548001 := n1_; have HO_555000 := n2_; have HO_555001 := n3_; have HO_563000 := n4_; have HO_563001 := n5_; have HO_593000 := n6_; have HO_593001 := n7_; have BK532 := n8_; have BK547 := n9_; have BK554 := n10_; have BK562 := n11_; have BK592 := n12_; have HB := n13_; clear n0_ n1_ n2_ n3_ n4_ n5_ n6_ n7_ n8_ n9_ n10_ n11_ n12_ n13_; (try clear hb); (try clear hb2); (try clear hk); (try clear hi)))
                                  go_ret
                                  exact ⟨by first | rfl | (simp [errW_none, errW_some] <;> rfl) | (simp [*, errW_none, errW_some] <;> rfl), by repeat (first | (with_reducible first | exact HB.out | apply below_alloc | apply pw_below_drewN | apply below_drew1 | refine below_set ?_ GE532.out | refine below_set ?_ GE547.out | refine below_set ?_ GE554.out | refine below_set ?_ GE562.out | refine below_set ?_ GE592.out) | exact HB.out)⟩
                                · rw [if_neg c152] at H
                                  exact absurd H (by simp)
                      · rw [if_neg c101] at H
                        exact absurd H (by simp)
            · replace c65 := Bool.eq_false_iff.mpr c65
              subst c65
              have H1 : (none) = some r := by rw [if_neg (show ¬ (false = true) by decide)] at H; exact H
              clear H
              have H := H1
              clear H1
              exact absurd H (by simp)

end Go.Proofs.Ytpnblgbkjbpeoaa.P

/- What an argument holds, told by its kind: whatever can be read as data at a type (numbers, texts, slices, structs in one another) is read by the kind of that type, and the room it takes is bounded. -/
namespace Go.Proofs.Ytpnblgbkjbpeoaa.Q
open Go.ChangeShapes Go.WideShapes Go.ChangeAt Go.RowKit Go.Proofs.YtpnblgbkjbpeoaaW.PrintWords
set_option linter.unusedVariables false

structure Rd (P : Program) (t : TypeId) {α : Type} (d : Kd α) (Z : α → List Nat) : Prop where
  out : ∀ {H : Type} {enc : TypeId × Value → H} {w : World} {base : Nat} {sp : Nat → Bool} {held : Bool} {fuel : Nat} {cs : List Value} {y : DataW H × List MemPlace},
    DataW.trod enc P w base sp held fuel t cs = some y → ∃ x, d.K w x cs ∧ ∀ n ∈ Z x, 0 < n → ∃ m ∈ y.1.weights P t, n ≤ m
theorem Rd.int {P : Program} {t : TypeId} {k : IntKind} (ht : P.underlying t = some (.int k)) : Rd P t (Kd.int k) (fun _ => []) := ⟨fun h => by
  obtain ⟨n, rfl, rfl, _⟩ := DataW.trod_int ht h
  exact ⟨n, rfl, fun n hn => by cases hn⟩⟩
theorem Rd.bool {P : Program} {t : TypeId} (ht : P.underlying t = some .bool) : Rd P t Kd.bool (fun _ => []) := ⟨fun h => by
  obtain ⟨n, rfl, rfl⟩ := DataW.trod_bool ht h
  exact ⟨n, rfl, fun n hn => by cases hn⟩⟩
theorem Rd.string {P : Program} {t : TypeId} (ht : P.underlying t = some .string) : Rd P t Kd.string (fun s => [s.size]) := ⟨fun h => by
  obtain ⟨s, rfl, rfl, _⟩ := DataW.trod_string ht h
  refine ⟨s, rfl, fun n hn _ => ⟨s.size, ?_, by rw [List.mem_singleton.1 hn]; exact Nat.le_refl _⟩⟩
  simp [DataW.weights]⟩
theorem weightsAll_mem {H : Type} {P : Program} {e : TypeId} : ∀ {l : List (DataW H)} {d : DataW H}, d ∈ l → ∀ {n : Nat}, n ∈ d.weights P e → n ∈ DataW.weightsAll P e l
  | x :: l, d, hd, n, hn => by
    simp only [DataW.weightsAll, List.mem_append]
    rcases List.mem_cons.1 hd with rfl | hd
    · exact .inl hn
    · exact .inr (weightsAll_mem hd hn)
  | [], _, hd, _, _ => by cases hd
theorem exists_list {α : Type} (n : Nat) (p : Nat → α → Prop) (h : ∀ i, i < n → ∃ x, p i x) : ∃ l : List α, l.length = n ∧ ∀ i x, l[i]? = some x → p i x := by
  induction n with
  | zero => exact ⟨[], rfl, fun i x hx => by simp at hx⟩
  | succ n ih =>
    obtain ⟨l, hl, hp⟩ := ih (fun i hi => h i (by omega))
    obtain ⟨x, hx⟩ := h n (by omega)
    refine ⟨l ++ [x], by simp [hl], fun i y hy => ?_⟩
    by_cases hi : i < n
    · rw [List.getElem?_append_left (by omega)] at hy; exact hp i y hy
    · rw [List.getElem?_append_right (by omega)] at hy
      have e : i - l.length = 0 := by
        rcases Nat.eq_zero_or_pos (i - l.length) with h0 | h0
        · exact h0
        · rw [List.getElem?_eq_none (by simp; omega)] at hy; cases hy
      rw [e] at hy
      simp at hy
      obtain rfl : i = n := by omega
      rw [← hy]; exact hx
theorem Deep_add (a : Addr) (i j : Nat) : (a.add i).add j = a.add (i + j) := by unfold Addr.add; split <;> split <;> simp_all [Nat.add_assoc]
theorem cells_at {w : World} {base : Nat} {a : Addr} {n : Nat} {cs : List Value} (h : w.cells? base a n = some cs) : cs.length = n ∧ ∀ i u, cs[i]? = some u → w.cell? (a.add i) = some u := by
  obtain ⟨_, hl, hc⟩ := World.cells?_some h
  refine ⟨hl, fun i u hu => ?_⟩
  have hi : i < cs.length := (List.getElem?_eq_some_iff.1 hu).1
  have := hc i (by omega)
  rw [this, hu]
theorem Rd.slice {P : Program} {t e : TypeId} {α : Type} {d : Kd α} {Z : α → List Nat} (ht : P.underlying t = some (.slice e)) (hC : P.cellsOf e = d.sz) (hd : Rd P e d Z) :
    Rd P t (Kd.slice e d) (fun xs => xs.length * P.bytesOf e :: xs.flatMap Z) := ⟨fun {H enc w base sp held fuel cs y} h => by
  rcases Deep.open_slice ht h with ⟨rfl, rfl⟩ | ⟨a, len, cap, m, n, D, Pl, rfl, hb, hl, hm, hmm, rfl, hi⟩
  · refine ⟨[], ⟨none, 0, rfl, Nat.le_refl _, Kd.C_nil _ _⟩, fun n hn hp => ?_⟩
    simp at hn
    omega
  · have hlm : len ≤ m := by rw [hmm]; split <;> omega
    obtain ⟨xs, hxl, hx⟩ := exists_list len (fun i x => ∃ cs', w.cells? base (a.add (i * P.cellsOf e)) (P.cellsOf e) = some cs' ∧ d.K w x cs' ∧ ∀ n ∈ Z x, 0 < n → ∃ m ∈ (D i).weights P e, n ≤ m) (fun i hilt => by
      obtain ⟨cs', hc, ht'⟩ := hi i (by omega)
      obtain ⟨x, hk, hz⟩ := hd.out ht'
      exact ⟨x, cs', hc, hk, hz⟩)
    subst hxl
    refine ⟨xs, ⟨some a, cap, rfl, hl, rfl, ?_, fun _ => ⟨a, rfl, fun j p hj => ?_⟩⟩, fun n hn hp => ?_⟩
    · unfold maxLen at hm; omega
    · obtain ⟨cs', hc, hk, _⟩ := hx j p hj
      obtain ⟨hl', hcell⟩ := cells_at hc
      refine ⟨cs', by rw [hl', hC], hk, fun i u hu => ?_⟩
      have hh := hcell i u hu
      rw [hC, Deep_add] at hh
      exact hh
    · simp only [List.mem_cons, List.mem_flatMap] at hn
      rcases hn with rfl | ⟨x, hxm, hn⟩
      · refine ⟨(((List.range xs.length).map D).length + ((List.range (m - xs.length)).map fun j => D (xs.length + j)).length) * P.bytesOf e, ?_, ?_⟩
        · simp [DataW.weights, ht]
        · apply Nat.mul_le_mul_right; simp
      · obtain ⟨i, hilt, hix⟩ := List.getElem_of_mem hxm
        obtain ⟨_, _, _, hz⟩ := hx i x (by rw [List.getElem?_eq_getElem hilt, hix])
        obtain ⟨k, hk, hnk⟩ := hz n hn hp
        refine ⟨k, ?_, hnk⟩
        simp only [DataW.weights, ht, List.mem_cons, List.mem_append]
        exact .inr (.inl (weightsAll_mem (List.mem_map.2 ⟨i, by simpa using hilt, rfl⟩) hk))⟩
structure RdL (P : Program) {α : Type} (fs : List Field) (off : Nat) (d : Kd α) (Z : α → List Nat) : Prop where
  out : ∀ {H : Type} {enc : TypeId × Value → H} {w : World} {base : Nat} {sp : Nat → Bool} {held : Bool} {n : Nat} {cs : List Value} {xs : List (DataW H × List MemPlace)},
    cs.length = off + d.sz → xs.length = fs.length → (∀ (i : Nat) (f : Field), fs[i]? = some f → DataW.trod enc P w base sp held n f.type ((cs.drop f.offset).take (P.cellsOf f.type)) = xs[i]?) →
    ∃ x, d.K w x (cs.drop off) ∧ ∀ n ∈ Z x, 0 < n → ∃ m ∈ DataW.weightsEach P (fs.map (·.type)) (xs.map (·.1)), n ≤ m
theorem RdL.one {P : Program} {α : Type} {f : Field} {off : Nat} {d : Kd α} {Z : α → List Nat} (hd : Rd P f.type d Z) (ho : f.offset = off) (hc : P.cellsOf f.type = d.sz) : RdL P [f] off d Z := by
  constructor
  intro H enc w base sp held n cs xs hl hx hf
  match xs, hx with
  | [y], _ =>
    have := hf 0 f rfl
    rw [ho, hc, List.take_of_length_le (by simp; omega)] at this
    obtain ⟨x, hk, hz⟩ := hd.out this
    refine ⟨x, hk, fun n hn hp => ?_⟩
    obtain ⟨m, hm, h⟩ := hz n hn hp
    exact ⟨m, by simp [DataW.weightsEach, hm], h⟩
theorem RdL.cons {P : Program} {α β : Type} {f : Field} {fs : List Field} {off : Nat} {a : Kd α} {b : Kd β} {Za : α → List Nat} {Zb : β → List Nat} (hd : Rd P f.type a Za) (ho : f.offset = off) (hc : P.cellsOf f.type = a.sz) (hr : RdL P fs (off + a.sz) b Zb) :
    RdL P (f :: fs) off (Kd.pair a b) (fun x => Za x.1 ++ Zb x.2) := by
  constructor
  intro H enc w base sp held n cs xs hl hx hf
  match xs, hx with
  | y :: ys, hx =>
    have h0 := hf 0 f rfl
    rw [ho, hc] at h0
    obtain ⟨x, hk, hz⟩ := hd.out h0
    have hl2 : cs.length = (off + a.sz) + b.sz := by have : (Kd.pair a b).sz = a.sz + b.sz := rfl; omega
    obtain ⟨x2, hk2, hz2⟩ := hr.out hl2 (by simpa using hx) (fun i g hg => by simpa using hf (i + 1) g (by simpa using hg))
    refine ⟨(x, x2), ⟨(cs.drop off).take a.sz, (cs.drop off).drop a.sz, (List.take_append_drop _ _).symm, hk, by rw [List.drop_drop]; exact hk2⟩, fun n hn hp => ?_⟩
    simp only [DataW.weightsEach, List.map_cons]
    rcases List.mem_append.1 hn with hn | hn
    · obtain ⟨m, hm, h⟩ := hz n hn hp; exact ⟨m, List.mem_append_left _ hm, h⟩
    · obtain ⟨m, hm, h⟩ := hz2 n hn hp; exact ⟨m, List.mem_append_right _ hm, h⟩
theorem Rd.struct {P : Program} {t : TypeId} {α : Type} {fs : Array Field} {d : Kd α} {Z : α → List Nat} (ht : P.underlying t = some (.struct fs)) (hC : P.cellsOf t = d.sz) (h : RdL P fs.toList 0 d Z) : Rd P t d Z := ⟨fun hh => by
  obtain ⟨xs, n, _, rfl, hl, hlen, hf⟩ := DataW.trod_struct ht hh
  obtain ⟨x, hk, hz⟩ := h.out (by rw [hl, hC]; omega) (by simpa using hlen) (fun i f hi => hf i f (by simpa using hi))
  refine ⟨x, by simpa using hk, fun n hn hp => ?_⟩
  obtain ⟨m, hm, h⟩ := hz n hn hp
  exact ⟨m, by simpa [DataW.weights, ht] using hm, h⟩⟩
theorem Rd.iso {P : Program} {t : TypeId} {α β : Type} {d : Kd α} {Z : α → List Nat} (h : Rd P t d Z) (f : β → α) (g : α → β) (fg : ∀ a, f (g a) = a) : Rd P t (Kd.iso d f) (fun x => Z (f x)) := ⟨fun hh => by
  obtain ⟨x, hk, hz⟩ := h.out hh
  exact ⟨g x, by show d.K _ (f (g x)) _; rw [fg]; exact hk, by rw [fg]; exact hz⟩⟩
theorem sized_rd {H : Type} {P : Program} {ts : List TypeId} {ds : List (DataW H)} {Zx : List Nat} (h : (DataW.weightsEach P ts ds).all (· ≤ reachBytes) = true) {j : Nat} {t : TypeId} {d : DataW H} (ht : ts[j]? = some t) (hd : ds[j]? = some d)
    (hz : ∀ n ∈ Zx, 0 < n → ∃ m ∈ d.weights P t, n ≤ m) : ∀ n ∈ Zx, n ≤ 140737488351232 := fun n hn => by
  rcases Nat.eq_zero_or_pos n with h0 | h0
  · omega
  · obtain ⟨m, hm, hnm⟩ := hz n hn h0
    have := List.all_eq_true.1 h _ (DataW.weights_mem_each ht hd m hm)
    have h2 : m ≤ reachBytes := by simpa using this
    unfold reachBytes at h2
    omega
/-- A list of texts whose room is bounded. -/
theorem zS_le {P : Program} {e : TypeId} {l : List ByteArray} (hb : 0 < P.bytesOf e) (h : ∀ n ∈ (l.length * P.bytesOf e :: l.flatMap fun s : ByteArray => [s.size]), n ≤ 140737488351232) : l.length ≤ 140737488351232 ∧ ∀ s ∈ l, s.size ≤ 140737488351232 :=
  ⟨Nat.le_trans (Nat.le_mul_of_pos_right _ hb) (h _ List.mem_cons_self), fun s hs => h _ (List.mem_cons_of_mem _ (List.mem_flatMap.2 ⟨s, hs, by simp⟩))⟩
end Go.Proofs.Ytpnblgbkjbpeoaa.Q

/- Plain laws of the helpers that the exact laws share: sizes, copies, equality, marks of lists of texts. No memory in sight. -/
namespace Go.Proofs.Ytpnblgbkjbpeoaa.Q
open Go.RowKit Go.Proofs.Ytpnblgbkjbpeoaa.P Go.Proofs.YtpnblgbkjbpeoaaW.PrintWords Go.Proofs.YtpnblgbkjbpeoaaW.PrintLast Go.Proofs.YtpnblgbkjbpeoaaW.PrintMore
set_option linter.unusedVariables false

theorem wsucc {i n : Nat} (h : i < n) (hn : n ≤ 140737488351232) : wrap64 ((i : Int) + 1) = ((i + 1 : Nat) : Int) := by
  unfold wrap64; omega
theorem rd_drop {α : Type} (d : α) (l : List α) (i : Nat) (h : i < l.length) : l.drop i = rdOf d l (i : Int) :: l.drop (i + 1) := by
  rw [List.drop_eq_getElem_cons h]; simp [rdOf, List.getD_eq_getElem?_getD, List.getElem?_eq_getElem h]
theorem rd_get {α : Type} (d : α) (l : List α) (i : Nat) (h : i < l.length) : rdOf d l (i : Int) = l[i] := by
  simp [rdOf, List.getD_eq_getElem?_getD, List.getElem?_eq_getElem h]

/-! ### toStringS: a copy -/
theorem toS_loop (l : List ByteArray) (hl : l.length ≤ 140737488351232) (n : Nat) : ∀ (i : Nat) (x : List ByteArray), l.length - i = n → i ≤ l.length → x.length = l.length →
    Ev (fun k => laws_toStringS.l0 k l x (i : Int)) (x.take i ++ l.drop i) := by
  induction n with
  | zero =>
    intro i x hn hi hx
    have e : i = l.length := by omega
    subst e
    refine Ev.step (f := fun _ => some x) (fun k => ?_) ?_
    · simp only [laws_toStringS.l0]; rw [if_neg (by omega)]
    · rw [List.drop_length, List.append_nil, List.take_of_length_le (by omega)]; exact Ev.now _
  | succ n ih =>
    intro i x hn hi hx
    have hlt : i < l.length := by omega
    have := ih (i + 1) (x.set i (rdOf ByteArray.empty l (i : Int))) (by omega) (by omega) (by simp [hx])
    have e : (x.set i (rdOf ByteArray.empty l (i : Int))).take (i + 1) ++ l.drop (i + 1) = x.take i ++ l.drop i := by
      rw [rd_drop ByteArray.empty l i hlt, List.take_add_one]
      have h1 : (x.set i (rdOf ByteArray.empty l (i : Int))).take i = x.take i := by rw [List.take_set_of_le (by omega)]
      rw [h1, List.getElem?_set_self (by omega)]; simp
    rw [e] at this
    refine Ev.step (f := fun k => laws_toStringS.l0 k l (x.set i (rdOf ByteArray.empty l (i : Int))) ((i + 1 : Nat) : Int)) (fun k => ?_) this
    simp only [laws_toStringS.l0]
    rw [if_pos (by omega), if_pos (by omega), if_pos (by omega), wsucc hlt hl, Int.toNat_natCast]
theorem toS_ev (l : List ByteArray) (hl : l.length ≤ 8796093022207) : Ev (fun k => laws_toStringS.f k l) l := by
  have := toS_loop l (by omega) (l.length - 0) 0 (List.replicate l.length (⟨#[]⟩ : ByteArray)) rfl (by omega) (by simp)
  simp only [List.take_zero, List.drop_zero, List.nil_append] at this
  refine Ev.congr (fun k => ?_) this
  unfold laws_toStringS.f
  rw [if_pos (by omega), if_pos (by omega)]; rfl

/-! ### eqStringS: a list equals itself -/
theorem eqS_loop (l : List ByteArray) (hl : l.length ≤ 140737488351232) (n : Nat) : ∀ (i : Nat), l.length - i = n → i ≤ l.length → Ev (fun k => laws_eqStringS.l0 k l l (i : Int)) true := by
  induction n with
  | zero =>
    intro i hn hi
    refine Ev.step (f := fun _ => some true) (fun k => ?_) (Ev.now _)
    simp only [laws_eqStringS.l0]; rw [if_neg (by omega)]
  | succ n ih =>
    intro i hn hi
    have hlt : i < l.length := by omega
    refine Ev.step (f := fun k => laws_eqStringS.l0 k l l ((i + 1 : Nat) : Int)) (fun k => ?_) (ih (i + 1) (by omega) (by omega))
    simp only [laws_eqStringS.l0]
    rw [if_pos (by omega), if_pos (by omega), if_pos (by omega), if_pos trivial, wsucc hlt hl]
theorem eqS_ev (l : List ByteArray) (hl : l.length ≤ 140737488351232) : Ev (fun k => laws_eqStringS.f k l l) true := by
  refine Ev.congr (fun k => ?_) (eqS_loop l hl (l.length - 0) 0 rfl (by omega))
  unfold laws_eqStringS.f
  rw [if_pos rfl]; rfl

/-! ### szStringS: what is left of a bound -/
def szL : List ByteArray → Int → Int
  | [], a => a
  | x :: l, a => if a - (x.size : Int) < 0 then -1 else szL l (a - (x.size : Int))
theorem szL_le (l : List ByteArray) : ∀ a : Int, 0 ≤ szL l a → szL l a ≤ a ∧ ∀ x ∈ l, (x.size : Int) ≤ a := by
  induction l with
  | nil => intro a h; exact ⟨Int.le_refl _, fun x hx => by cases hx⟩
  | cons y l ih =>
    intro a h
    unfold szL at h ⊢
    split at h
    · omega
    · rename_i hc
      rw [if_neg hc]
      have := ih _ h
      refine ⟨by omega, fun x hx => ?_⟩
      rcases List.mem_cons.1 hx with rfl | hx
      · omega
      · have := this.2 x hx; omega
theorem szL_lo (l : List ByteArray) : ∀ a : Int, -1 ≤ a → -1 ≤ szL l a := by
  induction l with
  | nil => intro a h; exact h
  | cons y l ih =>
    intro a h
    unfold szL
    split
    · omega
    · exact ih _ (by omega)
theorem szS_loop (l : List ByteArray) (hl : l.length ≤ 140737488351232) (hs : ∀ x ∈ l, x.size ≤ 140737488351232) (n : Nat) : ∀ (i : Nat) (a : Int), l.length - i = n → i ≤ l.length → 0 ≤ a → a ≤ 1048576 →
    Ev (fun k => laws_szStringS.l0 k l a (i : Int)) (szL (l.drop i) a) := by
  induction n with
  | zero =>
    intro i a hn hi h0 h1
    rw [List.drop_of_length_le (by omega)]
    refine Ev.step (f := fun _ => some a) (fun k => ?_) (Ev.now _)
    simp only [laws_szStringS.l0]; rw [if_neg (by omega)]
  | succ n ih =>
    intro i a hn hi h0 h1
    have hlt : i < l.length := by omega
    have hx : (rdOf ByteArray.empty l (i : Int)).size ≤ 140737488351232 := by rw [rd_get _ _ _ hlt]; exact hs _ (List.getElem_mem hlt)
    rw [rd_drop ByteArray.empty l i hlt]
    unfold szL
    have hw : wrap64 (a - ((rdOf ByteArray.empty l (i : Int)).size : Int)) = a - ((rdOf ByteArray.empty l (i : Int)).size : Int) := by unfold wrap64; omega
    by_cases hc : a - ((rdOf ByteArray.empty l (i : Int)).size : Int) < 0
    · rw [if_pos hc]
      refine Ev.step (f := fun _ => some (-1)) (fun k => ?_) (Ev.now _)
      simp only [laws_szStringS.l0]; rw [if_pos (by omega), if_pos (by omega), hw, if_pos hc]
    · rw [if_neg hc]
      refine Ev.step (f := fun k => laws_szStringS.l0 k l (a - ((rdOf ByteArray.empty l (i : Int)).size : Int)) ((i + 1 : Nat) : Int)) (fun k => ?_) (ih (i + 1) _ (by omega) (by omega) (by omega) (by omega))
      simp only [laws_szStringS.l0]; rw [if_pos (by omega), if_pos (by omega), hw, if_neg hc, wsucc hlt hl]
def szS (l : List ByteArray) (a : Int) : Int := if a - (l.length : Int) < 0 then -1 else szL l (a - (l.length : Int))
theorem szS_ev (l : List ByteArray) (hl : l.length ≤ 140737488351232) (hs : ∀ x ∈ l, x.size ≤ 140737488351232) (a : Int) (h0 : 0 ≤ a) (h1 : a ≤ 1048576) : Ev (fun k => laws_szStringS.f k l a) (szS l a) := by
  have hw : wrap64 (a - (l.length : Int)) = a - (l.length : Int) := by unfold wrap64; omega
  unfold szS
  by_cases hc : a - (l.length : Int) < 0
  · rw [if_pos hc]
    refine Ev.congr (fun k => ?_) (Ev.now _)
    unfold laws_szStringS.f; rw [hw, if_pos hc]
  · rw [if_neg hc]
    refine Ev.congr (fun k => ?_) (szS_loop l hl hs (l.length - 0) 0 (a - (l.length : Int)) rfl (by omega) (by omega) (by omega))
    unfold laws_szStringS.f; rw [hw, if_neg hc]; rfl
theorem szS_le {l : List ByteArray} {a : Int} (h : 0 ≤ szS l a) : szS l a ≤ a ∧ (l.length : Int) ≤ a ∧ ∀ x ∈ l, (x.size : Int) ≤ a := by
  unfold szS at h ⊢
  split at h
  · omega
  · rename_i hc
    rw [if_neg hc]
    have := szL_le l _ h
    exact ⟨by omega, by omega, fun x hx => by have := this.2 x hx; omega⟩
theorem szS_lo (l : List ByteArray) (a : Int) : -1 ≤ szS l a := by
  unfold szS
  split
  · omega
  · exact szL_lo _ _ (by omega)
end Go.Proofs.Ytpnblgbkjbpeoaa.Q
