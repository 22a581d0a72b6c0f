/- Part 4 of the proof of FnExactReadEntrySaid: what it leans on. -/
import Derived.Test.YtpnblgbkjbpeoaaM1
import Derived.Test.YtpnblgbkjbpeoaaM2
import Derived.Test.YtpnblgbkjbpeoaaM3

namespace Go.Proofs.Ytpnblgbkjbpeoaa.P
open Go.RowKit Go.Proofs.YtpnblgbkjbpeoaaW.PrintWords Go.Proofs.YtpnblgbkjbpeoaaW.PrintLast Go.Proofs.YtpnblgbkjbpeoaaW.PrintMore
attribute [local go_sem] max2_int min2_int max_two min_two max_three min_three max_four min_four   -- for this text's walks alone
set_option linter.unusedVariables false
set_option linter.unusedSimpArgs false

/-! ### impl_entryOk: function 75 -/
mutual
def impl_entryOk.j0 : Nat → Int → Bool → Int → ByteArray → ByteArray → Int → ByteArray → List ByteArray → Option (Bool)
  | 0, _, _, _, _, _, _, _, _ => none
  | k + 1, x1, x19, x785000, x785001, x785002, x785003, x785004, x785005 => if x19 = true then (some false) else ((impl_usesSum.f x785000).bind fun t786 => (if t786 = true then (if (x785001.size : Int) = x1 then ((impl_usesSum.f x785000).bind fun t787 => (if t787 = true then (impl_entryOk.j1 k x1 false x785000 x785001 x785002 x785003 x785004 x785005) else (impl_entryOk.j1 k x1 (x785001.toList != ([] : List UInt8)) x785000 x785001 x785002 x785003 x785004 x785005))) else (impl_entryOk.j1 k x1 true x785000 x785001 x785002 x785003 x785004 x785005)) else ((impl_usesSum.f x785000).bind fun t788 => (if t788 = true then (impl_entryOk.j1 k x1 false x785000 x785001 x785002 x785003 x785004 x785005) else (impl_entryOk.j1 k x1 (x785001.toList != ([] : List UInt8)) x785000 x785001 x785002 x785003 x785004 x785005)))))
def impl_entryOk.j1 : Nat → Int → Bool → Int → ByteArray → ByteArray → Int → ByteArray → List ByteArray → Option (Bool)
  | 0, _, _, _, _, _, _, _, _ => none
  | k + 1, x1, x40, x785000, x785001, x785002, x785003, x785004, x785005 => if x40 = true then (some false) else ((impl_usesName.f x785000).bind fun t789 => (if t789 = true then ((impl_nameOk.f k x785002).bind fun t790 => (if t790 = true then ((impl_usesName.f x785000).bind fun t791 => (if t791 = true then (impl_entryOk.j2 k x1 false x785000 x785001 x785002 x785003 x785004 x785005) else (impl_entryOk.j2 k x1 (x785002.toList != ([] : List UInt8)) x785000 x785001 x785002 x785003 x785004 x785005))) else (impl_entryOk.j2 k x1 true x785000 x785001 x785002 x785003 x785004 x785005))) else ((impl_usesName.f x785000).bind fun t792 => (if t792 = true then (impl_entryOk.j2 k x1 false x785000 x785001 x785002 x785003 x785004 x785005) else (impl_entryOk.j2 k x1 (x785002.toList != ([] : List UInt8)) x785000 x785001 x785002 x785003 x785004 x785005)))))
def impl_entryOk.j2 : Nat → Int → Bool → Int → ByteArray → ByteArray → Int → ByteArray → List ByteArray → Option (Bool)
  | 0, _, _, _, _, _, _, _, _ => none
  | k + 1, x1, x60, x785000, x785001, x785002, x785003, x785004, x785005 => if x60 = true then (some false) else (if x785000 = 1 then (impl_entryOk.j3 k x1 0 0 x785000 (x785000 == 1) x785000 x785001 x785002 x785003 x785004 x785005) else (if x785000 = 4 then (impl_entryOk.j3 k x1 0 0 x785000 (x785000 == 4) x785000 x785001 x785002 x785003 x785004 x785005) else (impl_entryOk.j3 k x1 0 0 x785000 (x785000 == 6) x785000 x785001 x785002 x785003 x785004 x785005)))
def impl_entryOk.j4 : Nat → Int → Int → Int → Int → ByteArray → ByteArray → Int → ByteArray → List ByteArray → Option (Bool)
  | 0, _, _, _, _, _, _, _, _, _ => none
  | k + 1, x1, x5, x6, x785000, x785001, x785002, x785003, x785004, x785005 => if x785003 < x5 then (impl_entryOk.j5 k x1 true x785000 x785001 x785002 x785003 x785004 x785005) else (impl_entryOk.j5 k x1 (decide (x785003 > x6)) x785000 x785001 x785002 x785003 x785004 x785005)
def impl_entryOk.j5 : Nat → Int → Bool → Int → ByteArray → ByteArray → Int → ByteArray → List ByteArray → Option (Bool)
  | 0, _, _, _, _, _, _, _, _ => none
  | k + 1, x1, x78, x785000, x785001, x785002, x785003, x785004, x785005 => if x78 = true then (some false) else (if x785000 = 1 then ((impl_thingOk.f k x785004 x785005 x1).bind fun t793 => (some t793)) else (if x785004.toList = ([] : List UInt8) then (some ((x785005.length : Int) == 0)) else (some false)))
def impl_entryOk.j3 : Nat → Int → Int → Int → Int → Bool → Int → ByteArray → ByteArray → Int → ByteArray → List ByteArray → Option (Bool)
  | 0, _, _, _, _, _, _, _, _, _, _, _ => none
  | k + 1, x1, x5, x6, x62, x63, x785000, x785001, x785002, x785003, x785004, x785005 => if x63 = true then (impl_entryOk.j4 k x1 1 100000 x785000 x785001 x785002 x785003 x785004 x785005) else (if x62 = 5 then (impl_entryOk.j4 k x1 1 1000000000 x785000 x785001 x785002 x785003 x785004 x785005) else (impl_entryOk.j4 k x1 x5 x6 x785000 x785001 x785002 x785003 x785004 x785005))
end
def impl_entryOk.f (k : Nat) (a0_0 : Int) (a0_1 : ByteArray) (a0_2 : ByteArray) (a0_3 : Int) (a0_4 : ByteArray) (l0_5 : List ByteArray) (a1 : Int) : Option (Bool) := if a0_0 < 1 then (impl_entryOk.j0 k a1 true a0_0 a0_1 a0_2 a0_3 a0_4 l0_5) else (if a0_0 > 7 then (impl_entryOk.j0 k a1 true a0_0 a0_1 a0_2 a0_3 a0_4 l0_5) else ((impl_widthOk.f a1).bind fun t785 => (impl_entryOk.j0 k a1 (!t785) a0_0 a0_1 a0_2 a0_3 a0_4 l0_5)))
theorem impl_entryOk.mono_l : ∀ k, (∀ y0 y1 y2 y3 y4 y5 y6 y7, LeO (impl_entryOk.j0 k y0 y1 y2 y3 y4 y5 y6 y7) (impl_entryOk.j0 (k + 1) y0 y1 y2 y3 y4 y5 y6 y7)) ∧ (∀ y0 y1 y2 y3 y4 y5 y6 y7, LeO (impl_entryOk.j1 k y0 y1 y2 y3 y4 y5 y6 y7) (impl_entryOk.j1 (k + 1) y0 y1 y2 y3 y4 y5 y6 y7)) ∧ (∀ y0 y1 y2 y3 y4 y5 y6 y7, LeO (impl_entryOk.j2 k y0 y1 y2 y3 y4 y5 y6 y7) (impl_entryOk.j2 (k + 1) y0 y1 y2 y3 y4 y5 y6 y7)) ∧ (∀ y0 y1 y2 y3 y4 y5 y6 y7 y8, LeO (impl_entryOk.j4 k y0 y1 y2 y3 y4 y5 y6 y7 y8) (impl_entryOk.j4 (k + 1) y0 y1 y2 y3 y4 y5 y6 y7 y8)) ∧ (∀ y0 y1 y2 y3 y4 y5 y6 y7, LeO (impl_entryOk.j5 k y0 y1 y2 y3 y4 y5 y6 y7) (impl_entryOk.j5 (k + 1) y0 y1 y2 y3 y4 y5 y6 y7)) ∧ (∀ y0 y1 y2 y3 y4 y5 y6 y7 y8 y9 y10, LeO (impl_entryOk.j3 k y0 y1 y2 y3 y4 y5 y6 y7 y8 y9 y10) (impl_entryOk.j3 (k + 1) y0 y1 y2 y3 y4 y5 y6 y7 y8 y9 y10))
  | 0 => ⟨fun _ _ _ _ _ _ _ _ r h => by simp [impl_entryOk.j0] at h, fun _ _ _ _ _ _ _ _ r h => by simp [impl_entryOk.j1] at h, fun _ _ _ _ _ _ _ _ r h => by simp [impl_entryOk.j2] at h, fun _ _ _ _ _ _ _ _ _ r h => by simp [impl_entryOk.j4] at h, fun _ _ _ _ _ _ _ _ r h => by simp [impl_entryOk.j5] at h, fun _ _ _ _ _ _ _ _ _ _ _ r h => by simp [impl_entryOk.j3] at h⟩
  | k + 1 => by
    obtain ⟨ih0, ih1, ih2, ih3, ih4, ih5⟩ := impl_entryOk.mono_l k
    refine ⟨?_, ?_, ?_, ?_, ?_, ?_⟩
    · intro y0 y1 y2 y3 y4 y5 y6 y7
      unfold impl_entryOk.j0
      repeat' first
      | (with_reducible exact ih0 _ _ _ _ _ _ _ _)
      | (with_reducible exact ih1 _ _ _ _ _ _ _ _)
      | (with_reducible exact ih2 _ _ _ _ _ _ _ _)
      | (with_reducible exact ih3 _ _ _ _ _ _ _ _ _)
      | (with_reducible exact ih4 _ _ _ _ _ _ _ _)
      | (with_reducible exact ih5 _ _ _ _ _ _ _ _ _ _ _)
      | (with_reducible exact impl_nameOk.mono _ _)
      | (with_reducible exact impl_thingOk.mono _ _ _ _)
      | (with_reducible exact LeO.refl _)
      | (with_reducible exact LeO.none _)
      | (with_reducible refine LeO.ite ?_ ?_)
      | (with_reducible refine LeO.bind ?_ (fun _ => ?_))
      | exact ih0 _ _ _ _ _ _ _ _
      | exact ih1 _ _ _ _ _ _ _ _
      | exact ih2 _ _ _ _ _ _ _ _
      | exact ih3 _ _ _ _ _ _ _ _ _
      | exact ih4 _ _ _ _ _ _ _ _
      | exact ih5 _ _ _ _ _ _ _ _ _ _ _
      | exact impl_nameOk.mono _ _
      | exact impl_thingOk.mono _ _ _ _
      | exact LeO.none _
      | refine LeO.ite ?_ ?_
      | refine LeO.bind ?_ (fun _ => ?_)
    · intro y0 y1 y2 y3 y4 y5 y6 y7
      unfold impl_entryOk.j1
      repeat' first
      | (with_reducible exact ih0 _ _ _ _ _ _ _ _)
      | (with_reducible exact ih1 _ _ _ _ _ _ _ _)
      | (with_reducible exact ih2 _ _ _ _ _ _ _ _)
      | (with_reducible exact ih3 _ _ _ _ _ _ _ _ _)
      | (with_reducible exact ih4 _ _ _ _ _ _ _ _)
      | (with_reducible exact ih5 _ _ _ _ _ _ _ _ _ _ _)
      | (with_reducible exact impl_nameOk.mono _ _)
      | (with_reducible exact impl_thingOk.mono _ _ _ _)
      | (with_reducible exact LeO.refl _)
      | (with_reducible exact LeO.none _)
      | (with_reducible refine LeO.ite ?_ ?_)
      | (with_reducible refine LeO.bind ?_ (fun _ => ?_))
      | exact ih0 _ _ _ _ _ _ _ _
      | exact ih1 _ _ _ _ _ _ _ _
      | exact ih2 _ _ _ _ _ _ _ _
      | exact ih3 _ _ _ _ _ _ _ _ _
      | exact ih4 _ _ _ _ _ _ _ _
      | exact ih5 _ _ _ _ _ _ _ _ _ _ _
      | exact impl_nameOk.mono _ _
      | exact impl_thingOk.mono _ _ _ _
      | exact LeO.none _
      | refine LeO.ite ?_ ?_
      | refine LeO.bind ?_ (fun _ => ?_)
    · intro y0 y1 y2 y3 y4 y5 y6 y7
      unfold impl_entryOk.j2
      repeat' first
      | (with_reducible exact ih0 _ _ _ _ _ _ _ _)
      | (with_reducible exact ih1 _ _ _ _ _ _ _ _)
      | (with_reducible exact ih2 _ _ _ _ _ _ _ _)
      | (with_reducible exact ih3 _ _ _ _ _ _ _ _ _)
      | (with_reducible exact ih4 _ _ _ _ _ _ _ _)
      | (with_reducible exact ih5 _ _ _ _ _ _ _ _ _ _ _)
      | (with_reducible exact impl_nameOk.mono _ _)
      | (with_reducible exact impl_thingOk.mono _ _ _ _)
      | (with_reducible exact LeO.refl _)
      | (with_reducible exact LeO.none _)
      | (with_reducible refine LeO.ite ?_ ?_)
      | (with_reducible refine LeO.bind ?_ (fun _ => ?_))
      | exact ih0 _ _ _ _ _ _ _ _
      | exact ih1 _ _ _ _ _ _ _ _
      | exact ih2 _ _ _ _ _ _ _ _
      | exact ih3 _ _ _ _ _ _ _ _ _
      | exact ih4 _ _ _ _ _ _ _ _
      | exact ih5 _ _ _ _ _ _ _ _ _ _ _
      | exact impl_nameOk.mono _ _
      | exact impl_thingOk.mono _ _ _ _
      | exact LeO.none _
      | refine LeO.ite ?_ ?_
      | refine LeO.bind ?_ (fun _ => ?_)
    · intro y0 y1 y2 y3 y4 y5 y6 y7 y8
      unfold impl_entryOk.j4
      repeat' first
      | (with_reducible exact ih0 _ _ _ _ _ _ _ _)
      | (with_reducible exact ih1 _ _ _ _ _ _ _ _)
      | (with_reducible exact ih2 _ _ _ _ _ _ _ _)
      | (with_reducible exact ih3 _ _ _ _ _ _ _ _ _)
      | (with_reducible exact ih4 _ _ _ _ _ _ _ _)
      | (with_reducible exact ih5 _ _ _ _ _ _ _ _ _ _ _)
      | (with_reducible exact impl_nameOk.mono _ _)
      | (with_reducible exact impl_thingOk.mono _ _ _ _)
      | (with_reducible exact LeO.refl _)
      | (with_reducible exact LeO.none _)
      | (with_reducible refine LeO.ite ?_ ?_)
      | (with_reducible refine LeO.bind ?_ (fun _ => ?_))
      | exact ih0 _ _ _ _ _ _ _ _
      | exact ih1 _ _ _ _ _ _ _ _
      | exact ih2 _ _ _ _ _ _ _ _
      | exact ih3 _ _ _ _ _ _ _ _ _
      | exact ih4 _ _ _ _ _ _ _ _
      | exact ih5 _ _ _ _ _ _ _ _ _ _ _
      | exact impl_nameOk.mono _ _
      | exact impl_thingOk.mono _ _ _ _
      | exact LeO.none _
      | refine LeO.ite ?_ ?_
      | refine LeO.bind ?_ (fun _ => ?_)
    · intro y0 y1 y2 y3 y4 y5 y6 y7
      unfold impl_entryOk.j5
      repeat' first
      | (with_reducible exact ih0 _ _ _ _ _ _ _ _)
      | (with_reducible exact ih1 _ _ _ _ _ _ _ _)
      | (with_reducible exact ih2 _ _ _ _ _ _ _ _)
      | (with_reducible exact ih3 _ _ _ _ _ _ _ _ _)
      | (with_reducible exact ih4 _ _ _ _ _ _ _ _)
      | (with_reducible exact ih5 _ _ _ _ _ _ _ _ _ _ _)
      | (with_reducible exact impl_nameOk.mono _ _)
      | (with_reducible exact impl_thingOk.mono _ _ _ _)
      | (with_reducible exact LeO.refl _)
      | (with_reducible exact LeO.none _)
      | (with_reducible refine LeO.ite ?_ ?_)
      | (with_reducible refine LeO.bind ?_ (fun _ => ?_))
      | exact ih0 _ _ _ _ _ _ _ _
      | exact ih1 _ _ _ _ _ _ _ _
      | exact ih2 _ _ _ _ _ _ _ _
      | exact ih3 _ _ _ _ _ _ _ _ _
      | exact ih4 _ _ _ _ _ _ _ _
      | exact ih5 _ _ _ _ _ _ _ _ _ _ _
      | exact impl_nameOk.mono _ _
      | exact impl_thingOk.mono _ _ _ _
      | exact LeO.none _
      | refine LeO.ite ?_ ?_
      | refine LeO.bind ?_ (fun _ => ?_)
    · intro y0 y1 y2 y3 y4 y5 y6 y7 y8 y9 y10
      unfold impl_entryOk.j3
      repeat' first
      | (with_reducible exact ih0 _ _ _ _ _ _ _ _)
      | (with_reducible exact ih1 _ _ _ _ _ _ _ _)
      | (with_reducible exact ih2 _ _ _ _ _ _ _ _)
      | (with_reducible exact ih3 _ _ _ _ _ _ _ _ _)
      | (with_reducible exact ih4 _ _ _ _ _ _ _ _)
      | (with_reducible exact ih5 _ _ _ _ _ _ _ _ _ _ _)
      | (with_reducible exact impl_nameOk.mono _ _)
      | (with_reducible exact impl_thingOk.mono _ _ _ _)
      | (with_reducible exact LeO.refl _)
      | (with_reducible exact LeO.none _)
      | (with_reducible refine LeO.ite ?_ ?_)
      | (with_reducible refine LeO.bind ?_ (fun _ => ?_))
      | exact ih0 _ _ _ _ _ _ _ _
      | exact ih1 _ _ _ _ _ _ _ _
      | exact ih2 _ _ _ _ _ _ _ _
      | exact ih3 _ _ _ _ _ _ _ _ _
      | exact ih4 _ _ _ _ _ _ _ _
      | exact ih5 _ _ _ _ _ _ _ _ _ _ _
      | exact impl_nameOk.mono _ _
      | exact impl_thingOk.mono _ _ _ _
      | exact LeO.none _
      | refine LeO.ite ?_ ?_
      | refine LeO.bind ?_ (fun _ => ?_)
theorem impl_entryOk.mono : ∀ a0 a1 a2 a3 a4 a5 a6 k, LeO (impl_entryOk.f k a0 a1 a2 a3 a4 a5 a6) (impl_entryOk.f (k + 1) a0 a1 a2 a3 a4 a5 a6) := by
  intro a0 a1 a2 a3 a4 a5 a6 k
  obtain ⟨ih0, ih1, ih2, ih3, ih4, ih5⟩ := impl_entryOk.mono_l k
  unfold impl_entryOk.f
  repeat' first
      | (with_reducible exact ih0 _ _ _ _ _ _ _ _)
      | (with_reducible exact ih1 _ _ _ _ _ _ _ _)
      | (with_reducible exact ih2 _ _ _ _ _ _ _ _)
      | (with_reducible exact ih3 _ _ _ _ _ _ _ _ _)
      | (with_reducible exact ih4 _ _ _ _ _ _ _ _)
      | (with_reducible exact ih5 _ _ _ _ _ _ _ _ _ _ _)
      | (with_reducible exact impl_nameOk.mono _ _)
      | (with_reducible exact impl_thingOk.mono _ _ _ _)
      | (with_reducible exact LeO.refl _)
      | (with_reducible exact LeO.none _)
      | (with_reducible refine LeO.ite ?_ ?_)
      | (with_reducible refine LeO.bind ?_ (fun _ => ?_))
      | exact ih0 _ _ _ _ _ _ _ _
      | exact ih1 _ _ _ _ _ _ _ _
      | exact ih2 _ _ _ _ _ _ _ _
      | exact ih3 _ _ _ _ _ _ _ _ _
      | exact ih4 _ _ _ _ _ _ _ _
      | exact ih5 _ _ _ _ _ _ _ _ _ _ _
      | exact impl_nameOk.mono _ _
      | exact impl_thingOk.mono _ _ _ _
      | exact LeO.none _
      | refine LeO.ite ?_ ?_
      | refine LeO.bind ?_ (fun _ => ?_)
set_option maxHeartbeats 8000000 in
set_option maxRecDepth 100000 in
theorem impl_entryOk.calls (k : Nat) (a0_0 : Int) (a0_1 : ByteArray) (a0_2 : ByteArray) (a0_3 : Int) (a0_4 : ByteArray) (A0_5 : Option Addr) (c0_5 : Nat) (l0_5 : List ByteArray) (a1 : Int) (r : Bool) (w : World) (hr0_5 : Kd.C Kd.string w A0_5 l0_5.length l0_5) (hc0_5 : l0_5.length ≤ c0_5) (h : impl_entryOk.f k a0_0 a0_1 a0_2 a0_3 a0_4 l0_5 a1 = some r) :
    Calls Try.prog 75 #[.agg #[.int .i64 a0_0, .string a0_1, .string a0_2, .int .i64 a0_3, .string a0_4, .slice A0_5 l0_5.length c0_5], .int .i64 a1] w fun e w' => e = .returned (.bool r) ∧ Below w.heap.size w w' := by
  have hu63 := Try.underlying63
  have hu38 := Try.underlying38
  have HR0_5 := Aside0.mk hr0_5
  have HC0_5 := Aside0.mk hc0_5
  clear hr0_5 hc0_5
  have HB := Aside0.mk (Below.refl w.heap.size w)
  have H : (if a0_0 < 1 then (impl_entryOk.j0 k a1 true a0_0 a0_1 a0_2 a0_3 a0_4 l0_5) else (if a0_0 > 7 then (impl_entryOk.j0 k a1 true a0_0 a0_1 a0_2 a0_3 a0_4 l0_5) else ((impl_widthOk.f a1).bind fun t785 => (impl_entryOk.j0 k a1 (!t785) a0_0 a0_1 a0_2 a0_3 a0_4 l0_5)))) = some r := h
  clear h
  have HC3 := Aside0.mk H
  clear H
  go_enter Try.func75, Try.ntmps75
  go_upto_region 1 with (first | ((with_reducible refine gate_dst (N := 2) rfl ?_); (try (refine gate_guard (by rfl) ?_; dsimp only)); refine box_event ?hg (N := 2) ?hd (cs := #[.int .i64 a0_0, .string a0_1, .string a0_2, .int .i64 a0_3, .string a0_4, .slice A0_5 l0_5.length c0_5]) (t := 63) ?hr ?_; (case hd => rfl); (case hg => rfl); (case hr => first | (go_simp; done) | (go_simp; rfl)); intro gb784 hg w4 hbox hb; have n0_ := Aside0.mk (below_step (by repeat (first | (with_reducible first | exact HB.out | apply below_alloc | apply pw_below_drewN | apply below_drew1) | exact HB.out)) hb); have n1_ := Aside0.mk (hbox); have n2_ := Aside0.mk ((by rw [hg]; exact (below_size (by repeat (first | (with_reducible first | exact HB.out | apply below_alloc | apply pw_below_drewN | apply below_drew1) | exact HB.out))) : w.heap.size ≤ gb784)); have n3_ := Aside0.mk ((by rw [hg]; exact (below_size (by repeat (first | (with_reducible first | exact HB.out | apply below_alloc | apply pw_below_drewN | apply below_drew1) | exact HB.out))) : w.heap.size ≤ gb784)); clear HB; have HB := n0_; have BK784 := n1_; have GW784 := n2_; have GE784 := n3_; clear n0_ n1_ n2_ n3_; clear hb hbox hg))
  (try simp only [Act.put, List.setIfInBounds_toArray, List.set_cons_zero, List.set_cons_succ])
  go_cut [19] (fun v19 wc => ∃ (kq : Nat) (x19_2 : Bool), v19 = .bool x19_2 ∧ Aside0 (impl_entryOk.j0 kq a1 x19_2 a0_0 a0_1 a0_2 a0_3 a0_4 l0_5 = some r) ∧ Aside0 (kq ≤ k) ∧ Aside0 (wc.heap[gb784]? = some (.cells #[.int .i64 a0_0, .string a0_1, .string a0_2, .int .i64 a0_3, .string a0_4, (.slice A0_5 l0_5.length c0_5)] 63 (0, 0))) ∧ Aside0 (Below w.heap.size w wc))
  case first =>
    have H := HC3.out
    clear HC3
    by_cases c5 : a0_0 < 1
    · rw [if_pos c5] at H
      have c5b0 : decide (a0_0 < 1) = true := decide_eq_true c5
      clear c5
      (first | rw [c5b0] | (simp only [i64_w, i32_w]; rw [c5b0]) | skip)
      have H' := Aside0.mk H
      clear H
      have hcz6_0 : w4.cell? ⟨gb784, 0, none⟩ = some (.int .i64 a0_0) := (blk_cell BK784.out 0).trans rfl
      have hcz6_1 : w4.cell? ⟨gb784, 1, none⟩ = some (.string a0_1) := (blk_cell BK784.out 1).trans rfl
      have hcz6_2 : w4.cell? ⟨gb784, 2, none⟩ = some (.string a0_2) := (blk_cell BK784.out 2).trans rfl
      have hcz6_3 : w4.cell? ⟨gb784, 3, none⟩ = some (.int .i64 a0_3) := (blk_cell BK784.out 3).trans rfl
      have hcz6_4 : w4.cell? ⟨gb784, 4, none⟩ = some (.string a0_4) := (blk_cell BK784.out 4).trans rfl
      have hcz6_5 : w4.cell? ⟨gb784, 5, none⟩ = some (.slice A0_5 l0_5.length c0_5) := (blk_cell BK784.out 5).trans rfl
      have hfz6_0 := blk_frozen BK784.out 0
      have hfz6_1 := blk_frozen BK784.out 1
      have hfz6_2 := blk_frozen BK784.out 2
      have hfz6_3 := blk_frozen BK784.out 3
      have hfz6_4 := blk_frozen BK784.out 4
      have hfz6_5 := blk_frozen BK784.out 5
      go_wp2
      go_meet
      case rel => exact ⟨_, (true), (by first | rfl | (simp; done) | (simp [*]; done) | (simp; exact nil_isE _) | (simp; exact (nil_isE _).symm)), H', ⟨by first | omega | exact Nat.le_refl _⟩, ⟨by (with_reducible repeat (first | refine blk_drewN ?_ _ | refine blk_drew ?_ | refine blk_alloc ?_ _)); exact BK784.out⟩, ⟨by repeat (first | (with_reducible first | exact HB.out | apply below_alloc | apply pw_below_drewN | apply below_drew1 | refine below_set ?_ GE784.out) | exact HB.out)⟩⟩
    · rw [if_neg c5] at H
      have c5b0 : decide (a0_0 < 1) = false := decide_eq_false c5
      clear c5
      (first | rw [c5b0] | (simp only [i64_w, i32_w]; rw [c5b0]) | skip)
      by_cases c7 : a0_0 > 7
      · rw [if_pos c7] at H
        have c7b0 : decide (7 < a0_0) = true := decide_eq_true c7
        clear c7
        have H' := Aside0.mk H
        clear H
        have hcz8_0 : w4.cell? ⟨gb784, 0, none⟩ = some (.int .i64 a0_0) := (blk_cell BK784.out 0).trans rfl
        have hcz8_1 : w4.cell? ⟨gb784, 1, none⟩ = some (.string a0_1) := (blk_cell BK784.out 1).trans rfl
        have hcz8_2 : w4.cell? ⟨gb784, 2, none⟩ = some (.string a0_2) := (blk_cell BK784.out 2).trans rfl
        have hcz8_3 : w4.cell? ⟨gb784, 3, none⟩ = some (.int .i64 a0_3) := (blk_cell BK784.out 3).trans rfl
        have hcz8_4 : w4.cell? ⟨gb784, 4, none⟩ = some (.string a0_4) := (blk_cell BK784.out 4).trans rfl
        have hcz8_5 : w4.cell? ⟨gb784, 5, none⟩ = some (.slice A0_5 l0_5.length c0_5) := (blk_cell BK784.out 5).trans rfl
        have hfz8_0 := blk_frozen BK784.out 0
        have hfz8_1 := blk_frozen BK784.out 1
        have hfz8_2 := blk_frozen BK784.out 2
        have hfz8_3 := blk_frozen BK784.out 3
        have hfz8_4 := blk_frozen BK784.out 4
        have hfz8_5 := blk_frozen BK784.out 5
        go_wp2
        go_meet
        case rel => exact ⟨_, (true), (by first | rfl | (simp; done) | (simp [*]; done) | (simp; exact nil_isE _) | (simp; exact (nil_isE _).symm)), H', ⟨by first | omega | exact Nat.le_refl _⟩, ⟨by (with_reducible repeat (first | refine blk_drewN ?_ _ | refine blk_drew ?_ | refine blk_alloc ?_ _)); exact BK784.out⟩, ⟨by repeat (first | (with_reducible first | exact HB.out | apply below_alloc | apply pw_below_drewN | apply below_drew1 | refine below_set ?_ GE784.out) | exact HB.out)⟩⟩
      · rw [if_neg c7] at H
        have c7b0 : decide (7 < a0_0) = false := decide_eq_false c7
        clear c7
        replace H := Option.bind_eq_some_iff.mp H
        obtain ⟨t785, A90, H⟩ := H
        replace H : (impl_entryOk.j0 k a1 (!t785) a0_0 a0_1 a0_2 a0_3 a0_4 l0_5) = some r := H
        have A9 := Aside0.mk A90
        clear A90
        have H' := Aside0.mk H
        clear H
        have hcz10_0 : w4.cell? ⟨gb784, 0, none⟩ = some (.int .i64 a0_0) := (blk_cell BK784.out 0).trans rfl
        have hcz10_1 : w4.cell? ⟨gb784, 1, none⟩ = some (.string a0_1) := (blk_cell BK784.out 1).trans rfl
        have hcz10_2 : w4.cell? ⟨gb784, 2, none⟩ = some (.string a0_2) := (blk_cell BK784.out 2).trans rfl
        have hcz10_3 : w4.cell? ⟨gb784, 3, none⟩ = some (.int .i64 a0_3) := (blk_cell BK784.out 3).trans rfl
        have hcz10_4 : w4.cell? ⟨gb784, 4, none⟩ = some (.string a0_4) := (blk_cell BK784.out 4).trans rfl
        have hcz10_5 : w4.cell? ⟨gb784, 5, none⟩ = some (.slice A0_5 l0_5.length c0_5) := (blk_cell BK784.out 5).trans rfl
        have hfz10_0 := blk_frozen BK784.out 0
        have hfz10_1 := blk_frozen BK784.out 1
        have hfz10_2 := blk_frozen BK784.out 2
        have hfz10_3 := blk_frozen BK784.out 3
        have hfz10_4 := blk_frozen BK784.out 4
        have hfz10_5 := blk_frozen BK784.out 5
        go_wp2_with (first | (go_at_call 57; (with_reducible refine (impl_widthOk.calls a1 t785 _ A9.out).mono ?_); rintro e w' ⟨rfl, ⟨nd, rfl⟩⟩))
        go_meet
        case rel => exact ⟨_, (!t785), (by first | rfl | (simp; done) | (simp [*]; done) | (simp; exact nil_isE _) | (simp; exact (nil_isE _).symm)), H', ⟨by first | omega | exact Nat.le_refl _⟩, ⟨by (with_reducible repeat (first | refine blk_drewN ?_ _ | refine blk_drew ?_ | refine blk_alloc ?_ _)); exact BK784.out⟩, ⟨by repeat (first | (with_reducible first | exact HB.out | apply below_alloc | apply pw_below_drewN | apply below_drew1 | refine below_set ?_ GE784.out) | exact HB.out)⟩⟩
  case rest =>
    clear HC3
    try clear p2
    try clear c5
    try clear c5b0
    try clear c7
    try clear c7b0
    try clear hcz10_0
    try clear hcz10_1
    try clear hcz10_2
    try clear hcz10_3
    try clear hcz10_4
    try clear hcz10_5
    try clear hcz6_0
    try clear hcz6_1
    try clear hcz6_2
    try clear hcz6_3
    try clear hcz6_4
    try clear hcz6_5
    try clear hcz8_0
    try clear hcz8_1
    try clear hcz8_2
    try clear hcz8_3
    try clear hcz8_4
    try clear hcz8_5
    try clear hfz10_0
    try clear hfz10_1
    try clear hfz10_2
    try clear hfz10_3
    try clear hfz10_4
    try clear hfz10_5
    try clear hfz6_0
    try clear hfz6_1
    try clear hfz6_2
    try clear hfz6_3
    try clear hfz6_4
    try clear hfz6_5
    try clear hfz8_0
    try clear hfz8_1
    try clear hfz8_2
    try clear hfz8_3
    try clear hfz8_4
    try clear hfz8_5
    obtain ⟨kq, x19_2, rfl, HA, HJ2, BK784, HB⟩ := hcut
    cases kq with
    | zero => exact absurd HA.out (by simp [impl_entryOk.j0])
    | succ kj2 =>
      have H := HA.out
      clear HA
      simp only [impl_entryOk.j0] at H
      by_cases c11 : x19_2 = true
      · subst c11
        have H1 : (some false) = some r := by rw [if_pos rfl] at H; exact H
        clear H
        have H := H1
        clear H1
        obtain rfl := Option.some.inj H
        go_wp2
        go_ret
        exact ⟨by first | rfl | (simp [errW_none, errW_some] <;> rfl) | (simp [*, errW_none, errW_some] <;> rfl), by repeat (first | (with_reducible first | exact HB.out | apply below_alloc | apply pw_below_drewN | apply below_drew1 | refine below_set ?_ GE784.out) | exact HB.out)⟩
      · replace c11 := Bool.eq_false_iff.mpr c11
        subst c11
        have H1 : ((impl_usesSum.f a0_0).bind fun t786 => (if t786 = true then (if (a0_1.size : Int) = a1 then ((impl_usesSum.f a0_0).bind fun t787 => (if t787 = true then (impl_entryOk.j1 kj2 a1 false a0_0 a0_1 a0_2 a0_3 a0_4 l0_5) else (impl_entryOk.j1 kj2 a1 (a0_1.toList != ([] : List UInt8)) a0_0 a0_1 a0_2 a0_3 a0_4 l0_5))) else (impl_entryOk.j1 kj2 a1 true a0_0 a0_1 a0_2 a0_3 a0_4 l0_5)) else ((impl_usesSum.f a0_0).bind fun t788 => (if t788 = true then (impl_entryOk.j1 kj2 a1 false a0_0 a0_1 a0_2 a0_3 a0_4 l0_5) else (impl_entryOk.j1 kj2 a1 (a0_1.toList != ([] : List UInt8)) a0_0 a0_1 a0_2 a0_3 a0_4 l0_5))))) = some r := by rw [if_neg (show ¬ (false = true) by decide)] at H; exact H
        clear H
        have H := H1
        clear H1
        have HC12 := Aside0.mk H
        clear H
        go_upto_region 3 with (fail)
        go_cut [40] (fun v40 wc => ∃ (kq : Nat) (x40_11 : Bool), v40 = .bool x40_11 ∧ Aside0 (impl_entryOk.j1 kq a1 x40_11 a0_0 a0_1 a0_2 a0_3 a0_4 l0_5 = some r) ∧ Aside0 (kq ≤ kj2) ∧ Aside0 (wc.heap[gb784]? = some (.cells #[.int .i64 a0_0, .string a0_1, .string a0_2, .int .i64 a0_3, .string a0_4, (.slice A0_5 l0_5.length c0_5)] 63 (0, 0))) ∧ Aside0 (Below w.heap.size w wc))
        case first =>
          have H := HC12.out
          clear HC12
          replace H := Option.bind_eq_some_iff.mp H
          obtain ⟨t786, A130, H⟩ := H
          replace H : (if t786 = true then (if (a0_1.size : Int) = a1 then ((impl_usesSum.f a0_0).bind fun t787 => (if t787 = true then (impl_entryOk.j1 kj2 a1 false a0_0 a0_1 a0_2 a0_3 a0_4 l0_5) else (impl_entryOk.j1 kj2 a1 (a0_1.toList != ([] : List UInt8)) a0_0 a0_1 a0_2 a0_3 a0_4 l0_5))) else (impl_entryOk.j1 kj2 a1 true a0_0 a0_1 a0_2 a0_3 a0_4 l0_5)) else ((impl_usesSum.f a0_0).bind fun t788 => (if t788 = true then (impl_entryOk.j1 kj2 a1 false a0_0 a0_1 a0_2 a0_3 a0_4 l0_5) else (impl_entryOk.j1 kj2 a1 (a0_1.toList != ([] : List UInt8)) a0_0 a0_1 a0_2 a0_3 a0_4 l0_5)))) = some r := H
          have A13 := Aside0.mk A130
          clear A130
          by_cases c14 : t786 = true
          · subst c14
            have H1 : (if (a0_1.size : Int) = a1 then ((impl_usesSum.f a0_0).bind fun t787 => (if t787 = true then (impl_entryOk.j1 kj2 a1 false a0_0 a0_1 a0_2 a0_3 a0_4 l0_5) else (impl_entryOk.j1 kj2 a1 (a0_1.toList != ([] : List UInt8)) a0_0 a0_1 a0_2 a0_3 a0_4 l0_5))) else (impl_entryOk.j1 kj2 a1 true a0_0 a0_1 a0_2 a0_3 a0_4 l0_5)) = some r := by rw [if_pos rfl] at H; exact H
            clear H
            have H := H1
            clear H1
            by_cases c15 : (a0_1.size : Int) = a1
            · rw [if_pos c15] at H
              have c15b0 : ((a0_1.size : Int) == a1) = true := beq_iff_eq.mpr c15
              have c15b1 : ((a0_1.size : Int) != a1) = false := bne_eq_false_iff_eq.mpr c15
              clear c15
              (first | rw [c15b0] | (simp only [i64_w, i32_w]; rw [c15b0]) | skip)
              replace H := Option.bind_eq_some_iff.mp H
              obtain ⟨t787, A160, H⟩ := H
              replace H : (if t787 = true then (impl_entryOk.j1 kj2 a1 false a0_0 a0_1 a0_2 a0_3 a0_4 l0_5) else (impl_entryOk.j1 kj2 a1 (a0_1.toList != ([] : List UInt8)) a0_0 a0_1 a0_2 a0_3 a0_4 l0_5)) = some r := H
              have A16 := Aside0.mk A160
              clear A160
              by_cases c17 : t787 = true
              · subst c17
                have H1 : (impl_entryOk.j1 kj2 a1 false a0_0 a0_1 a0_2 a0_3 a0_4 l0_5) = some r := by rw [if_pos rfl] at H; exact H
                clear H
                have H := H1
                clear H1
                have H' := Aside0.mk H
                clear H
                have hcz18_0 : wc.cell? ⟨gb784, 0, none⟩ = some (.int .i64 a0_0) := (blk_cell BK784.out 0).trans rfl
                have hcz18_1 : wc.cell? ⟨gb784, 1, none⟩ = some (.string a0_1) := (blk_cell BK784.out 1).trans rfl
                have hcz18_2 : wc.cell? ⟨gb784, 2, none⟩ = some (.string a0_2) := (blk_cell BK784.out 2).trans rfl
                have hcz18_3 : wc.cell? ⟨gb784, 3, none⟩ = some (.int .i64 a0_3) := (blk_cell BK784.out 3).trans rfl
                have hcz18_4 : wc.cell? ⟨gb784, 4, none⟩ = some (.string a0_4) := (blk_cell BK784.out 4).trans rfl
                have hcz18_5 : wc.cell? ⟨gb784, 5, none⟩ = some (.slice A0_5 l0_5.length c0_5) := (blk_cell BK784.out 5).trans rfl
                have hfz18_0 := blk_frozen BK784.out 0
                have hfz18_1 := blk_frozen BK784.out 1
                have hfz18_2 := blk_frozen BK784.out 2
                have hfz18_3 := blk_frozen BK784.out 3
                have hfz18_4 := blk_frozen BK784.out 4
                have hfz18_5 := blk_frozen BK784.out 5
                go_wp2_with (first | ((with_reducible refine gate_callee (f := 88) rfl ?_); refine goesL_ (some 22) rfl rfl Try.func88 (by kernel_rfl) rfl #[.int .i64 a0_0] rfl (by (try simp only [List.map_toArray, List.map_cons, List.map_nil]); first | done | rfl | (simp only [List.length_drop, List.length_take]; rfl)) ?_; (with_reducible refine (impl_usesSum.calls a0_0 true _ A13.out).mono ?_); rintro e w' ⟨rfl, ⟨nd, rfl⟩⟩; refine ⟨_, rfl, ?_⟩) | (go_at_call 88; (with_reducible refine (impl_usesSum.calls a0_0 true _ A16.out).mono ?_); rintro e w' ⟨rfl, ⟨nd, rfl⟩⟩))
                go_meet
                case rel => exact ⟨_, (false), (by first | rfl | (simp; done) | (simp [*]; done) | (simp; exact nil_isE _) | (simp; exact (nil_isE _).symm)), H', ⟨by have := HJ2.out; first | omega | exact Nat.le_refl _⟩, ⟨by (with_reducible repeat (first | refine blk_drewN ?_ _ | refine blk_drew ?_ | refine blk_alloc ?_ _)); exact BK784.out⟩, ⟨by repeat (first | (with_reducible first | exact HB.out | apply below_alloc | apply pw_below_drewN | apply below_drew1 | refine below_set ?_ GE784.out) | exact HB.out)⟩⟩
              · replace c17 := Bool.eq_false_iff.mpr c17
                subst c17
                have H1 : (impl_entryOk.j1 kj2 a1 (a0_1.toList != ([] : List UInt8)) a0_0 a0_1 a0_2 a0_3 a0_4 l0_5) = some r := by rw [if_neg (show ¬ (false = true) by decide)] at H; exact H
                clear H
                have H := H1
                clear H1
                have H' := Aside0.mk H
                clear H
                have hcz19_0 : wc.cell? ⟨gb784, 0, none⟩ = some (.int .i64 a0_0) := (blk_cell BK784.out 0).trans rfl
                have hcz19_1 : wc.cell? ⟨gb784, 1, none⟩ = some (.string a0_1) := (blk_cell BK784.out 1).trans rfl
                have hcz19_2 : wc.cell? ⟨gb784, 2, none⟩ = some (.string a0_2) := (blk_cell BK784.out 2).trans rfl
                have hcz19_3 : wc.cell? ⟨gb784, 3, none⟩ = some (.int .i64 a0_3) := (blk_cell BK784.out 3).trans rfl
                have hcz19_4 : wc.cell? ⟨gb784, 4, none⟩ = some (.string a0_4) := (blk_cell BK784.out 4).trans rfl
                have hcz19_5 : wc.cell? ⟨gb784, 5, none⟩ = some (.slice A0_5 l0_5.length c0_5) := (blk_cell BK784.out 5).trans rfl
                have hfz19_0 := blk_frozen BK784.out 0
                have hfz19_1 := blk_frozen BK784.out 1
                have hfz19_2 := blk_frozen BK784.out 2
                have hfz19_3 := blk_frozen BK784.out 3
                have hfz19_4 := blk_frozen BK784.out 4
                have hfz19_5 := blk_frozen BK784.out 5
                go_wp2_with (first | ((with_reducible refine gate_callee (f := 88) rfl ?_); refine goesL_ (some 22) rfl rfl Try.func88 (by kernel_rfl) rfl #[.int .i64 a0_0] rfl (by (try simp only [List.map_toArray, List.map_cons, List.map_nil]); first | done | rfl | (simp only [List.length_drop, List.length_take]; rfl)) ?_; (with_reducible refine (impl_usesSum.calls a0_0 true _ A13.out).mono ?_); rintro e w' ⟨rfl, ⟨nd, rfl⟩⟩; refine ⟨_, rfl, ?_⟩) | (go_at_call 88; (with_reducible refine (impl_usesSum.calls a0_0 false _ A16.out).mono ?_); rintro e w' ⟨rfl, ⟨nd, rfl⟩⟩))
                go_meet
                case rel => exact ⟨_, ((a0_1.toList != ([] : List UInt8))), (by first | rfl | (simp; done) | (simp [*]; done) | (simp; exact nil_isE _) | (simp; exact (nil_isE _).symm)), H', ⟨by have := HJ2.out; first | omega | exact Nat.le_refl _⟩, ⟨by (with_reducible repeat (first | refine blk_drewN ?_ _ | refine blk_drew ?_ | refine blk_alloc ?_ _)); exact BK784.out⟩, ⟨by repeat (first | (with_reducible first | exact HB.out | apply below_alloc | apply pw_below_drewN | apply below_drew1 | refine below_set ?_ GE784.out) | exact HB.out)⟩⟩
            · rw [if_neg c15] at H
              have c15b0 : ((a0_1.size : Int) == a1) = false := beq_eq_false_iff_ne.mpr c15
              have c15b1 : ((a0_1.size : Int) != a1) = true := bne_iff_ne.mpr c15
              (first | rw [c15b0] | (simp only [i64_w, i32_w]; rw [c15b0]) | skip)
              have H' := Aside0.mk H
              clear H
              have hcz20_0 : wc.cell? ⟨gb784, 0, none⟩ = some (.int .i64 a0_0) := (blk_cell BK784.out 0).trans rfl
              have hcz20_1 : wc.cell? ⟨gb784, 1, none⟩ = some (.string a0_1) := (blk_cell BK784.out 1).trans rfl
              have hcz20_2 : wc.cell? ⟨gb784, 2, none⟩ = some (.string a0_2) := (blk_cell BK784.out 2).trans rfl
              have hcz20_3 : wc.cell? ⟨gb784, 3, none⟩ = some (.int .i64 a0_3) := (blk_cell BK784.out 3).trans rfl
              have hcz20_4 : wc.cell? ⟨gb784, 4, none⟩ = some (.string a0_4) := (blk_cell BK784.out 4).trans rfl
              have hcz20_5 : wc.cell? ⟨gb784, 5, none⟩ = some (.slice A0_5 l0_5.length c0_5) := (blk_cell BK784.out 5).trans rfl
              have hfz20_0 := blk_frozen BK784.out 0
              have hfz20_1 := blk_frozen BK784.out 1
              have hfz20_2 := blk_frozen BK784.out 2
              have hfz20_3 := blk_frozen BK784.out 3
              have hfz20_4 := blk_frozen BK784.out 4
              have hfz20_5 := blk_frozen BK784.out 5
              go_wp2_with (first | ((with_reducible refine gate_callee (f := 88) rfl ?_); refine goesL_ (some 22) rfl rfl Try.func88 (by kernel_rfl) rfl #[.int .i64 a0_0] rfl (by (try simp only [List.map_toArray, List.map_cons, List.map_nil]); first | done | rfl | (simp only [List.length_drop, List.length_take]; rfl)) ?_; (with_reducible refine (impl_usesSum.calls a0_0 true _ A13.out).mono ?_); rintro e w' ⟨rfl, ⟨nd, rfl⟩⟩; refine ⟨_, rfl, ?_⟩))
              go_meet
              case rel => exact ⟨_, (true), (by first | rfl | (simp; done) | (simp [*]; done) | (simp; exact nil_isE _) | (simp; exact (nil_isE _).symm)), H', ⟨by have := HJ2.out; first | omega | exact Nat.le_refl _⟩, ⟨by (with_reducible repeat (first | refine blk_drewN ?_ _ | refine blk_drew ?_ | refine blk_alloc ?_ _)); exact BK784.out⟩, ⟨by repeat (first | (with_reducible first | exact HB.out | apply below_alloc | apply pw_below_drewN | apply below_drew1 | refine below_set ?_ GE784.out) | exact HB.out)⟩⟩
          · replace c14 := Bool.eq_false_iff.mpr c14
            subst c14
            have H1 : ((impl_usesSum.f a0_0).bind fun t788 => (if t788 = true then (impl_entryOk.j1 kj2 a1 false a0_0 a0_1 a0_2 a0_3 a0_4 l0_5) else (impl_entryOk.j1 kj2 a1 (a0_1.toList != ([] : List UInt8)) a0_0 a0_1 a0_2 a0_3 a0_4 l0_5))) = some r := by rw [if_neg (show ¬ (false = true) by decide)] at H; exact H
            clear H
            have H := H1
            clear H1
            replace H := Option.bind_eq_some_iff.mp H
            obtain ⟨t788, A210, H⟩ := H
            replace H : (if t788 = true then (impl_entryOk.j1 kj2 a1 false a0_0 a0_1 a0_2 a0_3 a0_4 l0_5) else (impl_entryOk.j1 kj2 a1 (a0_1.toList != ([] : List UInt8)) a0_0 a0_1 a0_2 a0_3 a0_4 l0_5)) = some r := H
            have A21 := Aside0.mk A210
            clear A210
            by_cases c22 : t788 = true
            · subst c22
              have H1 : (impl_entryOk.j1 kj2 a1 false a0_0 a0_1 a0_2 a0_3 a0_4 l0_5) = some r := by rw [if_pos rfl] at H; exact H
              clear H
              have H := H1
              clear H1
              have H' := Aside0.mk H
              clear H
              have hcz23_0 : wc.cell? ⟨gb784, 0, none⟩ = some (.int .i64 a0_0) := (blk_cell BK784.out 0).trans rfl
              have hcz23_1 : wc.cell? ⟨gb784, 1, none⟩ = some (.string a0_1) := (blk_cell BK784.out 1).trans rfl
              have hcz23_2 : wc.cell? ⟨gb784, 2, none⟩ = some (.string a0_2) := (blk_cell BK784.out 2).trans rfl
              have hcz23_3 : wc.cell? ⟨gb784, 3, none⟩ = some (.int .i64 a0_3) := (blk_cell BK784.out 3).trans rfl
              have hcz23_4 : wc.cell? ⟨gb784, 4, none⟩ = some (.string a0_4) := (blk_cell BK784.out 4).trans rfl
              have hcz23_5 : wc.cell? ⟨gb784, 5, none⟩ = some (.slice A0_5 l0_5.length c0_5) := (blk_cell BK784.out 5).trans rfl
              have hfz23_0 := blk_frozen BK784.out 0
              have hfz23_1 := blk_frozen BK784.out 1
              have hfz23_2 := blk_frozen BK784.out 2
              have hfz23_3 := blk_frozen BK784.out 3
              have hfz23_4 := blk_frozen BK784.out 4
              have hfz23_5 := blk_frozen BK784.out 5
              go_wp2_with (first | ((with_reducible refine gate_callee (f := 88) rfl ?_); refine goesL_ (some 22) rfl rfl Try.func88 (by kernel_rfl) rfl #[.int .i64 a0_0] rfl (by (try simp only [List.map_toArray, List.map_cons, List.map_nil]); first | done | rfl | (simp only [List.length_drop, List.length_take]; rfl)) ?_; (with_reducible refine (impl_usesSum.calls a0_0 false _ A13.out).mono ?_); rintro e w' ⟨rfl, ⟨nd, rfl⟩⟩; refine ⟨_, rfl, ?_⟩) | (go_at_call 88; (with_reducible refine (impl_usesSum.calls a0_0 true _ A21.out).mono ?_); rintro e w' ⟨rfl, ⟨nd, rfl⟩⟩))
              go_meet
              case rel => exact ⟨_, (false), (by first | rfl | (simp; done) | (simp [*]; done) | (simp; exact nil_isE _) | (simp; exact (nil_isE _).symm)), H', ⟨by have := HJ2.out; first | omega | exact Nat.le_refl _⟩, ⟨by (with_reducible repeat (first | refine blk_drewN ?_ _ | refine blk_drew ?_ | refine blk_alloc ?_ _)); exact BK784.out⟩, ⟨by repeat (first | (with_reducible first | exact HB.out | apply below_alloc | apply pw_below_drewN | apply below_drew1 | refine below_set ?_ GE784.out) | exact HB.out)⟩⟩
            · replace c22 := Bool.eq_false_iff.mpr c22
              subst c22
              have H1 : (impl_entryOk.j1 kj2 a1 (a0_1.toList != ([] : List UInt8)) a0_0 a0_1 a0_2 a0_3 a0_4 l0_5) = some r := by rw [if_neg (show ¬ (false = true) by decide)] at H; exact H
              clear H
              have H := H1
              clear H1
              have H' := Aside0.mk H
              clear H
              have hcz24_0 : wc.cell? ⟨gb784, 0, none⟩ = some (.int .i64 a0_0) := (blk_cell BK784.out 0).trans rfl
              have hcz24_1 : wc.cell? ⟨gb784, 1, none⟩ = some (.string a0_1) := (blk_cell BK784.out 1).trans rfl
              have hcz24_2 : wc.cell? ⟨gb784, 2, none⟩ = some (.string a0_2) := (blk_cell BK784.out 2).trans rfl
              have hcz24_3 : wc.cell? ⟨gb784, 3, none⟩ = some (.int .i64 a0_3) := (blk_cell BK784.out 3).trans rfl
              have hcz24_4 : wc.cell? ⟨gb784, 4, none⟩ = some (.string a0_4) := (blk_cell BK784.out 4).trans rfl
              have hcz24_5 : wc.cell? ⟨gb784, 5, none⟩ = some (.slice A0_5 l0_5.length c0_5) := (blk_cell BK784.out 5).trans rfl
              have hfz24_0 := blk_frozen BK784.out 0
              have hfz24_1 := blk_frozen BK784.out 1
              have hfz24_2 := blk_frozen BK784.out 2
              have hfz24_3 := blk_frozen BK784.out 3
              have hfz24_4 := blk_frozen BK784.out 4
              have hfz24_5 := blk_frozen BK784.out 5
              go_wp2_with (first | ((with_reducible refine gate_callee (f := 88) rfl ?_); refine goesL_ (some 22) rfl rfl Try.func88 (by kernel_rfl) rfl #[.int .i64 a0_0] rfl (by (try simp only [List.map_toArray, List.map_cons, List.map_nil]); first | done | rfl | (simp only [List.length_drop, List.length_take]; rfl)) ?_; (with_reducible refine (impl_usesSum.calls a0_0 false _ A13.out).mono ?_); rintro e w' ⟨rfl, ⟨nd, rfl⟩⟩; refine ⟨_, rfl, ?_⟩) | (go_at_call 88; (with_reducible refine (impl_usesSum.calls a0_0 false _ A21.out).mono ?_); rintro e w' ⟨rfl, ⟨nd, rfl⟩⟩))
              go_meet
              case rel => exact ⟨_, ((a0_1.toList != ([] : List UInt8))), (by first | rfl | (simp; done) | (simp [*]; done) | (simp; exact nil_isE _) | (simp; exact (nil_isE _).symm)), H', ⟨by have := HJ2.out; first | omega | exact Nat.le_refl _⟩, ⟨by (with_reducible repeat (first | refine blk_drewN ?_ _ | refine blk_drew ?_ | refine blk_alloc ?_ _)); exact BK784.out⟩, ⟨by repeat (first | (with_reducible first | exact HB.out | apply below_alloc | apply pw_below_drewN | apply below_drew1 | refine below_set ?_ GE784.out) | exact HB.out)⟩⟩
        case rest =>
          clear HC12
          try clear c1
          try clear c2
          try clear p2
          try clear c5
          try clear c5b0
          try clear c7
          try clear c7b0
          try clear c8
          try clear c11
          try clear c14
          try clear c15
          try clear c15b0
          try clear c15b1
          try clear c17
          try clear c22
          try clear hcz10_0
          try clear hcz10_1
          try clear hcz10_2
          try clear hcz10_3
          try clear hcz10_4
          try clear hcz10_5
          try clear hcz18_0
          try clear hcz18_1
          try clear hcz18_2
          try clear hcz18_3
          try clear hcz18_4
          try clear hcz18_5
          try clear hcz19_0
          try clear hcz19_1
          try clear hcz19_2
          try clear hcz19_3
          try clear hcz19_4
          try clear hcz19_5
          try clear hcz20_0
          try clear hcz20_1
          try clear hcz20_2
          try clear hcz20_3
          try clear hcz20_4
          try clear hcz20_5
          try clear hcz23_0
          try clear hcz23_1
          try clear hcz23_2
          try clear hcz23_3
          try clear hcz23_4
          try clear hcz23_5
          try clear hcz24_0
          try clear hcz24_1
          try clear hcz24_2
          try clear hcz24_3
          try clear hcz24_4
          try clear hcz24_5
          try clear hcz6_0
          try clear hcz6_1
          try clear hcz6_2
          try clear hcz6_3
          try clear hcz6_4
          try clear hcz6_5
          try clear hcz8_0
          try clear hcz8_1
          try clear hcz8_2
          try clear hcz8_3
          try clear hcz8_4
          try clear hcz8_5
          try clear hfz10_0
          try clear hfz10_1
          try clear hfz10_2
          try clear hfz10_3
          try clear hfz10_4
          try clear hfz10_5
          try clear hfz18_0
          try clear hfz18_1
          try clear hfz18_2
          try clear hfz18_3
          try clear hfz18_4
          try clear hfz18_5
          try clear hfz19_0
          try clear hfz19_1
          try clear hfz19_2
          try clear hfz19_3
          try clear hfz19_4
          try clear hfz19_5
          try clear hfz20_0
          try clear hfz20_1
          try clear hfz20_2
          try clear hfz20_3
          try clear hfz20_4
          try clear hfz20_5
          try clear hfz23_0
          try clear hfz23_1
          try clear hfz23_2
          try clear hfz23_3
          try clear hfz23_4
          try clear hfz23_5
          try clear hfz24_0
          try clear hfz24_1
          try clear hfz24_2
          try clear hfz24_3
          try clear hfz24_4
          try clear hfz24_5
          try clear hfz6_0
          try clear hfz6_1
          try clear hfz6_2
          try clear hfz6_3
          try clear hfz6_4
          try clear hfz6_5
          try clear hfz8_0
          try clear hfz8_1
          try clear hfz8_2
          try clear hfz8_3
          try clear hfz8_4
          try clear hfz8_5
          try clear p2
          obtain ⟨kq, x40_11, rfl, HA, HJ11, BK784, HB⟩ := hcut
          cases kq with
          | zero => exact absurd HA.out (by simp [impl_entryOk.j1])
          | succ kj11 =>
            have H := HA.out
            clear HA
            simp only [impl_entryOk.j1] at H
            by_cases c25 : x40_11 = true
            · subst c25
              have H1 : (some false) = some r := by rw [if_pos rfl] at H; exact H
              clear H
              have H := H1
              clear H1
              obtain rfl := Option.some.inj H
              go_wp2
              go_ret
              exact ⟨by first | rfl | (simp [errW_none, errW_some] <;> rfl) | (simp [*, errW_none, errW_some] <;> rfl), by repeat (first | (with_reducible first | exact HB.out | apply below_alloc | apply pw_below_drewN | apply below_drew1 | refine below_set ?_ GE784.out) | exact HB.out)⟩
            · replace c25 := Bool.eq_false_iff.mpr c25
              subst c25
              have H1 : ((impl_usesName.f a0_0).bind fun t789 => (if t789 = true then ((impl_nameOk.f kj11 a0_2).bind fun t790 => (if t790 = true then ((impl_usesName.f a0_0).bind fun t791 => (if t791 = true then (impl_entryOk.j2 kj11 a1 false a0_0 a0_1 a0_2 a0_3 a0_4 l0_5) else (impl_entryOk.j2 kj11 a1 (a0_2.toList != ([] : List UInt8)) a0_0 a0_1 a0_2 a0_3 a0_4 l0_5))) else (impl_entryOk.j2 kj11 a1 true a0_0 a0_1 a0_2 a0_3 a0_4 l0_5))) else ((impl_usesName.f a0_0).bind fun t792 => (if t792 = true then (impl_entryOk.j2 kj11 a1 false a0_0 a0_1 a0_2 a0_3 a0_4 l0_5) else (impl_entryOk.j2 kj11 a1 (a0_2.toList != ([] : List UInt8)) a0_0 a0_1 a0_2 a0_3 a0_4 l0_5))))) = some r := by rw [if_neg (show ¬ (false = true) by decide)] at H; exact H
              clear H
              have H := H1
              clear H1
              have HC26 := Aside0.mk H
              clear H
              go_upto_region 5 with (fail)
              go_cut [60] (fun v60 wc => ∃ (kq : Nat) (x60_25 : Bool), v60 = .bool x60_25 ∧ Aside0 (impl_entryOk.j2 kq a1 x60_25 a0_0 a0_1 a0_2 a0_3 a0_4 l0_5 = some r) ∧ Aside0 (kq ≤ kj11) ∧ Aside0 (wc.heap[gb784]? = some (.cells #[.int .i64 a0_0, .string a0_1, .string a0_2, .int .i64 a0_3, .string a0_4, (.slice A0_5 l0_5.length c0_5)] 63 (0, 0))) ∧ Aside0 (Below w.heap.size w wc))
              case first =>
                have H := HC26.out
                clear HC26
                replace H := Option.bind_eq_some_iff.mp H
                obtain ⟨t789, A270, H⟩ := H
                replace H : (if t789 = true then ((impl_nameOk.f kj11 a0_2).bind fun t790 => (if t790 = true then ((impl_usesName.f a0_0).bind fun t791 => (if t791 = true then (impl_entryOk.j2 kj11 a1 false a0_0 a0_1 a0_2 a0_3 a0_4 l0_5) else (impl_entryOk.j2 kj11 a1 (a0_2.toList != ([] : List UInt8)) a0_0 a0_1 a0_2 a0_3 a0_4 l0_5))) else (impl_entryOk.j2 kj11 a1 true a0_0 a0_1 a0_2 a0_3 a0_4 l0_5))) else ((impl_usesName.f a0_0).bind fun t792 => (if t792 = true then (impl_entryOk.j2 kj11 a1 false a0_0 a0_1 a0_2 a0_3 a0_4 l0_5) else (impl_entryOk.j2 kj11 a1 (a0_2.toList != ([] : List UInt8)) a0_0 a0_1 a0_2 a0_3 a0_4 l0_5)))) = some r := H
                have A27 := Aside0.mk A270
                clear A270
                by_cases c28 : t789 = true
                · subst c28
                  have H1 : ((impl_nameOk.f kj11 a0_2).bind fun t790 => (if t790 = true then ((impl_usesName.f a0_0).bind fun t791 => (if t791 = true then (impl_entryOk.j2 kj11 a1 false a0_0 a0_1 a0_2 a0_3 a0_4 l0_5) else (impl_entryOk.j2 kj11 a1 (a0_2.toList != ([] : List UInt8)) a0_0 a0_1 a0_2 a0_3 a0_4 l0_5))) else (impl_entryOk.j2 kj11 a1 true a0_0 a0_1 a0_2 a0_3 a0_4 l0_5))) = some r := by rw [if_pos rfl] at H; exact H
                  clear H
                  have H := H1
                  clear H1
                  replace H := Option.bind_eq_some_iff.mp H
                  obtain ⟨t790, A290, H⟩ := H
                  replace H : (if t790 = true then ((impl_usesName.f a0_0).bind fun t791 => (if t791 = true then (impl_entryOk.j2 kj11 a1 false a0_0 a0_1 a0_2 a0_3 a0_4 l0_5) else (impl_entryOk.j2 kj11 a1 (a0_2.toList != ([] : List UInt8)) a0_0 a0_1 a0_2 a0_3 a0_4 l0_5))) else (impl_entryOk.j2 kj11 a1 true a0_0 a0_1 a0_2 a0_3 a0_4 l0_5)) = some r := H
                  have A29 := Aside0.mk A290
                  clear A290
                  by_cases c30 : t790 = true
                  · subst c30
                    have H1 : ((impl_usesName.f a0_0).bind fun t791 => (if t791 = true then (impl_entryOk.j2 kj11 a1 false a0_0 a0_1 a0_2 a0_3 a0_4 l0_5) else (impl_entryOk.j2 kj11 a1 (a0_2.toList != ([] : List UInt8)) a0_0 a0_1 a0_2 a0_3 a0_4 l0_5))) = some r := by rw [if_pos rfl] at H; exact H
                    clear H
                    have H := H1
                    clear H1
                    replace H := Option.bind_eq_some_iff.mp H
                    obtain ⟨t791, A310, H⟩ := H
                    replace H : (if t791 = true then (impl_entryOk.j2 kj11 a1 false a0_0 a0_1 a0_2 a0_3 a0_4 l0_5) else (impl_entryOk.j2 kj11 a1 (a0_2.toList != ([] : List UInt8)) a0_0 a0_1 a0_2 a0_3 a0_4 l0_5)) = some r := H
                    have A31 := Aside0.mk A310
                    clear A310
                    by_cases c32 : t791 = true
                    · subst c32
                      have H1 : (impl_entryOk.j2 kj11 a1 false a0_0 a0_1 a0_2 a0_3 a0_4 l0_5) = some r := by rw [if_pos rfl] at H; exact H
                      clear H
                      have H := H1
                      clear H1
                      have H' := Aside0.mk H
                      clear H
                      have hcz33_0 : wc.cell? ⟨gb784, 0, none⟩ = some (.int .i64 a0_0) := (blk_cell BK784.out 0).trans rfl
                      have hcz33_1 : wc.cell? ⟨gb784, 1, none⟩ = some (.string a0_1) := (blk_cell BK784.out 1).trans rfl
                      have hcz33_2 : wc.cell? ⟨gb784, 2, none⟩ = some (.string a0_2) := (blk_cell BK784.out 2).trans rfl
                      have hcz33_3 : wc.cell? ⟨gb784, 3, none⟩ = some (.int .i64 a0_3) := (blk_cell BK784.out 3).trans rfl
                      have hcz33_4 : wc.cell? ⟨gb784, 4, none⟩ = some (.string a0_4) := (blk_cell BK784.out 4).trans rfl
                      have hcz33_5 : wc.cell? ⟨gb784, 5, none⟩ = some (.slice A0_5 l0_5.length c0_5) := (blk_cell BK784.out 5).trans rfl
                      have hfz33_0 := blk_frozen BK784.out 0
                      have hfz33_1 := blk_frozen BK784.out 1
                      have hfz33_2 := blk_frozen BK784.out 2
                      have hfz33_3 := blk_frozen BK784.out 3
                      have hfz33_4 := blk_frozen BK784.out 4
                      have hfz33_5 := blk_frozen BK784.out 5
                      go_wp2_with (first | ((with_reducible refine gate_callee (f := 89) rfl ?_); refine goesL_ (some 43) rfl rfl Try.func89 (by kernel_rfl) rfl #[.int .i64 a0_0] rfl (by (try simp only [List.map_toArray, List.map_cons, List.map_nil]); first | done | rfl | (simp only [List.length_drop, List.length_take]; rfl)) ?_; (with_reducible refine (impl_usesName.calls a0_0 true _ A27.out).mono ?_); rintro e w' ⟨rfl, ⟨nd, rfl⟩⟩; refine ⟨_, rfl, ?_⟩) | (go_at_call 90; (with_reducible refine (impl_nameOk.calls kj11 a0_2 true _ A29.out).mono ?_); rintro e w' ⟨rfl, ⟨nd, rfl⟩⟩) | (go_at_call 89; (with_reducible refine (impl_usesName.calls a0_0 true _ A31.out).mono ?_); rintro e w' ⟨rfl, ⟨nd, rfl⟩⟩))
                      go_meet
                      case rel => exact ⟨_, (false), (by first | rfl | (simp; done) | (simp [*]; done) | (simp; exact nil_isE _) | (simp; exact (nil_isE _).symm)), H', ⟨by have := HJ2.out; have := HJ11.out; first | omega | exact Nat.le_refl _⟩, ⟨by (with_reducible repeat (first | refine blk_drewN ?_ _ | refine blk_drew ?_ | refine blk_alloc ?_ _)); exact BK784.out⟩, ⟨by repeat (first | (with_reducible first | exact HB.out | apply below_alloc | apply pw_below_drewN | apply below_drew1 | refine below_set ?_ GE784.out) | exact HB.out)⟩⟩
                    · replace c32 := Bool.eq_false_iff.mpr c32
                      subst c32
                      have H1 : (impl_entryOk.j2 kj11 a1 (a0_2.toList != ([] : List UInt8)) a0_0 a0_1 a0_2 a0_3 a0_4 l0_5) = some r := by rw [if_neg (show ¬ (false = true) by decide)] at H; exact H
                      clear H
                      have H := H1
                      clear H1
                      have H' := Aside0.mk H
                      clear H
                      have hcz34_0 : wc.cell? ⟨gb784, 0, none⟩ = some (.int .i64 a0_0) := (blk_cell BK784.out 0).trans rfl
                      have hcz34_1 : wc.cell? ⟨gb784, 1, none⟩ = some (.string a0_1) := (blk_cell BK784.out 1).trans rfl
                      have hcz34_2 : wc.cell? ⟨gb784, 2, none⟩ = some (.string a0_2) := (blk_cell BK784.out 2).trans rfl
                      have hcz34_3 : wc.cell? ⟨gb784, 3, none⟩ = some (.int .i64 a0_3) := (blk_cell BK784.out 3).trans rfl
                      have hcz34_4 : wc.cell? ⟨gb784, 4, none⟩ = some (.string a0_4) := (blk_cell BK784.out 4).trans rfl
                      have hcz34_5 : wc.cell? ⟨gb784, 5, none⟩ = some (.slice A0_5 l0_5.length c0_5) := (blk_cell BK784.out 5).trans rfl
                      have hfz34_0 := blk_frozen BK784.out 0
                      have hfz34_1 := blk_frozen BK784.out 1
                      have hfz34_2 := blk_frozen BK784.out 2
                      have hfz34_3 := blk_frozen BK784.out 3
                      have hfz34_4 := blk_frozen BK784.out 4
                      have hfz34_5 := blk_frozen BK784.out 5
                      go_wp2_with (first | ((with_reducible refine gate_callee (f := 89) rfl ?_); refine goesL_ (some 43) rfl rfl Try.func89 (by kernel_rfl) rfl #[.int .i64 a0_0] rfl (by (try simp only [List.map_toArray, List.map_cons, List.map_nil]); first | done | rfl | (simp only [List.length_drop, List.length_take]; rfl)) ?_; (with_reducible refine (impl_usesName.calls a0_0 true _ A27.out).mono ?_); rintro e w' ⟨rfl, ⟨nd, rfl⟩⟩; refine ⟨_, rfl, ?_⟩) | (go_at_call 90; (with_reducible refine (impl_nameOk.calls kj11 a0_2 true _ A29.out).mono ?_); rintro e w' ⟨rfl, ⟨nd, rfl⟩⟩) | (go_at_call 89; (with_reducible refine (impl_usesName.calls a0_0 false _ A31.out).mono ?_); rintro e w' ⟨rfl, ⟨nd, rfl⟩⟩))
                      go_meet
                      case rel => exact ⟨_, ((a0_2.toList != ([] : List UInt8))), (by first | rfl | (simp; done) | (simp [*]; done) | (simp; exact nil_isE _) | (simp; exact (nil_isE _).symm)), H', ⟨by have := HJ2.out; have := HJ11.out; first | omega | exact Nat.le_refl _⟩, ⟨by (with_reducible repeat (first | refine blk_drewN ?_ _ | refine blk_drew ?_ | refine blk_alloc ?_ _)); exact BK784.out⟩, ⟨by repeat (first | (with_reducible first | exact HB.out | apply below_alloc | apply pw_below_drewN | apply below_drew1 | refine below_set ?_ GE784.out) | exact HB.out)⟩⟩
                  · replace c30 := Bool.eq_false_iff.mpr c30
                    subst c30
                    have H1 : (impl_entryOk.j2 kj11 a1 true a0_0 a0_1 a0_2 a0_3 a0_4 l0_5) = some r := by rw [if_neg (show ¬ (false = true) by decide)] at H; exact H
                    clear H
                    have H := H1
                    clear H1
                    have H' := Aside0.mk H
                    clear H
                    have hcz35_0 : wc.cell? ⟨gb784, 0, none⟩ = some (.int .i64 a0_0) := (blk_cell BK784.out 0).trans rfl
                    have hcz35_1 : wc.cell? ⟨gb784, 1, none⟩ = some (.string a0_1) := (blk_cell BK784.out 1).trans rfl
                    have hcz35_2 : wc.cell? ⟨gb784, 2, none⟩ = some (.string a0_2) := (blk_cell BK784.out 2).trans rfl
                    have hcz35_3 : wc.cell? ⟨gb784, 3, none⟩ = some (.int .i64 a0_3) := (blk_cell BK784.out 3).trans rfl
                    have hcz35_4 : wc.cell? ⟨gb784, 4, none⟩ = some (.string a0_4) := (blk_cell BK784.out 4).trans rfl
                    have hcz35_5 : wc.cell? ⟨gb784, 5, none⟩ = some (.slice A0_5 l0_5.length c0_5) := (blk_cell BK784.out 5).trans rfl
                    have hfz35_0 := blk_frozen BK784.out 0
                    have hfz35_1 := blk_frozen BK784.out 1
                    have hfz35_2 := blk_frozen BK784.out 2
                    have hfz35_3 := blk_frozen BK784.out 3
                    have hfz35_4 := blk_frozen BK784.out 4
                    have hfz35_5 := blk_frozen BK784.out 5
                    go_wp2_with (first | ((with_reducible refine gate_callee (f := 89) rfl ?_); refine goesL_ (some 43) rfl rfl Try.func89 (by kernel_rfl) rfl #[.int .i64 a0_0] rfl (by (try simp only [List.map_toArray, List.map_cons, List.map_nil]); first | done | rfl | (simp only [List.length_drop, List.length_take]; rfl)) ?_; (with_reducible refine (impl_usesName.calls a0_0 true _ A27.out).mono ?_); rintro e w' ⟨rfl, ⟨nd, rfl⟩⟩; refine ⟨_, rfl, ?_⟩) | (go_at_call 90; (with_reducible refine (impl_nameOk.calls kj11 a0_2 false _ A29.out).mono ?_); rintro e w' ⟨rfl, ⟨nd, rfl⟩⟩))
                    go_meet
                    case rel => exact ⟨_, (true), (by first | rfl | (simp; done) | (simp [*]; done) | (simp; exact nil_isE _) | (simp; exact (nil_isE _).symm)), H', ⟨by have := HJ2.out; have := HJ11.out; first | omega | exact Nat.le_refl _⟩, ⟨by (with_reducible repeat (first | refine blk_drewN ?_ _ | refine blk_drew ?_ | refine blk_alloc ?_ _)); exact BK784.out⟩, ⟨by repeat (first | (with_reducible first | exact HB.out | apply below_alloc | apply pw_below_drewN | apply below_drew1 | refine below_set ?_ GE784.out) | exact HB.out)⟩⟩
                · replace c28 := Bool.eq_false_iff.mpr c28
                  subst c28
                  have H1 : ((impl_usesName.f a0_0).bind fun t792 => (if t792 = true then (impl_entryOk.j2 kj11 a1 false a0_0 a0_1 a0_2 a0_3 a0_4 l0_5) else (impl_entryOk.j2 kj11 a1 (a0_2.toList != ([] : List UInt8)) a0_0 a0_1 a0_2 a0_3 a0_4 l0_5))) = some r := by rw [if_neg (show ¬ (false = true) by decide)] at H; exact H
                  clear H
                  have H := H1
                  clear H1
                  replace H := Option.bind_eq_some_iff.mp H
                  obtain ⟨t792, A360, H⟩ := H
                  replace H : (if t792 = true then (impl_entryOk.j2 kj11 a1 false a0_0 a0_1 a0_2 a0_3 a0_4 l0_5) else (impl_entryOk.j2 kj11 a1 (a0_2.toList != ([] : List UInt8)) a0_0 a0_1 a0_2 a0_3 a0_4 l0_5)) = some r := H
                  have A36 := Aside0.mk A360
                  clear A360
                  by_cases c37 : t792 = true
                  · subst c37
                    have H1 : (impl_entryOk.j2 kj11 a1 false a0_0 a0_1 a0_2 a0_3 a0_4 l0_5) = some r := by rw [if_pos rfl] at H; exact H
                    clear H
                    have H := H1
                    clear H1
                    have H' := Aside0.mk H
                    clear H
                    have hcz38_0 : wc.cell? ⟨gb784, 0, none⟩ = some (.int .i64 a0_0) := (blk_cell BK784.out 0).trans rfl
                    have hcz38_1 : wc.cell? ⟨gb784, 1, none⟩ = some (.string a0_1) := (blk_cell BK784.out 1).trans rfl
                    have hcz38_2 : wc.cell? ⟨gb784, 2, none⟩ = some (.string a0_2) := (blk_cell BK784.out 2).trans rfl
                    have hcz38_3 : wc.cell? ⟨gb784, 3, none⟩ = some (.int .i64 a0_3) := (blk_cell BK784.out 3).trans rfl
                    have hcz38_4 : wc.cell? ⟨gb784, 4, none⟩ = some (.string a0_4) := (blk_cell BK784.out 4).trans rfl
                    have hcz38_5 : wc.cell? ⟨gb784, 5, none⟩ = some (.slice A0_5 l0_5.length c0_5) := (blk_cell BK784.out 5).trans rfl
                    have hfz38_0 := blk_frozen BK784.out 0
                    have hfz38_1 := blk_frozen BK784.out 1
                    have hfz38_2 := blk_frozen BK784.out 2
                    have hfz38_3 := blk_frozen BK784.out 3
                    have hfz38_4 := blk_frozen BK784.out 4
                    have hfz38_5 := blk_frozen BK784.out 5
                    go_wp2_with (first | ((with_reducible refine gate_callee (f := 89) rfl ?_); refine goesL_ (some 43) rfl rfl Try.func89 (by kernel_rfl) rfl #[.int .i64 a0_0] rfl (by (try simp only [List.map_toArray, List.map_cons, List.map_nil]); first | done | rfl | (simp only [List.length_drop, List.length_take]; rfl)) ?_; (with_reducible refine (impl_usesName.calls a0_0 false _ A27.out).mono ?_); rintro e w' ⟨rfl, ⟨nd, rfl⟩⟩; refine ⟨_, rfl, ?_⟩) | (go_at_call 89; (with_reducible refine (impl_usesName.calls a0_0 true _ A36.out).mono ?_); rintro e w' ⟨rfl, ⟨nd, rfl⟩⟩))
                    go_meet
                    case rel => exact ⟨_, (false), (by first | rfl | (simp; done) | (simp [*]; done) | (simp; exact nil_isE _) | (simp; exact (nil_isE _).symm)), H', ⟨by have := HJ2.out; have := HJ11.out; first | omega | exact Nat.le_refl _⟩, ⟨by (with_reducible repeat (first | refine blk_drewN ?_ _ | refine blk_drew ?_ | refine blk_alloc ?_ _)); exact BK784.out⟩, ⟨by repeat (first | (with_reducible first | exact HB.out | apply below_alloc | apply pw_below_drewN | apply below_drew1 | refine below_set ?_ GE784.out) | exact HB.out)⟩⟩
                  · replace c37 := Bool.eq_false_iff.mpr c37
                    subst c37
                    have H1 : (impl_entryOk.j2 kj11 a1 (a0_2.toList != ([] : List UInt8)) a0_0 a0_1 a0_2 a0_3 a0_4 l0_5) = some r := by rw [if_neg (show ¬ (false = true) by decide)] at H; exact H
                    clear H
                    have H := H1
                    clear H1
                    have H' := Aside0.mk H
                    clear H
                    have hcz39_0 : wc.cell? ⟨gb784, 0, none⟩ = some (.int .i64 a0_0) := (blk_cell BK784.out 0).trans rfl
                    have hcz39_1 : wc.cell? ⟨gb784, 1, none⟩ = some (.string a0_1) := (blk_cell BK784.out 1).trans rfl
                    have hcz39_2 : wc.cell? ⟨gb784, 2, none⟩ = some (.string a0_2) := (blk_cell BK784.out 2).trans rfl
                    have hcz39_3 : wc.cell? ⟨gb784, 3, none⟩ = some (.int .i64 a0_3) := (blk_cell BK784.out 3).trans rfl
                    have hcz39_4 : wc.cell? ⟨gb784, 4, none⟩ = some (.string a0_4) := (blk_cell BK784.out 4).trans rfl
                    have hcz39_5 : wc.cell? ⟨gb784, 5, none⟩ = some (.slice A0_5 l0_5.length c0_5) := (blk_cell BK784.out 5).trans rfl
                    have hfz39_0 := blk_frozen BK784.out 0
                    have hfz39_1 := blk_frozen BK784.out 1
                    have hfz39_2 := blk_frozen BK784.out 2
                    have hfz39_3 := blk_frozen BK784.out 3
                    have hfz39_4 := blk_frozen BK784.out 4
                    have hfz39_5 := blk_frozen BK784.out 5
                    go_wp2_with (first | ((with_reducible refine gate_callee (f := 89) rfl ?_); refine goesL_ (some 43) rfl rfl Try.func89 (by kernel_rfl) rfl #[.int .i64 a0_0] rfl (by (try simp only [List.map_toArray, List.map_cons, List.map_nil]); first | done | rfl | (simp only [List.length_drop, List.length_take]; rfl)) ?_; (with_reducible refine (impl_usesName.calls a0_0 false _ A27.out).mono ?_); rintro e w' ⟨rfl, ⟨nd, rfl⟩⟩; refine ⟨_, rfl, ?_⟩) | (go_at_call 89; (with_reducible refine (impl_usesName.calls a0_0 false _ A36.out).mono ?_); rintro e w' ⟨rfl, ⟨nd, rfl⟩⟩))
                    go_meet
                    case rel => exact ⟨_, ((a0_2.toList != ([] : List UInt8))), (by first | rfl | (simp; done) | (simp [*]; done) | (simp; exact nil_isE _) | (simp; exact (nil_isE _).symm)), H', ⟨by have := HJ2.out; have := HJ11.out; first | omega | exact Nat.le_refl _⟩, ⟨by (with_reducible repeat (first | refine blk_drewN ?_ _ | refine blk_drew ?_ | refine blk_alloc ?_ _)); exact BK784.out⟩, ⟨by repeat (first | (with_reducible first | exact HB.out | apply below_alloc | apply pw_below_drewN | apply below_drew1 | refine below_set ?_ GE784.out) | exact HB.out)⟩⟩
              case rest =>
                clear HC26
                try clear c1
                try clear c2
                try clear p2
                try clear c3
                try clear c5
                try clear c5b0
                try clear c7
                try clear c7b0
                try clear c8
                try clear c11
                try clear c14
                try clear c15
                try clear c15b0
                try clear c15b1
                try clear c17
                try clear c22
                try clear c25
                try clear c28
                try clear c30
                try clear c32
                try clear c37
                try clear hcz10_0
                try clear hcz10_1
                try clear hcz10_2
                try clear hcz10_3
                try clear hcz10_4
                try clear hcz10_5
                try clear hcz18_0
                try clear hcz18_1
                try clear hcz18_2
                try clear hcz18_3
                try clear hcz18_4
                try clear hcz18_5
                try clear hcz19_0
                try clear hcz19_1
                try clear hcz19_2
                try clear hcz19_3
                try clear hcz19_4
                try clear hcz19_5
                try clear hcz20_0
                try clear hcz20_1
                try clear hcz20_2
                try clear hcz20_3
                try clear hcz20_4
                try clear hcz20_5
                try clear hcz23_0
                try clear hcz23_1
                try clear hcz23_2
                try clear hcz23_3
                try clear hcz23_4
                try clear hcz23_5
                try clear hcz24_0
                try clear hcz24_1
                try clear hcz24_2
                try clear hcz24_3
                try clear hcz24_4
                try clear hcz24_5
                try clear hcz33_0
                try clear hcz33_1
                try clear hcz33_2
                try clear hcz33_3
                try clear hcz33_4
                try clear hcz33_5
                try clear hcz34_0
                try clear hcz34_1
                try clear hcz34_2
                try clear hcz34_3
                try clear hcz34_4
                try clear hcz34_5
                try clear hcz35_0
                try clear hcz35_1
                try clear hcz35_2
                try clear hcz35_3
                try clear hcz35_4
                try clear hcz35_5
                try clear hcz38_0
                try clear hcz38_1
                try clear hcz38_2
                try clear hcz38_3
                try clear hcz38_4
                try clear hcz38_5
                try clear hcz39_0
                try clear hcz39_1
                try clear hcz39_2
                try clear hcz39_3
                try clear hcz39_4
                try clear hcz39_5
                try clear hcz6_0
                try clear hcz6_1
                try clear hcz6_2
                try clear hcz6_3
                try clear hcz6_4
                try clear hcz6_5
                try clear hcz8_0
                try clear hcz8_1
                try clear hcz8_2
                try clear hcz8_3
                try clear hcz8_4
                try clear hcz8_5
                try clear hfz10_0
                try clear hfz10_1
                try clear hfz10_2
                try clear hfz10_3
                try clear hfz10_4
                try clear hfz10_5
                try clear hfz18_0
                try clear hfz18_1
                try clear hfz18_2
                try clear hfz18_3
                try clear hfz18_4
                try clear hfz18_5
                try clear hfz19_0
                try clear hfz19_1
                try clear hfz19_2
                try clear hfz19_3
                try clear hfz19_4
                try clear hfz19_5
                try clear hfz20_0
                try clear hfz20_1
                try clear hfz20_2
                try clear hfz20_3
                try clear hfz20_4
                try clear hfz20_5
                try clear hfz23_0
                try clear hfz23_1
                try clear hfz23_2
                try clear hfz23_3
                try clear hfz23_4
                try clear hfz23_5
                try clear hfz24_0
                try clear hfz24_1
                try clear hfz24_2
                try clear hfz24_3
                try clear hfz24_4
                try clear hfz24_5
                try clear hfz33_0
                try clear hfz33_1
                try clear hfz33_2
                try clear hfz33_3
                try clear hfz33_4
                try clear hfz33_5
                try clear hfz34_0
                try clear hfz34_1
                try clear hfz34_2
                try clear hfz34_3
                try clear hfz34_4
                try clear hfz34_5
                try clear hfz35_0
                try clear hfz35_1
                try clear hfz35_2
                try clear hfz35_3
                try clear hfz35_4
                try clear hfz35_5
                try clear hfz38_0
                try clear hfz38_1
                try clear hfz38_2
                try clear hfz38_3
                try clear hfz38_4
                try clear hfz38_5
                try clear hfz39_0
                try clear hfz39_1
                try clear hfz39_2
                try clear hfz39_3
                try clear hfz39_4
                try clear hfz39_5
                try clear hfz6_0
                try clear hfz6_1
                try clear hfz6_2
                try clear hfz6_3
                try clear hfz6_4
                try clear hfz6_5
                try clear hfz8_0
                try clear hfz8_1
                try clear hfz8_2
                try clear hfz8_3
                try clear hfz8_4
                try clear hfz8_5
                try clear p2
                obtain ⟨kq, x60_25, rfl, HA, HJ25, BK784, HB⟩ := hcut
                cases kq with
                | zero => exact absurd HA.out (by simp [impl_entryOk.j2])
                | succ kj25 =>
                  have H := HA.out
                  clear HA
                  simp only [impl_entryOk.j2] at H
                  by_cases c40 : x60_25 = true
                  · subst c40
                    have H1 : (some false) = some r := by rw [if_pos rfl] at H; exact H
                    clear H
                    have H := H1
                    clear H1
                    obtain rfl := Option.some.inj H
                    go_wp2
                    go_ret
                    exact ⟨by first | rfl | (simp [errW_none, errW_some] <;> rfl) | (simp [*, errW_none, errW_some] <;> rfl), by repeat (first | (with_reducible first | exact HB.out | apply below_alloc | apply pw_below_drewN | apply below_drew1 | refine below_set ?_ GE784.out) | exact HB.out)⟩
                  · replace c40 := Bool.eq_false_iff.mpr c40
                    subst c40
                    have H1 : (if a0_0 = 1 then (impl_entryOk.j3 kj25 a1 0 0 a0_0 (a0_0 == 1) a0_0 a0_1 a0_2 a0_3 a0_4 l0_5) else (if a0_0 = 4 then (impl_entryOk.j3 kj25 a1 0 0 a0_0 (a0_0 == 4) a0_0 a0_1 a0_2 a0_3 a0_4 l0_5) else (impl_entryOk.j3 kj25 a1 0 0 a0_0 (a0_0 == 6) a0_0 a0_1 a0_2 a0_3 a0_4 l0_5))) = some r := by rw [if_neg (show ¬ (false = true) by decide)] at H; exact H
                    clear H
                    have H := H1
                    clear H1
                    have HC41 := Aside0.mk H
                    clear H
                    have hcz42_0 : wc.cell? ⟨gb784, 0, none⟩ = some (.int .i64 a0_0) := (blk_cell BK784.out 0).trans rfl
                    have hcz42_1 : wc.cell? ⟨gb784, 1, none⟩ = some (.string a0_1) := (blk_cell BK784.out 1).trans rfl
                    have hcz42_2 : wc.cell? ⟨gb784, 2, none⟩ = some (.string a0_2) := (blk_cell BK784.out 2).trans rfl
                    have hcz42_3 : wc.cell? ⟨gb784, 3, none⟩ = some (.int .i64 a0_3) := (blk_cell BK784.out 3).trans rfl
                    have hcz42_4 : wc.cell? ⟨gb784, 4, none⟩ = some (.string a0_4) := (blk_cell BK784.out 4).trans rfl
                    have hcz42_5 : wc.cell? ⟨gb784, 5, none⟩ = some (.slice A0_5 l0_5.length c0_5) := (blk_cell BK784.out 5).trans rfl
                    have hfz42_0 := blk_frozen BK784.out 0
                    have hfz42_1 := blk_frozen BK784.out 1
                    have hfz42_2 := blk_frozen BK784.out 2
                    have hfz42_3 := blk_frozen BK784.out 3
                    have hfz42_4 := blk_frozen BK784.out 4
                    have hfz42_5 := blk_frozen BK784.out 5
                    go_upto_block 0 with (fail)
                    go_cut [5, 6] (fun v5 v6 wc => ∃ (kq : Nat) (x5_40 : Int) (x6_40 : Int), v5 = .int .i64 x5_40 ∧ v6 = .int .i64 x6_40 ∧ Aside0 (impl_entryOk.j4 kq a1 x5_40 x6_40 a0_0 a0_1 a0_2 a0_3 a0_4 l0_5 = some r) ∧ Aside0 (kq ≤ kj25) ∧ Aside0 (wc.heap[gb784]? = some (.cells #[.int .i64 a0_0, .string a0_1, .string a0_2, .int .i64 a0_3, .string a0_4, (.slice A0_5 l0_5.length c0_5)] 63 (0, 0))) ∧ Aside0 (Below w.heap.size w wc))
                    case first =>
                      have H := HC41.out
                      clear HC41
                      have HC43 := Aside0.mk H
                      clear H
                      go_upto_if 63 with (fail)
                      go_cut [63] (fun v63 wc => ∃ (kq : Nat) (x63_42 : Bool), v63 = .bool x63_42 ∧ Aside0 (impl_entryOk.j3 kq a1 0 0 a0_0 x63_42 a0_0 a0_1 a0_2 a0_3 a0_4 l0_5 = some r) ∧ Aside0 (kq ≤ kj25) ∧ Aside0 (wc.heap[gb784]? = some (.cells #[.int .i64 a0_0, .string a0_1, .string a0_2, .int .i64 a0_3, .string a0_4, (.slice A0_5 l0_5.length c0_5)] 63 (0, 0))) ∧ Aside0 (Below w.heap.size w wc))
                      case first =>
                        have H := HC43.out
                        clear HC43
                        by_cases c44 : a0_0 = 1
                        · rw [if_pos c44] at H
                          have c44b0 : (a0_0 == 1) = true := beq_iff_eq.mpr c44
                          have c44b1 : (a0_0 != 1) = false := bne_eq_false_iff_eq.mpr c44
                          clear c44
                          (first | rw [c44b0] | (simp only [i64_w, i32_w]; rw [c44b0]) | skip)
                          have H' := Aside0.mk H
                          clear H
                          go_wp2
                          go_meet
                          case rel => exact ⟨_, ((a0_0 == 1)), (by first | rfl | (simp; done) | (simp [*]; done) | (simp; exact nil_isE _) | (simp; exact (nil_isE _).symm)), H', ⟨by have := HJ2.out; have := HJ11.out; have := HJ25.out; first | omega | exact Nat.le_refl _⟩, ⟨by (with_reducible repeat (first | refine blk_drewN ?_ _ | refine blk_drew ?_ | refine blk_alloc ?_ _)); exact BK784.out⟩, ⟨by repeat (first | (with_reducible first | exact HB.out | apply below_alloc | apply pw_below_drewN | apply below_drew1 | refine below_set ?_ GE784.out) | exact HB.out)⟩⟩
                        · rw [if_neg c44] at H
                          have c44b0 : (a0_0 == 1) = false := beq_eq_false_iff_ne.mpr c44
                          have c44b1 : (a0_0 != 1) = true := bne_iff_ne.mpr c44
                          (first | rw [c44b0] | (simp only [i64_w, i32_w]; rw [c44b0]) | skip)
                          by_cases c45 : a0_0 = 4
                          · rw [if_pos c45] at H
                            have c45b0 : (a0_0 == 4) = true := beq_iff_eq.mpr c45
                            have c45b1 : (a0_0 != 4) = false := bne_eq_false_iff_eq.mpr c45
                            clear c45
                            have H' := Aside0.mk H
                            clear H
                            go_wp2
                            go_meet
                            case rel => exact ⟨_, ((a0_0 == 4)), (by first | rfl | (simp; done) | (simp [*]; done) | (simp; exact nil_isE _) | (simp; exact (nil_isE _).symm)), H', ⟨by have := HJ2.out; have := HJ11.out; have := HJ25.out; first | omega | exact Nat.le_refl _⟩, ⟨by (with_reducible repeat (first | refine blk_drewN ?_ _ | refine blk_drew ?_ | refine blk_alloc ?_ _)); exact BK784.out⟩, ⟨by repeat (first | (with_reducible first | exact HB.out | apply below_alloc | apply pw_below_drewN | apply below_drew1 | refine below_set ?_ GE784.out) | exact HB.out)⟩⟩
                          · rw [if_neg c45] at H
                            have c45b0 : (a0_0 == 4) = false := beq_eq_false_iff_ne.mpr c45
                            have c45b1 : (a0_0 != 4) = true := bne_iff_ne.mpr c45
                            have H' := Aside0.mk H
                            clear H
                            go_wp2
                            go_meet
                            case rel => exact ⟨_, ((a0_0 == 6)), (by first | rfl | (simp; done) | (simp [*]; done) | (simp; exact nil_isE _) | (simp; exact (nil_isE _).symm)), H', ⟨by have := HJ2.out; have := HJ11.out; have := HJ25.out; first | omega | exact Nat.le_refl _⟩, ⟨by (with_reducible repeat (first | refine blk_drewN ?_ _ | refine blk_drew ?_ | refine blk_alloc ?_ _)); exact BK784.out⟩, ⟨by repeat (first | (with_reducible first | exact HB.out | apply below_alloc | apply pw_below_drewN | apply below_drew1 | refine below_set ?_ GE784.out) | exact HB.out)⟩⟩
                      case rest =>
                        clear HC43
                        try clear c1
                        try clear c2
                        try clear p2
                        try clear c3
                        try clear c4
                        try clear c5
                        try clear c5b0
                        try clear c7
                        try clear c7b0
                        try clear c8
                        try clear c11
                        try clear c14
                        try clear c15
                        try clear c15b0
                        try clear c15b1
                        try clear c17
                        try clear c22
                        try clear c25
                        try clear c28
                        try clear c30
                        try clear c32
                        try clear c37
                        try clear c40
                        try clear c44
                        try clear c44b0
                        try clear c44b1
                        try clear c45
                        try clear c45b0
                        try clear c45b1
                        try clear hcz10_0
                        try clear hcz10_1
                        try clear hcz10_2
                        try clear hcz10_3
                        try clear hcz10_4
                        try clear hcz10_5
                        try clear hcz18_0
                        try clear hcz18_1
                        try clear hcz18_2
                        try clear hcz18_3
                        try clear hcz18_4
                        try clear hcz18_5
                        try clear hcz19_0
                        try clear hcz19_1
                        try clear hcz19_2
                        try clear hcz19_3
                        try clear hcz19_4
                        try clear hcz19_5
                        try clear hcz20_0
                        try clear hcz20_1
                        try clear hcz20_2
                        try clear hcz20_3
                        try clear hcz20_4
                        try clear hcz20_5
                        try clear hcz23_0
                        try clear hcz23_1
                        try clear hcz23_2
                        try clear hcz23_3
                        try clear hcz23_4
                        try clear hcz23_5
                        try clear hcz24_0
                        try clear hcz24_1
                        try clear hcz24_2
                        try clear hcz24_3
                        try clear hcz24_4
                        try clear hcz24_5
                        try clear hcz33_0
                        try clear hcz33_1
                        try clear hcz33_2
                        try clear hcz33_3
                        try clear hcz33_4
                        try clear hcz33_5
                        try clear hcz34_0
                        try clear hcz34_1
                        try clear hcz34_2
                        try clear hcz34_3
                        try clear hcz34_4
                        try clear hcz34_5
                        try clear hcz35_0
                        try clear hcz35_1
                        try clear hcz35_2
                        try clear hcz35_3
                        try clear hcz35_4
                        try clear hcz35_5
                        try clear hcz38_0
                        try clear hcz38_1
                        try clear hcz38_2
                        try clear hcz38_3
                        try clear hcz38_4
                        try clear hcz38_5
                        try clear hcz39_0
                        try clear hcz39_1
                        try clear hcz39_2
                        try clear hcz39_3
                        try clear hcz39_4
                        try clear hcz39_5
                        try clear hcz42_0
                        try clear hcz42_1
                        try clear hcz42_2
                        try clear hcz42_3
                        try clear hcz42_4
                        try clear hcz42_5
                        try clear hcz6_0
                        try clear hcz6_1
                        try clear hcz6_2
                        try clear hcz6_3
                        try clear hcz6_4
                        try clear hcz6_5
                        try clear hcz8_0
                        try clear hcz8_1
                        try clear hcz8_2
                        try clear hcz8_3
                        try clear hcz8_4
                        try clear hcz8_5
                        try clear hfz10_0
                        try clear hfz10_1
                        try clear hfz10_2
                        try clear hfz10_3
                        try clear hfz10_4
                        try clear hfz10_5
                        try clear hfz18_0
                        try clear hfz18_1
                        try clear hfz18_2
                        try clear hfz18_3
                        try clear hfz18_4
                        try clear hfz18_5
                        try clear hfz19_0
                        try clear hfz19_1
                        try clear hfz19_2
                        try clear hfz19_3
                        try clear hfz19_4
                        try clear hfz19_5
                        try clear hfz20_0
                        try clear hfz20_1
                        try clear hfz20_2
                        try clear hfz20_3
                        try clear hfz20_4
                        try clear hfz20_5
                        try clear hfz23_0
                        try clear hfz23_1
                        try clear hfz23_2
                        try clear hfz23_3
                        try clear hfz23_4
                        try clear hfz23_5
                        try clear hfz24_0
                        try clear hfz24_1
                        try clear hfz24_2
                        try clear hfz24_3
                        try clear hfz24_4
                        try clear hfz24_5
                        try clear hfz33_0
                        try clear hfz33_1
                        try clear hfz33_2
                        try clear hfz33_3
                        try clear hfz33_4
                        try clear hfz33_5
                        try clear hfz34_0
                        try clear hfz34_1
                        try clear hfz34_2
                        try clear hfz34_3
                        try clear hfz34_4
                        try clear hfz34_5
                        try clear hfz35_0
                        try clear hfz35_1
                        try clear hfz35_2
                        try clear hfz35_3
                        try clear hfz35_4
                        try clear hfz35_5
                        try clear hfz38_0
                        try clear hfz38_1
                        try clear hfz38_2
                        try clear hfz38_3
                        try clear hfz38_4
                        try clear hfz38_5
                        try clear hfz39_0
                        try clear hfz39_1
                        try clear hfz39_2
                        try clear hfz39_3
                        try clear hfz39_4
                        try clear hfz39_5
                        try clear hfz42_0
                        try clear hfz42_1
                        try clear hfz42_2
                        try clear hfz42_3
                        try clear hfz42_4
                        try clear hfz42_5
                        try clear hfz6_0
                        try clear hfz6_1
                        try clear hfz6_2
                        try clear hfz6_3
                        try clear hfz6_4
                        try clear hfz6_5
                        try clear hfz8_0
                        try clear hfz8_1
                        try clear hfz8_2
                        try clear hfz8_3
                        try clear hfz8_4
                        try clear hfz8_5
                        try clear p2
                        obtain ⟨kq, x63_42, rfl, HA, HJ42, BK784, HB⟩ := hcut
                        cases kq with
                        | zero => exact absurd HA.out (by simp [impl_entryOk.j3])
                        | succ kj42 =>
                          have H := HA.out
                          clear HA
                          simp only [impl_entryOk.j3] at H
                          by_cases c46 : x63_42 = true
                          · subst c46
                            have H1 : (impl_entryOk.j4 kj42 a1 1 100000 a0_0 a0_1 a0_2 a0_3 a0_4 l0_5) = some r := by rw [if_pos rfl] at H; exact H
                            clear H
                            have H := H1
                            clear H1
                            have H' := Aside0.mk H
                            clear H
                            go_wp2
                            go_meet
                            case rel => exact ⟨_, (1), (100000), (by first | rfl | (simp; done) | (simp [*]; done) | (simp; exact nil_isE _) | (simp; exact (nil_isE _).symm)), (by first | rfl | (simp; done) | (simp [*]; done) | (simp; exact nil_isE _) | (simp; exact (nil_isE _).symm)), H', ⟨by have := HJ2.out; have := HJ11.out; have := HJ25.out; have := HJ42.out; first | omega | exact Nat.le_refl _⟩, ⟨by (with_reducible repeat (first | refine blk_drewN ?_ _ | refine blk_drew ?_ | refine blk_alloc ?_ _)); exact BK784.out⟩, ⟨by repeat (first | (with_reducible first | exact HB.out | apply below_alloc | apply pw_below_drewN | apply below_drew1 | refine below_set ?_ GE784.out) | exact HB.out)⟩⟩
                          · replace c46 := Bool.eq_false_iff.mpr c46
                            subst c46
                            have H1 : (if a0_0 = 5 then (impl_entryOk.j4 kj42 a1 1 1000000000 a0_0 a0_1 a0_2 a0_3 a0_4 l0_5) else (impl_entryOk.j4 kj42 a1 0 0 a0_0 a0_1 a0_2 a0_3 a0_4 l0_5)) = some r := by rw [if_neg (show ¬ (false = true) by decide)] at H; exact H
                            clear H
                            have H := H1
                            clear H1
                            by_cases c47 : a0_0 = 5
                            · rw [if_pos c47] at H
                              have c47b0 : (a0_0 == 5) = true := beq_iff_eq.mpr c47
                              have c47b1 : (a0_0 != 5) = false := bne_eq_false_iff_eq.mpr c47
                              clear c47
                              have H' := Aside0.mk H
                              clear H
                              go_wp2
                              go_meet
                              case rel => exact ⟨_, (1), (1000000000), (by first | rfl | (simp; done) | (simp [*]; done) | (simp; exact nil_isE _) | (simp; exact (nil_isE _).symm)), (by first | rfl | (simp; done) | (simp [*]; done) | (simp; exact nil_isE _) | (simp; exact (nil_isE _).symm)), H', ⟨by have := HJ2.out; have := HJ11.out; have := HJ25.out; have := HJ42.out; first | omega | exact Nat.le_refl _⟩, ⟨by (with_reducible repeat (first | refine blk_drewN ?_ _ | refine blk_drew ?_ | refine blk_alloc ?_ _)); exact BK784.out⟩, ⟨by repeat (first | (with_reducible first | exact HB.out | apply below_alloc | apply pw_below_drewN | apply below_drew1 | refine below_set ?_ GE784.out) | exact HB.out)⟩⟩
                            · rw [if_neg c47] at H
                              have c47b0 : (a0_0 == 5) = false := beq_eq_false_iff_ne.mpr c47
                              have c47b1 : (a0_0 != 5) = true := bne_iff_ne.mpr c47
                              have H' := Aside0.mk H
                              clear H
                              go_wp2
                              go_meet
                              case rel => exact ⟨_, (0), (0), (by first | rfl | (simp; done) | (simp [*]; done) | (simp; exact nil_isE _) | (simp; exact (nil_isE _).symm)), (by first | rfl | (simp; done) | (simp [*]; done) | (simp; exact nil_isE _) | (simp; exact (nil_isE _).symm)), H', ⟨by have := HJ2.out; have := HJ11.out; have := HJ25.out; have := HJ42.out; first | omega | exact Nat.le_refl _⟩, ⟨by (with_reducible repeat (first | refine blk_drewN ?_ _ | refine blk_drew ?_ | refine blk_alloc ?_ _)); exact BK784.out⟩, ⟨by repeat (first | (with_reducible first | exact HB.out | apply below_alloc | apply pw_below_drewN | apply below_drew1 | refine below_set ?_ GE784.out) | exact HB.out)⟩⟩
                    case rest =>
                      clear HC41
                      try clear c1
                      try clear c2
                      try clear p2
                      try clear c3
                      try clear c4
                      try clear c5
                      try clear c5b0
                      try clear c7
                      try clear c7b0
                      try clear c8
                      try clear c11
                      try clear c14
                      try clear c15
                      try clear c15b0
                      try clear c15b1
                      try clear c17
                      try clear c22
                      try clear c25
                      try clear c28
                      try clear c30
                      try clear c32
                      try clear c37
                      try clear c40
                      try clear c44
                      try clear c44b0
                      try clear c44b1
                      try clear c45
                      try clear c45b0
                      try clear c45b1
                      try clear c46
                      try clear c47
                      try clear c47b0
                      try clear c47b1
                      try clear hcz10_0
                      try clear hcz10_1
                      try clear hcz10_2
                      try clear hcz10_3
                      try clear hcz10_4
                      try clear hcz10_5
                      try clear hcz18_0
                      try clear hcz18_1
                      try clear hcz18_2
                      try clear hcz18_3
                      try clear hcz18_4
                      try clear hcz18_5
                      try clear hcz19_0
                      try clear hcz19_1
                      try clear hcz19_2
                      try clear hcz19_3
                      try clear hcz19_4
                      try clear hcz19_5
                      try clear hcz20_0
                      try clear hcz20_1
                      try clear hcz20_2
                      try clear hcz20_3
                      try clear hcz20_4
                      try clear hcz20_5
                      try clear hcz23_0
                      try clear hcz23_1
                      try clear hcz23_2
                      try clear hcz23_3
                      try clear hcz23_4
                      try clear hcz23_5
                      try clear hcz24_0
                      try clear hcz24_1
                      try clear hcz24_2
                      try clear hcz24_3
                      try clear hcz24_4
                      try clear hcz24_5
                      try clear hcz33_0
                      try clear hcz33_1
                      try clear hcz33_2
                      try clear hcz33_3
                      try clear hcz33_4
                      try clear hcz33_5
                      try clear hcz34_0
                      try clear hcz34_1
                      try clear hcz34_2
                      try clear hcz34_3
                      try clear hcz34_4
                      try clear hcz34_5
                      try clear hcz35_0
                      try clear hcz35_1
                      try clear hcz35_2
                      try clear hcz35_3
                      try clear hcz35_4
                      try clear hcz35_5
                      try clear hcz38_0
                      try clear hcz38_1
                      try clear hcz38_2
                      try clear hcz38_3
                      try clear hcz38_4
                      try clear hcz38_5
                      try clear hcz39_0
                      try clear hcz39_1
                      try clear hcz39_2
                      try clear hcz39_3
                      try clear hcz39_4
                      try clear hcz39_5
                      try clear hcz42_0
                      try clear hcz42_1
                      try clear hcz42_2
                      try clear hcz42_3
                      try clear hcz42_4
                      try clear hcz42_5
                      try clear hcz6_0
                      try clear hcz6_1
                      try clear hcz6_2
                      try clear hcz6_3
                      try clear hcz6_4
                      try clear hcz6_5
                      try clear hcz8_0
                      try clear hcz8_1
                      try clear hcz8_2
                      try clear hcz8_3
                      try clear hcz8_4
                      try clear hcz8_5
                      try clear hfz10_0
                      try clear hfz10_1
                      try clear hfz10_2
                      try clear hfz10_3
                      try clear hfz10_4
                      try clear hfz10_5
                      try clear hfz18_0
                      try clear hfz18_1
                      try clear hfz18_2
                      try clear hfz18_3
                      try clear hfz18_4
                      try clear hfz18_5
                      try clear hfz19_0
                      try clear hfz19_1
                      try clear hfz19_2
                      try clear hfz19_3
                      try clear hfz19_4
                      try clear hfz19_5
                      try clear hfz20_0
                      try clear hfz20_1
                      try clear hfz20_2
                      try clear hfz20_3
                      try clear hfz20_4
                      try clear hfz20_5
                      try clear hfz23_0
                      try clear hfz23_1
                      try clear hfz23_2
                      try clear hfz23_3
                      try clear hfz23_4
                      try clear hfz23_5
                      try clear hfz24_0
                      try clear hfz24_1
                      try clear hfz24_2
                      try clear hfz24_3
                      try clear hfz24_4
                      try clear hfz24_5
                      try clear hfz33_0
                      try clear hfz33_1
                      try clear hfz33_2
                      try clear hfz33_3
                      try clear hfz33_4
                      try clear hfz33_5
                      try clear hfz34_0
                      try clear hfz34_1
                      try clear hfz34_2
                      try clear hfz34_3
                      try clear hfz34_4
                      try clear hfz34_5
                      try clear hfz35_0
                      try clear hfz35_1
                      try clear hfz35_2
                      try clear hfz35_3
                      try clear hfz35_4
                      try clear hfz35_5
                      try clear hfz38_0
                      try clear hfz38_1
                      try clear hfz38_2
                      try clear hfz38_3
                      try clear hfz38_4
                      try clear hfz38_5
                      try clear hfz39_0
                      try clear hfz39_1
                      try clear hfz39_2
                      try clear hfz39_3
                      try clear hfz39_4
                      try clear hfz39_5
                      try clear hfz42_0
                      try clear hfz42_1
                      try clear hfz42_2
                      try clear hfz42_3
                      try clear hfz42_4
                      try clear hfz42_5
                      try clear hfz6_0
                      try clear hfz6_1
                      try clear hfz6_2
                      try clear hfz6_3
                      try clear hfz6_4
                      try clear hfz6_5
                      try clear hfz8_0
                      try clear hfz8_1
                      try clear hfz8_2
                      try clear hfz8_3
                      try clear hfz8_4
                      try clear hfz8_5
                      try clear p2
                      obtain ⟨kq, x5_40, x6_40, rfl, rfl, HA, HJ40, BK784, HB⟩ := hcut
                      cases kq with
                      | zero => exact absurd HA.out (by simp [impl_entryOk.j4])
                      | succ kj40 =>
                        have H := HA.out
                        clear HA
                        simp only [impl_entryOk.j4] at H
                        have HC48 := Aside0.mk H
                        clear H
                        go_upto_region 15 with (fail)
                        go_cut [78] (fun v78 wc => ∃ (kq : Nat) (x78_47 : Bool), v78 = .bool x78_47 ∧ Aside0 (impl_entryOk.j5 kq a1 x78_47 a0_0 a0_1 a0_2 a0_3 a0_4 l0_5 = some r) ∧ Aside0 (kq ≤ kj40) ∧ Aside0 (wc.heap[gb784]? = some (.cells #[.int .i64 a0_0, .string a0_1, .string a0_2, .int .i64 a0_3, .string a0_4, (.slice A0_5 l0_5.length c0_5)] 63 (0, 0))) ∧ Aside0 (Below w.heap.size w wc))
                        case first =>
                          have H := HC48.out
                          clear HC48
                          by_cases c49 : a0_3 < x5_40
                          · rw [if_pos c49] at H
                            have c49b0 : decide (a0_3 < x5_40) = true := decide_eq_true c49
                            clear c49
                            (first | rw [c49b0] | (simp only [i64_w, i32_w]; rw [c49b0]) | skip)
                            have H' := Aside0.mk H
                            clear H
                            have hcz50_0 : wc.cell? ⟨gb784, 0, none⟩ = some (.int .i64 a0_0) := (blk_cell BK784.out 0).trans rfl
                            have hcz50_1 : wc.cell? ⟨gb784, 1, none⟩ = some (.string a0_1) := (blk_cell BK784.out 1).trans rfl
                            have hcz50_2 : wc.cell? ⟨gb784, 2, none⟩ = some (.string a0_2) := (blk_cell BK784.out 2).trans rfl
                            have hcz50_3 : wc.cell? ⟨gb784, 3, none⟩ = some (.int .i64 a0_3) := (blk_cell BK784.out 3).trans rfl
                            have hcz50_4 : wc.cell? ⟨gb784, 4, none⟩ = some (.string a0_4) := (blk_cell BK784.out 4).trans rfl
                            have hcz50_5 : wc.cell? ⟨gb784, 5, none⟩ = some (.slice A0_5 l0_5.length c0_5) := (blk_cell BK784.out 5).trans rfl
                            have hfz50_0 := blk_frozen BK784.out 0
                            have hfz50_1 := blk_frozen BK784.out 1
                            have hfz50_2 := blk_frozen BK784.out 2
                            have hfz50_3 := blk_frozen BK784.out 3
                            have hfz50_4 := blk_frozen BK784.out 4
                            have hfz50_5 := blk_frozen BK784.out 5
                            go_wp2
                            go_meet
                            case rel => exact ⟨_, (true), (by first | rfl | (simp; done) | (simp [*]; done) | (simp; exact nil_isE _) | (simp; exact (nil_isE _).symm)), H', ⟨by have := HJ2.out; have := HJ11.out; have := HJ25.out; have := HJ40.out; first | omega | exact Nat.le_refl _⟩, ⟨by (with_reducible repeat (first | refine blk_drewN ?_ _ | refine blk_drew ?_ | refine blk_alloc ?_ _)); exact BK784.out⟩, ⟨by repeat (first | (with_reducible first | exact HB.out | apply below_alloc | apply pw_below_drewN | apply below_drew1 | refine below_set ?_ GE784.out) | exact HB.out)⟩⟩
                          · rw [if_neg c49] at H
                            have c49b0 : decide (a0_3 < x5_40) = false := decide_eq_false c49
                            clear c49
                            (first | rw [c49b0] | (simp only [i64_w, i32_w]; rw [c49b0]) | skip)
                            have H' := Aside0.mk H
                            clear H
                            have hcz51_0 : wc.cell? ⟨gb784, 0, none⟩ = some (.int .i64 a0_0) := (blk_cell BK784.out 0).trans rfl
                            have hcz51_1 : wc.cell? ⟨gb784, 1, none⟩ = some (.string a0_1) := (blk_cell BK784.out 1).trans rfl
                            have hcz51_2 : wc.cell? ⟨gb784, 2, none⟩ = some (.string a0_2) := (blk_cell BK784.out 2).trans rfl
                            have hcz51_3 : wc.cell? ⟨gb784, 3, none⟩ = some (.int .i64 a0_3) := (blk_cell BK784.out 3).trans rfl
                            have hcz51_4 : wc.cell? ⟨gb784, 4, none⟩ = some (.string a0_4) := (blk_cell BK784.out 4).trans rfl
                            have hcz51_5 : wc.cell? ⟨gb784, 5, none⟩ = some (.slice A0_5 l0_5.length c0_5) := (blk_cell BK784.out 5).trans rfl
                            have hfz51_0 := blk_frozen BK784.out 0
                            have hfz51_1 := blk_frozen BK784.out 1
                            have hfz51_2 := blk_frozen BK784.out 2
                            have hfz51_3 := blk_frozen BK784.out 3
                            have hfz51_4 := blk_frozen BK784.out 4
                            have hfz51_5 := blk_frozen BK784.out 5
                            go_wp2
                            go_meet
                            case rel => exact ⟨_, (decide (a0_3 > x6_40)), (by first | rfl | (simp; done) | (simp [*]; done) | (simp; exact nil_isE _) | (simp; exact (nil_isE _).symm)), H', ⟨by have := HJ2.out; have := HJ11.out; have := HJ25.out; have := HJ40.out; first | omega | exact Nat.le_refl _⟩, ⟨by (with_reducible repeat (first | refine blk_drewN ?_ _ | refine blk_drew ?_ | refine blk_alloc ?_ _)); exact BK784.out⟩, ⟨by repeat (first | (with_reducible first | exact HB.out | apply below_alloc | apply pw_below_drewN | apply below_drew1 | refine below_set ?_ GE784.out) | exact HB.out)⟩⟩
                        case rest =>
                          clear HC48
                          try clear c1
                          try clear c2
                          try clear p2
                          try clear c3
                          try clear c4
                          try clear c5
                          try clear c5b0
                          try clear c7
                          try clear c7b0
                          try clear c8
                          try clear c11
                          try clear c14
                          try clear c15
                          try clear c15b0
                          try clear c15b1
                          try clear c17
                          try clear c22
                          try clear c25
                          try clear c28
                          try clear c30
                          try clear c32
                          try clear c37
                          try clear c40
                          try clear c44
                          try clear c44b0
                          try clear c44b1
                          try clear c45
                          try clear c45b0
                          try clear c45b1
                          try clear c46
                          try clear c47
                          try clear c47b0
                          try clear c47b1
                          try clear c49
                          try clear c49b0
                          try clear hcz10_0
                          try clear hcz10_1
                          try clear hcz10_2
                          try clear hcz10_3
                          try clear hcz10_4
                          try clear hcz10_5
                          try clear hcz18_0
                          try clear hcz18_1
                          try clear hcz18_2
                          try clear hcz18_3
                          try clear hcz18_4
                          try clear hcz18_5
                          try clear hcz19_0
                          try clear hcz19_1
                          try clear hcz19_2
                          try clear hcz19_3
                          try clear hcz19_4
                          try clear hcz19_5
                          try clear hcz20_0
                          try clear hcz20_1
                          try clear hcz20_2
                          try clear hcz20_3
                          try clear hcz20_4
                          try clear hcz20_5
                          try clear hcz23_0
                          try clear hcz23_1
                          try clear hcz23_2
                          try clear hcz23_3
                          try clear hcz23_4
                          try clear hcz23_5
                          try clear hcz24_0
                          try clear hcz24_1
                          try clear hcz24_2
                          try clear hcz24_3
                          try clear hcz24_4
                          try clear hcz24_5
                          try clear hcz33_0
                          try clear hcz33_1
                          try clear hcz33_2
                          try clear hcz33_3
                          try clear hcz33_4
                          try clear hcz33_5
                          try clear hcz34_0
                          try clear hcz34_1
                          try clear hcz34_2
                          try clear hcz34_3
                          try clear hcz34_4
                          try clear hcz34_5
                          try clear hcz35_0
                          try clear hcz35_1
                          try clear hcz35_2
                          try clear hcz35_3
                          try clear hcz35_4
                          try clear hcz35_5
                          try clear hcz38_0
                          try clear hcz38_1
                          try clear hcz38_2
                          try clear hcz38_3
                          try clear hcz38_4
                          try clear hcz38_5
                          try clear hcz39_0
                          try clear hcz39_1
                          try clear hcz39_2
                          try clear hcz39_3
                          try clear hcz39_4
                          try clear hcz39_5
                          try clear hcz42_0
                          try clear hcz42_1
                          try clear hcz42_2
                          try clear hcz42_3
                          try clear hcz42_4
                          try clear hcz42_5
                          try clear hcz50_0
                          try clear hcz50_1
                          try clear hcz50_2
                          try clear hcz50_3
                          try clear hcz50_4
                          try clear hcz50_5
                          try clear hcz51_0
                          try clear hcz51_1
                          try clear hcz51_2
                          try clear hcz51_3
                          try clear hcz51_4
                          try clear hcz51_5
                          try clear hcz6_0
                          try clear hcz6_1
                          try clear hcz6_2
                          try clear hcz6_3
                          try clear hcz6_4
                          try clear hcz6_5
                          try clear hcz8_0
                          try clear hcz8_1
                          try clear hcz8_2
                          try clear hcz8_3
                          try clear hcz8_4
                          try clear hcz8_5
                          try clear hfz10_0
                          try clear hfz10_1
                          try clear hfz10_2
                          try clear hfz10_3
                          try clear hfz10_4
                          try clear hfz10_5
                          try clear hfz18_0
                          try clear hfz18_1
                          try clear hfz18_2
                          try clear hfz18_3
                          try clear hfz18_4
                          try clear hfz18_5
                          try clear hfz19_0
                          try clear hfz19_1
                          try clear hfz19_2
                          try clear hfz19_3
                          try clear hfz19_4
                          try clear hfz19_5
                          try clear hfz20_0
                          try clear hfz20_1
                          try clear hfz20_2
                          try clear hfz20_3
                          try clear hfz20_4
                          try clear hfz20_5
                          try clear hfz23_0
                          try clear hfz23_1
                          try clear hfz23_2
                          try clear hfz23_3
                          try clear hfz23_4
                          try clear hfz23_5
                          try clear hfz24_0
                          try clear hfz24_1
                          try clear hfz24_2
                          try clear hfz24_3
                          try clear hfz24_4
                          try clear hfz24_5
                          try clear hfz33_0
                          try clear hfz33_1
                          try clear hfz33_2
                          try clear hfz33_3
                          try clear hfz33_4
                          try clear hfz33_5
                          try clear hfz34_0
                          try clear hfz34_1
                          try clear hfz34_2
                          try clear hfz34_3
                          try clear hfz34_4
                          try clear hfz34_5
                          try clear hfz35_0
                          try clear hfz35_1
                          try clear hfz35_2
                          try clear hfz35_3
                          try clear hfz35_4
                          try clear hfz35_5
                          try clear hfz38_0
                          try clear hfz38_1
                          try clear hfz38_2
                          try clear hfz38_3
                          try clear hfz38_4
                          try clear hfz38_5
                          try clear hfz39_0
                          try clear hfz39_1
                          try clear hfz39_2
                          try clear hfz39_3
                          try clear hfz39_4
                          try clear hfz39_5
                          try clear hfz42_0
                          try clear hfz42_1
                          try clear hfz42_2
                          try clear hfz42_3
                          try clear hfz42_4
                          try clear hfz42_5
                          try clear hfz50_0
                          try clear hfz50_1
                          try clear hfz50_2
                          try clear hfz50_3
                          try clear hfz50_4
                          try clear hfz50_5
                          try clear hfz51_0
                          try clear hfz51_1
                          try clear hfz51_2
                          try clear hfz51_3
                          try clear hfz51_4
                          try clear hfz51_5
                          try clear hfz6_0
                          try clear hfz6_1
                          try clear hfz6_2
                          try clear hfz6_3
                          try clear hfz6_4
                          try clear hfz6_5
                          try clear hfz8_0
                          try clear hfz8_1
                          try clear hfz8_2
                          try clear hfz8_3
                          try clear hfz8_4
                          try clear hfz8_5
                          try clear p2
                          obtain ⟨kq, x78_47, rfl, HA, HJ47, BK784, HB⟩ := hcut
                          cases kq with
                          | zero => exact absurd HA.out (by simp [impl_entryOk.j5])
                          | succ kj47 =>
                            have H := HA.out
                            clear HA
                            simp only [impl_entryOk.j5] at H
                            by_cases c52 : x78_47 = true
                            · subst c52
                              have H1 : (some false) = some r := by rw [if_pos rfl] at H; exact H
                              clear H
                              have H := H1
                              clear H1
                              obtain rfl := Option.some.inj H
                              go_wp2
                              go_ret
                              exact ⟨by first | rfl | (simp [errW_none, errW_some] <;> rfl) | (simp [*, errW_none, errW_some] <;> rfl), by repeat (first | (with_reducible first | exact HB.out | apply below_alloc | apply pw_below_drewN | apply below_drew1 | refine below_set ?_ GE784.out) | exact HB.out)⟩
                            · replace c52 := Bool.eq_false_iff.mpr c52
                              subst c52
                              have H1 : (if a0_0 = 1 then ((impl_thingOk.f kj47 a0_4 l0_5 a1).bind fun t793 => (some t793)) else (if a0_4.toList = ([] : List UInt8) then (some ((l0_5.length : Int) == 0)) else (some false))) = some r := by rw [if_neg (show ¬ (false = true) by decide)] at H; exact H
                              clear H
                              have H := H1
                              clear H1
                              by_cases c53 : a0_0 = 1
                              · rw [if_pos c53] at H
                                have c53b0 : (a0_0 == 1) = true := beq_iff_eq.mpr c53
                                have c53b1 : (a0_0 != 1) = false := bne_eq_false_iff_eq.mpr c53
                                clear c53
                                replace H := Option.bind_eq_some_iff.mp H
                                obtain ⟨t793, A540, H⟩ := H
                                replace H : (some t793) = some r := H
                                have A54 := Aside0.mk A540
                                clear A540
                                obtain rfl := Option.some.inj H
                                have hcz55_0 : wc.cell? ⟨gb784, 0, none⟩ = some (.int .i64 a0_0) := (blk_cell BK784.out 0).trans rfl
                                have hcz55_1 : wc.cell? ⟨gb784, 1, none⟩ = some (.string a0_1) := (blk_cell BK784.out 1).trans rfl
                                have hcz55_2 : wc.cell? ⟨gb784, 2, none⟩ = some (.string a0_2) := (blk_cell BK784.out 2).trans rfl
                                have hcz55_3 : wc.cell? ⟨gb784, 3, none⟩ = some (.int .i64 a0_3) := (blk_cell BK784.out 3).trans rfl
                                have hcz55_4 : wc.cell? ⟨gb784, 4, none⟩ = some (.string a0_4) := (blk_cell BK784.out 4).trans rfl
                                have hcz55_5 : wc.cell? ⟨gb784, 5, none⟩ = some (.slice A0_5 l0_5.length c0_5) := (blk_cell BK784.out 5).trans rfl
                                have hfz55_0 := blk_frozen BK784.out 0
                                have hfz55_1 := blk_frozen BK784.out 1
                                have hfz55_2 := blk_frozen BK784.out 2
                                have hfz55_3 := blk_frozen BK784.out 3
                                have hfz55_4 := blk_frozen BK784.out 4
                                have hfz55_5 := blk_frozen BK784.out 5
                                go_wp2_with (first | ((with_reducible refine gate_callee (f := 63) rfl ?_); refine goesL_ (some 85) rfl rfl Try.func63 (by kernel_rfl) rfl #[.agg #[.string a0_4, .slice A0_5 l0_5.length c0_5], .int .i64 a1] rfl (by (try simp only [List.map_toArray, List.map_cons, List.map_nil]); first | done | rfl | (simp only [List.length_drop, List.length_take]; rfl)) ?_; (with_reducible refine (impl_thingOk.calls kj47 a0_4 _ _ l0_5 a1 t793 _ ?side1 ?side2 A54.out).mono ?_); (case side1 => repeat (first | exact (Kd.C_below HR0_5.out HB.out) | (with_reducible refine Kd.C_alloc ?_ _) | (with_reducible refine Kd.C_drewN ?_ _) | (with_reducible refine Kd.C_drew ?_))); (case side2 => exact HC0_5.out); rintro e w56 ⟨rfl, hb⟩; refine ⟨_, rfl, ?_⟩; have n0_ := Aside0.mk (blk_below (g := gb784) (o := .cells #[.int .i64 a0_0, .string a0_1, .string a0_2, .int .i64 a0_3, .string a0_4, .slice A0_5 l0_5.length c0_5] 63 (0, 0)) (by (with_reducible repeat (first | refine blk_drewN ?_ _ | refine blk_drew ?_ | refine blk_alloc ?_ _)); exact BK784.out) hb); have n1_ := Aside0.mk (below_step (by repeat (first | (with_reducible first | exact HB.out | apply below_alloc | apply pw_below_drewN | apply below_drew1 | refine below_set ?_ GE784.out) | exact HB.out)) hb); clear BK784; clear HB; have BK784 := n0_; have HB := n1_; clear n0_ n1_; (try clear hb); (try clear hb2); (try clear hk); (try clear hi)))
                                go_ret
                                exact ⟨by first | rfl | (simp [errW_none, errW_some] <;> rfl) | (simp [*, errW_none, errW_some] <;> rfl), by repeat (first | (with_reducible first | exact HB.out | apply below_alloc | apply pw_below_drewN | apply below_drew1 | refine below_set ?_ GE784.out) | exact HB.out)⟩
                              · rw [if_neg c53] at H
                                have c53b0 : (a0_0 == 1) = false := beq_eq_false_iff_ne.mpr c53
                                have c53b1 : (a0_0 != 1) = true := bne_iff_ne.mpr c53
                                by_cases c57 : a0_4.toList = ([] : List UInt8)
                                · rw [if_pos c57] at H
                                  have c57b0 : (a0_4.toList == ([] : List UInt8)) = true := beq_iff_eq.mpr c57
                                  have c57b1 : (a0_4.toList != ([] : List UInt8)) = false := bne_eq_false_iff_eq.mpr c57
                                  clear c57
                                  obtain rfl := Option.some.inj H
                                  have hcz58_0 : wc.cell? ⟨gb784, 0, none⟩ = some (.int .i64 a0_0) := (blk_cell BK784.out 0).trans rfl
                                  have hcz58_1 : wc.cell? ⟨gb784, 1, none⟩ = some (.string a0_1) := (blk_cell BK784.out 1).trans rfl
                                  have hcz58_2 : wc.cell? ⟨gb784, 2, none⟩ = some (.string a0_2) := (blk_cell BK784.out 2).trans rfl
                                  have hcz58_3 : wc.cell? ⟨gb784, 3, none⟩ = some (.int .i64 a0_3) := (blk_cell BK784.out 3).trans rfl
                                  have hcz58_4 : wc.cell? ⟨gb784, 4, none⟩ = some (.string a0_4) := (blk_cell BK784.out 4).trans rfl
                                  have hcz58_5 : wc.cell? ⟨gb784, 5, none⟩ = some (.slice A0_5 l0_5.length c0_5) := (blk_cell BK784.out 5).trans rfl
                                  have hfz58_0 := blk_frozen BK784.out 0
                                  have hfz58_1 := blk_frozen BK784.out 1
                                  have hfz58_2 := blk_frozen BK784.out 2
                                  have hfz58_3 := blk_frozen BK784.out 3
                                  have hfz58_4 := blk_frozen BK784.out 4
                                  have hfz58_5 := blk_frozen BK784.out 5
                                  go_wp2
                                  go_ret
                                  exact ⟨by first | rfl | (simp [errW_none, errW_some] <;> rfl) | (simp [*, errW_none, errW_some] <;> rfl), by repeat (first | (with_reducible first | exact HB.out | apply below_alloc | apply pw_below_drewN | apply below_drew1 | refine below_set ?_ GE784.out) | exact HB.out)⟩
                                · rw [if_neg c57] at H
                                  have c57b0 : (a0_4.toList == ([] : List UInt8)) = false := beq_eq_false_iff_ne.mpr c57
                                  have c57b1 : (a0_4.toList != ([] : List UInt8)) = true := bne_iff_ne.mpr c57
                                  obtain rfl := Option.some.inj H
                                  have hcz59_0 : wc.cell? ⟨gb784, 0, none⟩ = some (.int .i64 a0_0) := (blk_cell BK784.out 0).trans rfl
                                  have hcz59_1 : wc.cell? ⟨gb784, 1, none⟩ = some (.string a0_1) := (blk_cell BK784.out 1).trans rfl
                                  have hcz59_2 : wc.cell? ⟨gb784, 2, none⟩ = some (.string a0_2) := (blk_cell BK784.out 2).trans rfl
                                  have hcz59_3 : wc.cell? ⟨gb784, 3, none⟩ = some (.int .i64 a0_3) := (blk_cell BK784.out 3).trans rfl
                                  have hcz59_4 : wc.cell? ⟨gb784, 4, none⟩ = some (.string a0_4) := (blk_cell BK784.out 4).trans rfl
                                  have hcz59_5 : wc.cell? ⟨gb784, 5, none⟩ = some (.slice A0_5 l0_5.length c0_5) := (blk_cell BK784.out 5).trans rfl
                                  have hfz59_0 := blk_frozen BK784.out 0
                                  have hfz59_1 := blk_frozen BK784.out 1
                                  have hfz59_2 := blk_frozen BK784.out 2
                                  have hfz59_3 := blk_frozen BK784.out 3
                                  have hfz59_4 := blk_frozen BK784.out 4
                                  have hfz59_5 := blk_frozen BK784.out 5
                                  go_wp2
                                  go_ret
                                  exact ⟨by first | rfl | (simp [errW_none, errW_some] <;> rfl) | (simp [*, errW_none, errW_some] <;> rfl), by repeat (first | (with_reducible first | exact HB.out | apply below_alloc | apply pw_below_drewN | apply below_drew1 | refine below_set ?_ GE784.out) | exact HB.out)⟩

end Go.Proofs.Ytpnblgbkjbpeoaa.P

namespace Go.Proofs.Ytpnblgbkjbpeoaa.P
open Go.RowKit Go.Proofs.YtpnblgbkjbpeoaaW.PrintWords Go.Proofs.YtpnblgbkjbpeoaaW.PrintLast Go.Proofs.YtpnblgbkjbpeoaaW.PrintMore
attribute [local go_sem] max2_int min2_int max_two min_two max_three min_three max_four min_four   -- for this text's walks alone
set_option linter.unusedVariables false
set_option linter.unusedSimpArgs false

/-! ### binary_bigEndian_Uint32: function 77 -/
def binary_bigEndian_Uint32.f  (l1 : List Int) : Option (Int) := if 3 < (l1.length : Int) then (if 2 < (l1.length : Int) then (if 1 < (l1.length : Int) then (if 0 < (l1.length : Int) then (some (Go.bits .or .u32 (Go.bits .or .u32 (Go.bits .or .u32 ((rd l1 3) % 4294967296) ((((rd l1 2) % 4294967296) * 256) % 4294967296)) ((((rd l1 1) % 4294967296) * 65536) % 4294967296)) ((((rd l1 0) % 4294967296) * 16777216) % 4294967296))) else (none)) else (none)) else (none)) else (none)
set_option maxHeartbeats 8000000 in
set_option maxRecDepth 100000 in
theorem binary_bigEndian_Uint32.calls  (A1 : Option Addr) (c1 : Nat) (l1 : List Int) (r : Int) (w : World) (hr1 : Kd.C (Kd.int .u8) w A1 l1.length l1) (hc1 : l1.length ≤ c1) (h : binary_bigEndian_Uint32.f l1 = some r) :
    Calls Try.prog 77 #[.agg #[], .slice A1 l1.length c1] w fun e w' => e = .returned (.int .u32 r) ∧ Below w.heap.size w w' := by
  have hu92 := Try.underlying92
  have HR1 := Aside0.mk hr1
  have HC1 := Aside0.mk hc1
  clear hr1 hc1
  have HB := Aside0.mk (Below.refl w.heap.size w)
  have H : (if 3 < (l1.length : Int) then (if 2 < (l1.length : Int) then (if 1 < (l1.length : Int) then (if 0 < (l1.length : Int) then (some (Go.bits .or .u32 (Go.bits .or .u32 (Go.bits .or .u32 ((rd l1 3) % 4294967296) ((((rd l1 2) % 4294967296) * 256) % 4294967296)) ((((rd l1 1) % 4294967296) * 65536) % 4294967296)) ((((rd l1 0) % 4294967296) * 16777216) % 4294967296))) else (none)) else (none)) else (none)) else (none)) = some r := h
  clear h
  by_cases c3 : 3 < (l1.length : Int)
  · rw [if_pos c3] at H
    have c3b0 : decide (3 < (l1.length : Int)) = true := decide_eq_true c3
    have c3b1 : decide (3 < l1.length) = true := decide_eq_true (by omega)
    clear c3
    by_cases c4 : 2 < (l1.length : Int)
    · rw [if_pos c4] at H
      have c4b0 : decide (2 < (l1.length : Int)) = true := decide_eq_true c4
      have c4b1 : decide (2 < l1.length) = true := decide_eq_true (by omega)
      clear c4
      by_cases c5 : 1 < (l1.length : Int)
      · rw [if_pos c5] at H
        have c5b0 : decide (1 < (l1.length : Int)) = true := decide_eq_true c5
        have c5b1 : decide (1 < l1.length) = true := decide_eq_true (by omega)
        clear c5
        by_cases c6 : 0 < (l1.length : Int)
        · rw [if_pos c6] at H
          have c6b0 : decide (0 < (l1.length : Int)) = true := decide_eq_true c6
          have c6b1 : decide (0 < l1.length) = true := decide_eq_true (by omega)
          clear c6
          obtain rfl := Option.some.inj H
          go_enter Try.func77, Try.ntmps77
          go_wp2_with (first | ((with_reducible refine gate_dst (N := 2) rfl ?_); refine box_event ?hg (N := 2) ?hd (cs := #[]) (t := 92) ?hr ?_; (case hd => rfl); (case hg => rfl); (case hr => first | (go_simp; done) | (go_simp; rfl)); intro gb856 hg w7 hbox hb; have n0_ := Aside0.mk (below_step (by repeat (first | (with_reducible first | exact HB.out | apply below_alloc | apply pw_below_drewN | apply below_drew1) | exact HB.out)) hb); have n1_ := Aside0.mk (hbox); have n2_ := Aside0.mk ((by rw [hg]; exact (below_size (by repeat (first | (with_reducible first | exact HB.out | apply below_alloc | apply pw_below_drewN | apply below_drew1) | exact HB.out))) : w.heap.size ≤ gb856)); have n3_ := Aside0.mk ((by rw [hg]; exact (below_size (by repeat (first | (with_reducible first | exact HB.out | apply below_alloc | apply pw_below_drewN | apply below_drew1) | exact HB.out))) : w.heap.size ≤ gb856)); clear HB; have HB := n0_; have BK856 := n1_; have GW856 := n2_; have GE856 := n3_; clear n0_ n1_ n2_ n3_; clear hb hbox hg; have p857 : 0 ≤ (3 : Int) := (by omega); have q857 : 3 < (l1.length : Int) := of_decide_eq_true (by first | (with_reducible assumption) | assumption); obtain ⟨ad857, e857, hx857_0⟩ := Kd.at_int HR1.out 3 p857 q857; cases e857; (try simp only [show (3 : Int).toNat = 3 from rfl, Nat.reduceMul, Nat.reduceEqDiff, Go.Addr.add, ↓reduceIte] at hx857_0); have qi857 : (3 < l1.length) = True := eq_true (by omega); (try rw [show ((3 : Int)).toNat = 3 from rfl] at hx857_0); replace hx857_0 := (HB.out.cell (World.block_lt_of_cell? w _ hx857_0)).trans hx857_0; replace p857 := eq_true p857; replace q857 := eq_true q857; have p858 : 0 ≤ (3 : Int) := (by omega); have q858 : 3 < (l1.length : Int) := of_decide_eq_true (by first | (with_reducible assumption) | assumption); obtain ⟨ad858, e858, hx858_0⟩ := Kd.at_int HR1.out 3 p858 q858; obtain rfl : ad857 = ad858 := (by injection e858); (try simp only [show (3 : Int).toNat = 3 from rfl, Nat.reduceMul, Nat.reduceEqDiff, Go.Addr.add, ↓reduceIte] at hx858_0); have qi858 : (3 < l1.length) = True := eq_true (by omega); (try rw [show ((3 : Int)).toNat = 3 from rfl] at hx858_0); replace hx858_0 := (HB.out.cell (World.block_lt_of_cell? w _ hx858_0)).trans hx858_0; replace p858 := eq_true p858; replace q858 := eq_true q858; have p859 : 0 ≤ (2 : Int) := (by omega); have q859 : 2 < (l1.length : Int) := of_decide_eq_true (by first | (with_reducible assumption) | assumption); obtain ⟨ad859, e859, hx859_0⟩ := Kd.at_int HR1.out 2 p859 q859; obtain rfl : ad857 = ad859 := (by injection e859); (try simp only [show (2 : Int).toNat = 2 from rfl, Nat.reduceMul, Nat.reduceEqDiff, Go.Addr.add, ↓reduceIte] at hx859_0); have qi859 : (2 < l1.length) = True := eq_true (by omega); (try rw [show ((2 : Int)).toNat = 2 from rfl] at hx859_0); replace hx859_0 := (HB.out.cell (World.block_lt_of_cell? w _ hx859_0)).trans hx859_0; replace p859 := eq_true p859; replace q859 := eq_true q859; have p860 : 0 ≤ (1 : Int) := (by omega); have q860 : 1 < (l1.length : Int) := of_decide_eq_true (by first | (with_reducible assumption) | assumption); obtain ⟨ad860, e860, hx860_0⟩ := Kd.at_int HR1.out 1 p860 q860; obtain rfl : ad857 = ad860 := (by injection e860); (try simp only [show (1 : Int).toNat = 1 from rfl, Nat.reduceMul, Nat.reduceEqDiff, Go.Addr.add, ↓reduceIte] at hx860_0); have qi860 : (1 < l1.length) = True := eq_true (by omega); (try rw [show ((1 : Int)).toNat = 1 from rfl] at hx860_0); replace hx860_0 := (HB.out.cell (World.block_lt_of_cell? w _ hx860_0)).trans hx860_0; replace p860 := eq_true p860; replace q860 := eq_true q860; have p861 : 0 ≤ (0 : Int) := (by omega); have q861 : 0 < (l1.length : Int) := of_decide_eq_true (by first | (with_reducible assumption) | assumption); obtain ⟨ad861, e861, hx861_0⟩ := Kd.at_int HR1.out 0 p861 q861; obtain rfl : ad857 = ad861 := (by injection e861); have qi861 : (0 < l1.length) = True := eq_true (by omega); (try rw [show ((0 : Int)).toNat = 0 from rfl] at hx861_0); (try rw [Addr.add_zero'] at hx861_0); replace hx861_0 := (HB.out.cell (World.block_lt_of_cell? w _ hx861_0)).trans hx861_0; replace p861 := eq_true p861; replace q861 := eq_true q861))
          repeat (go_quiet (first | ((with_reducible refine gate_dst (N := 2) rfl ?_); refine box_event ?hg (N := 2) ?hd (cs := #[]) (t := 92) ?hr ?_; (case hd => rfl); (case hg => rfl); (case hr => first | (go_simp; done) | (go_simp; rfl)); intro gb856 hg w7 hbox hb; have n0_ := Aside0.mk (below_step (by repeat (first | (with_reducible first | exact HB.out | apply below_alloc | apply pw_below_drewN | apply below_drew1) | exact HB.out)) hb); have n1_ := Aside0.mk (hbox); have n2_ := Aside0.mk ((by rw [hg]; exact (below_size (by repeat (first | (with_reducible first | exact HB.out | apply below_alloc | apply pw_below_drewN | apply below_drew1) | exact HB.out))) : w.heap.size ≤ gb856)); have n3_ := Aside0.mk ((by rw [hg]; exact (below_size (by repeat (first | (with_reducible first | exact HB.out | apply below_alloc | apply pw_below_drewN | apply below_drew1) | exact HB.out))) : w.heap.size ≤ gb856)); clear HB; have HB := n0_; have BK856 := n1_; have GW856 := n2_; have GE856 := n3_; clear n0_ n1_ n2_ n3_; clear hb hbox hg; have p857 : 0 ≤ (3 : Int) := (by omega); have q857 : 3 < (l1.length : Int) := of_decide_eq_true (by first | (with_reducible assumption) | assumption); obtain ⟨ad857, e857, hx857_0⟩ := Kd.at_int HR1.out 3 p857 q857; cases e857; (try simp only [show (3 : Int).toNat = 3 from rfl, Nat.reduceMul, Nat.reduceEqDiff, Go.Addr.add, ↓reduceIte] at hx857_0); have qi857 : (3 < l1.length) = True := eq_true (by omega); (try rw [show ((3 : Int)).toNat = 3 from rfl] at hx857_0); replace hx857_0 := (HB.out.cell (World.block_lt_of_cell? w _ hx857_0)).trans hx857_0; replace p857 := eq_true p857; replace q857 := eq_true q857; have p858 : 0 ≤ (3 : Int) := (by omega); have q858 : 3 < (l1.length : Int) := of_decide_eq_true (by first | (with_reducible assumption) | assumption); obtain ⟨ad858, e858, hx858_0⟩ := Kd.at_int HR1.out 3 p858 q858; obtain rfl : ad857 = ad858 := (by injection e858); (try simp only [show (3 : Int).toNat = 3 from rfl, Nat.reduceMul, Nat.reduceEqDiff, Go.Addr.add, ↓reduceIte] at hx858_0); have qi858 : (3 < l1.length) = True := eq_true (by omega); (try rw [show ((3 : Int)).toNat = 3 from rfl] at hx858_0); replace hx858_0 := (HB.out.cell (World.block_lt_of_cell? w _ hx858_0)).trans hx858_0; replace p858 := eq_true p858; replace q858 := eq_true q858; have p859 : 0 ≤ (2 : Int) := (by omega); have q859 : 2 < (l1.length : Int) := of_decide_eq_true (by first | (with_reducible assumption) | assumption); obtain ⟨ad859, e859, hx859_0⟩ := Kd.at_int HR1.out 2 p859 q859; obtain rfl : ad857 = ad859 := (by injection e859); (try simp only [show (2 : Int).toNat = 2 from rfl, Nat.reduceMul, Nat.reduceEqDiff, Go.Addr.add, ↓reduceIte] at hx859_0); have qi859 : (2 < l1.length) = True := eq_true (by omega); (try rw [show ((2 : Int)).toNat = 2 from rfl] at hx859_0); replace hx859_0 := (HB.out.cell (World.block_lt_of_cell? w _ hx859_0)).trans hx859_0; replace p859 := eq_true p859; replace q859 := eq_true q859; have p860 : 0 ≤ (1 : Int) := (by omega); have q860 : 1 < (l1.length : Int) := of_decide_eq_true (by first | (with_reducible assumption) | assumption); obtain ⟨ad860, e860, hx860_0⟩ := Kd.at_int HR1.out 1 p860 q860; obtain rfl : ad857 = ad860 := (by injection e860); (try simp only [show (1 : Int).toNat = 1 from rfl, Nat.reduceMul, Nat.reduceEqDiff, Go.Addr.add, ↓reduceIte] at hx860_0); have qi860 : (1 < l1.length) = True := eq_true (by omega); (try rw [show ((1 : Int)).toNat = 1 from rfl] at hx860_0); replace hx860_0 := (HB.out.cell (World.block_lt_of_cell? w _ hx860_0)).trans hx860_0; replace p860 := eq_true p860; replace q860 := eq_true q860; have p861 : 0 ≤ (0 : Int) := (by omega); have q861 : 0 < (l1.length : Int) := of_decide_eq_true (by first | (with_reducible assumption) | assumption); obtain ⟨ad861, e861, hx861_0⟩ := Kd.at_int HR1.out 0 p861 q861; obtain rfl : ad857 = ad861 := (by injection e861); have qi861 : (0 < l1.length) = True := eq_true (by omega); (try rw [show ((0 : Int)).toNat = 0 from rfl] at hx861_0); (try rw [Addr.add_zero'] at hx861_0); replace hx861_0 := (HB.out.cell (World.block_lt_of_cell? w _ hx861_0)).trans hx861_0; replace p861 := eq_true p861; replace q861 := eq_true q861)); try go_wp2_with (first | ((with_reducible refine gate_dst (N := 2) rfl ?_); refine box_event ?hg (N := 2) ?hd (cs := #[]) (t := 92) ?hr ?_; (case hd => rfl); (case hg => rfl); (case hr => first | (go_simp; done) | (go_simp; rfl)); intro gb856 hg w7 hbox hb; have n0_ := Aside0.mk (below_step (by repeat (first | (with_reducible first | exact HB.out | apply below_alloc | apply pw_below_drewN | apply below_drew1) | exact HB.out)) hb); have n1_ := Aside0.mk (hbox); have n2_ := Aside0.mk ((by rw [hg]; exact (below_size (by repeat (first | (with_reducible first | exact HB.out | apply below_alloc | apply pw_below_drewN | apply below_drew1) | exact HB.out))) : w.heap.size ≤ gb856)); have n3_ := Aside0.mk ((by rw [hg]; exact (below_size (by repeat (first | (with_reducible first | exact HB.out | apply below_alloc | apply pw_below_drewN | apply below_drew1) | exact HB.out))) : w.heap.size ≤ gb856)); clear HB; have HB := n0_; have BK856 := n1_; have GW856 := n2_; have GE856 := n3_; clear n0_ n1_ n2_ n3_; clear hb hbox hg; have p857 : 0 ≤ (3 : Int) := (by omega); have q857 : 3 < (l1.length : Int) := of_decide_eq_true (by first | (with_reducible assumption) | assumption); obtain ⟨ad857, e857, hx857_0⟩ := Kd.at_int HR1.out 3 p857 q857; cases e857; (try simp only [show (3 : Int).toNat = 3 from rfl, Nat.reduceMul, Nat.reduceEqDiff, Go.Addr.add, ↓reduceIte] at hx857_0); have qi857 : (3 < l1.length) = True := eq_true (by omega); (try rw [show ((3 : Int)).toNat = 3 from rfl] at hx857_0); replace hx857_0 := (HB.out.cell (World.block_lt_of_cell? w _ hx857_0)).trans hx857_0; replace p857 := eq_true p857; replace q857 := eq_true q857; have p858 : 0 ≤ (3 : Int) := (by omega); have q858 : 3 < (l1.length : Int) := of_decide_eq_true (by first | (with_reducible assumption) | assumption); obtain ⟨ad858, e858, hx858_0⟩ := Kd.at_int HR1.out 3 p858 q858; obtain rfl : ad857 = ad858 := (by injection e858); (try simp only [show (3 : Int).toNat = 3 from rfl, Nat.reduceMul, Nat.reduceEqDiff, Go.Addr.add, ↓reduceIte] at hx858_0); have qi858 : (3 < l1.length) = True := eq_true (by omega); (try rw [show ((3 : Int)).toNat = 3 from rfl] at hx858_0); replace hx858_0 := (HB.out.cell (World.block_lt_of_cell? w _ hx858_0)).trans hx858_0; replace p858 := eq_true p858; replace q858 := eq_true q858; have p859 : 0 ≤ (2 : Int) := (by omega); have q859 : 2 < (l1.length : Int) := of_decide_eq_true (by first | (with_reducible assumption) | assumption); obtain ⟨ad859, e859, hx859_0⟩ := Kd.at_int HR1.out 2 p859 q859; obtain rfl : ad857 = ad859 := (by injection e859); (try simp only [show (2 : Int).toNat = 2 from rfl, Nat.reduceMul, Nat.reduceEqDiff, Go.Addr.add, ↓reduceIte] at hx859_0); have qi859 : (2 < l1.length) = True := eq_true (by omega); (try rw [show ((2 : Int)).toNat = 2 from rfl] at hx859_0); replace hx859_0 := (HB.out.cell (World.block_lt_of_cell? w _ hx859_0)).trans hx859_0; replace p859 := eq_true p859; replace q859 := eq_true q859; have p860 : 0 ≤ (1 : Int) := (by omega); have q860 : 1 < (l1.length : Int) := of_decide_eq_true (by first | (with_reducible assumption) | assumption); obtain ⟨ad860, e860, hx860_0⟩ := Kd.at_int HR1.out 1 p860 q860; obtain rfl : ad857 = ad860 := (by injection e860); (try simp only [show (1 : Int).toNat = 1 from rfl, Nat.reduceMul, Nat.reduceEqDiff, Go.Addr.add, ↓reduceIte] at hx860_0); have qi860 : (1 < l1.length) = True := eq_true (by omega); (try rw [show ((1 : Int)).toNat = 1 from rfl] at hx860_0); replace hx860_0 := (HB.out.cell (World.block_lt_of_cell? w _ hx860_0)).trans hx860_0; replace p860 := eq_true p860; replace q860 := eq_true q860; have p861 : 0 ≤ (0 : Int) := (by omega); have q861 : 0 < (l1.length : Int) := of_decide_eq_true (by first | (with_reducible assumption) | assumption); obtain ⟨ad861, e861, hx861_0⟩ := Kd.at_int HR1.out 0 p861 q861; obtain rfl : ad857 = ad861 := (by injection e861); have qi861 : (0 < l1.length) = True := eq_true (by omega); (try rw [show ((0 : Int)).toNat = 0 from rfl] at hx861_0); (try rw [Addr.add_zero'] at hx861_0); replace hx861_0 := (HB.out.cell (World.block_lt_of_cell? w _ hx861_0)).trans hx861_0; replace p861 := eq_true p861; replace q861 := eq_true q861)))
          go_ret
          exact ⟨by first | rfl | (simp [errW_none, errW_some] <;> rfl) | (simp [*, errW_none, errW_some] <;> rfl), by repeat (first | (with_reducible first | exact HB.out | apply below_alloc | apply pw_below_drewN | apply below_drew1 | refine below_set ?_ GE856.out) | exact HB.out)⟩
        · rw [if_neg c6] at H
          exact absurd H (by simp)
      · rw [if_neg c5] at H
        exact absurd H (by simp)
    · rw [if_neg c4] at H
      exact absurd H (by simp)
  · rw [if_neg c3] at H
    exact absurd H (by simp)

end Go.Proofs.Ytpnblgbkjbpeoaa.P
