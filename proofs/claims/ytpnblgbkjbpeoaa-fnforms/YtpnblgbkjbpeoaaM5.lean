/- Part 5 of the proof of FnForms: what it leans on. -/
import Derived.Test.YtpnblgbkjbpeoaaM1
import Derived.Test.YtpnblgbkjbpeoaaM2
import Derived.Test.YtpnblgbkjbpeoaaM3
import Derived.Test.YtpnblgbkjbpeoaaM4

namespace Go.Proofs.Ytpnblgbkjbpeoaa.P
open Go.RowKit Go.Proofs.YtpnblgbkjbpeoaaW.PrintWords Go.Proofs.YtpnblgbkjbpeoaaW.PrintLast Go.Proofs.YtpnblgbkjbpeoaaW.PrintMore
attribute [local go_sem] max2_int min2_int max_two min_two max_three min_three max_four min_four   -- for this text's walks alone
set_option linter.unusedVariables false
set_option linter.unusedSimpArgs false
/-! ### spec_l1SpoilThing: function 80 -/
mutual
def spec_l1SpoilThing.j0 : Nat → Int → List Int → Int → ByteArray → List ByteArray → Option (ByteArray × List ByteArray × Int)
 | 0, _, _, _, _, _ => none
 | k + 1, x11, x1000, x1001, x979000, x979001 => if x11 = 0 then ((spec_l1Rd_pick.f k x1000 x1001 2).bind fun bt981 => ((spec_l1Many.f k (⟨#[116]⟩ : ByteArray) (wrap64 (2000 + bt981.1))).bind fun t983 => (some (t983, x979001, bt981.2)))) else (if x11 = 1 then (if x979001.length < 8796093022208 then (some (x979000, (x979001 ++ [(⟨#[120]⟩ : ByteArray)]), x1001)) else (none)) else (if x11 = 2 then (if (x979001.length : Int) > 0 then (if 0 < (x979001.length : Int) then (if x979001.length < 8796093022208 then (some (x979000, (x979001 ++ [rdOf ByteArray.empty x979001 0]), x1001)) else (none)) else (none)) else (some (x979000, x979001, x1001))) else (if x11 = 3 then ((spec_l1Rd_pick.f k x1000 x1001 2).bind fun bt994 => (spec_l1SpoilThing.l0 k (wrap64 (30 + bt994.1)) 0 x1000 bt994.2 x979000 (([] : List ByteArray)))) else (if x979000.size + 1 ≤ 9223372036854775807 then (some (x979000 ++ (⟨#[122]⟩ : ByteArray), x979001, x1001)) else (none)))))
def spec_l1SpoilThing.l0 : Nat → Int → Int → List Int → Int → ByteArray → List ByteArray → Option (ByteArray × List ByteArray × Int)
 | 0, _, _, _, _, _, _ => none
 | k + 1, x6, x7, x1000, x1001, x979000, x979001 => if x7 < x6 then (if x979001.length < 8796093022208 then (spec_l1SpoilThing.l0 k x6 (wrap64 (x7 + 1)) x1000 x1001 x979000 (x979001 ++ [strOfNums (([(wrap64 (33 + x7)) % 256] : List Int))])) else (none)) else (some (x979000, x979001, x1001))
end
def spec_l1SpoilThing.f (k : Nat) (s0_0 : List Int) (s0_1 : Int) (a1_0 : ByteArray) (l1_1 : List ByteArray) : Option (ByteArray × List ByteArray × Int) := (spec_l1Thing.f a1_0 l1_1).bind fun bt974 => ((spec_l1Rd_pick.f k s0_0 s0_1 5).bind fun bt979 => (spec_l1SpoilThing.j0 k bt979.1 s0_0 bt979.2 bt974.1 bt974.2))
def spec_l1SpoilThing.T10 : Bool × List (List Nat × List Nat) := (true, [([], []), ([0], [0]), ([], []), ([2], [2]), ([3], [3]), ([4], [4]), ([5], [5]), ([1, 6], [1, 6]), ([0, 1, 2, 3, 4, 5, 6, 7], []), ([8, 7, 7, 0, 1, 2, 3, 4, 5, 6, 7], [7, 8])])
def spec_l1SpoilThing.B10 : List Nat := [0, 1, 0, 4, 12, 28, 60, 127, 255, 511]
theorem spec_l1SpoilThing.tab10 : rtab .any (opsOf Try.f80 10) = spec_l1SpoilThing.T10 := by kernel_rfl
theorem spec_l1SpoilThing.bits10 : waitsOk spec_l1SpoilThing.T10.2 spec_l1SpoilThing.B10 = true := by kernel_rfl
set_option maxHeartbeats 8000000 in
set_option maxRecDepth 100000 in
theorem spec_l1SpoilThing.calls (k : Nat) (g : Nat) (s0_0 : List Int) (s0_1 : Int) (a1_0 : ByteArray) (A1_1 : Option Addr) (c1_1 : Nat) (l1_1 : List ByteArray) (r1 : ByteArray) (r2 : List ByteArray) (r3 : Int) (w0 w : World) (hI : IsS104 w0 w g s0_0 s0_1) (hB : Below w0.heap.size w0 w) (hr1_1 : Kd.C Kd.string w A1_1 l1_1.length l1_1) (hc1_1 : l1_1.length ≤ c1_1) (hf1_1 : ∀ ad, A1_1 = some ad → 0 < l1_1.length → ad.block ≠ g) (h : spec_l1SpoilThing.f k s0_0 s0_1 a1_0 l1_1 = some (r1, r2, r3)) :
  Calls Try.prog 80 #[.pointer (some ⟨g, 0, none⟩), .agg #[.string a1_0, .slice A1_1 l1_1.length c1_1]] w fun e w' => ∃ v1_ : Value, e = .returned (.agg #[.string r1, v1_]) ∧ Kd.R Kd.string 9 w' w.heap.size (fun _ => True) v1_ r2 ∧ IsS104 w0 w' g s0_0 r3 ∧ Below w0.heap.size w0 w' ∧ KeepBut w w' g none := by
 have hu38 := Try.underlying38
 have HR1_1 := Aside0.mk hr1_1
 have HC1_1 := Aside0.mk hc1_1
 clear hr1_1 hc1_1
 have HI0 := Aside0.mk hI
 have HK := am__ (KeepBut.refl w g none)
 have HL := Aside0.mk hB.size
 clear hI
 have HW0 := Aside0.mk hB.size
 have HB := Aside0.mk hB
 clear hB
 have H : ((spec_l1Thing.f a1_0 l1_1).bind fun bt974 => ((spec_l1Rd_pick.f k s0_0 s0_1 5).bind fun bt979 => (spec_l1SpoilThing.j0 k bt979.1 s0_0 bt979.2 bt974.1 bt974.2))) = some (r1, r2, r3) := h
 clear h
 replace H := Option.bind_eq_some_iff.mp H
 obtain ⟨⟨t974, t975⟩, A30, H⟩ := H
 replace H : ((spec_l1Rd_pick.f k s0_0 s0_1 5).bind fun bt979 => (spec_l1SpoilThing.j0 k bt979.1 s0_0 bt979.2 t974 t975)) = some (r1, r2, r3) := H
 have A3 := Aside0.mk A30
 clear A30
 have HC4 := Aside0.mk H
 clear H
 go_enter Try.func80, Try.ntmps80
 go_upto_region 2 with (first | ((with_reducible refine gate_dst (N := 3) rfl ?_); refine be__ 3 #[.string a1_0, .slice A1_1 l1_1.length c1_1] 38 ?_; intro gb972 hg w5 hbox hb; replace HB := am__ (below_step (b0_l__) hb); have BK972 := am__ (hbox); have GW972 := am__ ((by rw [hg]; exact (keep_size (w := w) (g := g) (row := none) (kee__)) : w.heap.size ≤ gb972)); have GE972 := am__ ((Nat.le_trans HW0.out (by rw [hg]; exact (keep_size (w := w) (g := g) (row := none) (kee__)) : w.heap.size ≤ gb972) : w0.heap.size ≤ gb972)); replace HK := am__ (KeepBut.trans (kee__) (KeepBut.of_below hb g none) (.inl rfl)); have NB0_972 := am__ ((nlt__ hg (IsS104.lt (show IsS104 w0 _ g s0_0 s0_1 from hhi0__iss104)) : g ≠ gb972)); have NB972_0 := am__ ((ngt__ hg (IsS104.lt (show IsS104 w0 _ g s0_0 s0_1 from hhi0__iss104)) : gb972 ≠ g)); replace HI0 := am__ (IsS104.below (hhi0__iss104) hb); clear hb hbox hg) | ((with_reducible refine gate_dst (N := 4) rfl ?_); refine be__ 4 #[.string (⟨#[]⟩ : ByteArray), .slice none 0 0] 38 ?_; intro gb973 hg w6 hbox hb; replace HB := am__ (below_step (b0_l__) hb); have BK973 := am__ (hbox); have GW973 := am__ ((by rw [hg]; exact (keep_size (w := w) (g := g) (row := none) (kef__)) : w.heap.size ≤ gb973)); have GE973 := am__ ((Nat.le_trans HW0.out (by rw [hg]; exact (keep_size (w := w) (g := g) (row := none) (kef__)) : w.heap.size ≤ gb973) : w0.heap.size ≤ gb973)); replace HK := am__ (KeepBut.trans (w := w) (kef__) (KeepBut.of_below hb g none) (.inl rfl)); have NB972_973 := am__ ((nl__ hg BK972.out : gb972 ≠ gb973)); have NB973_972 := am__ ((ng__ hg BK972.out : gb973 ≠ gb972)); replace BK972 := am__ (blb__ BK972.out hb); have NB0_973 := am__ ((nlt__ hg (IsS104.lt (show IsS104 w0 _ g s0_0 s0_1 from hhi0__iss104)) : g ≠ gb973)); have NB973_0 := am__ ((ngt__ hg (IsS104.lt (show IsS104 w0 _ g s0_0 s0_1 from hhi0__iss104)) : gb973 ≠ g)); replace HI0 := am__ (IsS104.below (hhi0__iss104) hb); clear hb hbox hg; have hnb7 := NB972_973.out; have hnc7 := NB973_972.out; have hnb8 := NB972_0.out; have hnc8 := NB0_972.out; obtain ⟨hcz9_0, hcz9_1, hfz9_0, hfz9_1⟩ := bk2__ BK972.out) | ((with_reducible refine gate_callee (f := 92) rfl ?_); refine gl__ (some 9) Try.func92 #[.agg #[.string a1_0, .slice A1_1 l1_1.length c1_1]] ?_; (with_reducible refine (spec_l1Thing.calls a1_0 _ _ l1_1 t974 t975 _ ?side1 HC1_1.out A3.out).mono ?_); (case side1 => exact Kd.C_keep (⟨#[]⟩ : ByteArray) HR1_1.out (by repeat (first | (with_reducible first | exact HK.out | apply KeepBut.set_ | apply keep_drewN | apply keep_drew | apply keep_alloc | refine keep_far ?_ GW972.out _ | refine keep_far ?_ GW973.out _) | exact HK.out)) hf1_1); rintro e w10 ⟨v976, rfl, ho0, hb⟩; refine ⟨_, rfl, ?_⟩; have HO977 := am__ (Kd.R_lower ho0 (keep_size (w := w) (g := g) (row := none) (kef__))); replace BK972 := am__ (blb__ BK972.out hb); replace BK973 := am__ (blb__ BK973.out hb); replace HK := am__ (KeepBut.trans (w := w) (kef__) (KeepBut.of_below hb g none) (.inl rfl)); replace HB := am__ (below_step (b0_l__) hb); replace HI0 := am__ (IsS104.below (hhi0__iss104) hb); clear hb; (try clear ho0)) | ((with_reducible refine gate_dst (N := 5) rfl ?_); refine be__ 5 #[.string (⟨#[]⟩ : ByteArray), .slice none 0 0] 38 ?_; intro gb978 hg w11 hbox hb; replace HO977 := am__ (Kd.R_below (rr__ HO977.out) hb); replace HB := am__ (below_step (b0_l__) hb); have BK978 := am__ (hbox); have GW978 := am__ ((by rw [hg]; exact (keep_size (w := w) (g := g) (row := none) (kef__)) : w.heap.size ≤ gb978)); have GE978 := am__ ((Nat.le_trans HW0.out (by rw [hg]; exact (keep_size (w := w) (g := g) (row := none) (kef__)) : w.heap.size ≤ gb978) : w0.heap.size ≤ gb978)); replace HK := am__ (KeepBut.trans (w := w) (kef__) (KeepBut.of_below hb g none) (.inl rfl)); have NB972_978 := am__ ((nl__ hg BK972.out : gb972 ≠ gb978)); have NB978_972 := am__ ((ng__ hg BK972.out : gb978 ≠ gb972)); replace BK972 := am__ (blb__ BK972.out hb); have NB973_978 := am__ ((nlt__ hg (blk_lt (g := gb973) (o := .cells #[.string (⟨#[]⟩ : ByteArray), .slice none 0 0] 38 (0, 0)) (blk__ BK973.out)) : gb973 ≠ gb978)); have NB978_973 := am__ ((ngt__ hg (blk_lt (g := gb973) (o := .cells #[.string (⟨#[]⟩ : ByteArray), .slice none 0 0] 38 (0, 0)) (blk__ BK973.out)) : gb978 ≠ gb973)); replace BK973 := am__ (blb__ BK973.out hb); have NB0_978 := am__ ((nlt__ hg (IsS104.lt (show IsS104 w0 _ g s0_0 s0_1 from hhi0__iss104)) : g ≠ gb978)); have NB978_0 := am__ ((ngt__ hg (IsS104.lt (show IsS104 w0 _ g s0_0 s0_1 from hhi0__iss104)) : gb978 ≠ g)); replace HI0 := am__ (IsS104.below (hhi0__iss104) hb); clear hb hbox hg; have hnb12 := NB978_972.out; have hnc12 := NB972_978.out; have hnb13 := NB978_973.out; have hnc13 := NB973_978.out; have hnb14 := NB978_0.out; have hnc14 := NB0_978.out; obtain ⟨hcz15_0, hcz15_1, hfz15_0, hfz15_1⟩ := bk2__ BK978.out; obtain ⟨Ao16, co16, eo16⟩ := Kd.R_slice HO977.out; subst eo16))
 (try simp only [Act.put, List.setIfInBounds_toArray, List.set_cons_zero, List.set_cons_succ])
 go_cut [11] (fun v11 wc => ∃ (kq : Nat) (x11_3 : Int) (x1001_3 : Int), v11 = .int .i64 x11_3 ∧ Aside0 (spec_l1SpoilThing.j0 kq x11_3 s0_0 x1001_3 t974 t975 = some (r1, r2, r3)) ∧ Aside0 (kq ≤ k) ∧ Aside0 (Kd.R Kd.string 9 wc w.heap.size (fun _ => True) (.slice Ao16 t975.length co16) t975) ∧ Aside0 (wc.heap[gb972]? = some (.cells #[.string a1_0, (.slice A1_1 l1_1.length c1_1)] 38 (0, 0))) ∧ Aside0 (wc.heap[gb973]? = some (.cells #[.string (⟨#[]⟩ : ByteArray), (.slice none 0 0)] 38 (0, 0))) ∧ Aside0 (wc.heap[gb978]? = some (.cells #[.string t974, (.slice Ao16 t975.length co16)] 38 (0, 0))) ∧ Aside0 (IsS104 w0 wc g s0_0 x1001_3) ∧ Aside0 (KeepBut w wc g none) ∧ Aside0 (Below w0.heap.size w0 wc))
 case first =>
  have H := HC4.out
  clear HC4
  replace H := Option.bind_eq_some_iff.mp H
  obtain ⟨⟨t979, t980⟩, A170, H⟩ := H
  replace H : (spec_l1SpoilThing.j0 k t979 s0_0 t980 t974 t975) = some (r1, r2, r3) := H
  have A17 := Aside0.mk A170
  clear A170
  have H' := Aside0.mk H
  clear H
  go_wp2_with (first | ((with_reducible refine gate_callee (f := 71) rfl ?_); refine gl__ (some 11) Try.func71 #[.pointer (some ⟨g, 0, none⟩), .int .i64 5] ?_; (with_reducible refine (spec_l1Rd_pick.calls k g s0_0 s0_1 5 t979 t980 w0 _ hhi0__iss104 b0_l__ A17.out).mono ?_); rintro e w18 ⟨rfl, hi, hb, hk⟩; refine ⟨_, rfl, ?_⟩; replace BK972 := am__ (KeepBut.blk hk (g' := gb972) (o := .cells #[.string a1_0, .slice A1_1 l1_1.length c1_1] 38 (0, 0)) (blf2__ BK972.out) NB972_0.out (by simp)); replace BK973 := am__ (KeepBut.blk hk (g' := gb973) (o := .cells #[.string (⟨#[]⟩ : ByteArray), .slice none 0 0] 38 (0, 0)) (blf2__ BK973.out) NB973_0.out (by simp)); replace HO977 := am__ (Kd.R_mono (Kd.R_keep (IsS104.apart (show IsS104 w0 _ g s0_0 s0_1 from hhi0__iss104) (by refine rps__ ?_; exact (Kd.R_mono (Kd.R_far (p := ⟨gb978, 1, none⟩) (Kd.R_far (p := ⟨gb978, 0, none⟩) (Kd.R_types HO977.out BK978.out (by decide)) h2__ (.string t974)) h2__ (.slice Ao16 t975.length co16)) h1__)) (by decide)) hk h2__) h1__); replace BK978 := am__ (KeepBut.blk hk (g' := gb978) (o := .cells #[.string t974, .slice Ao16 t975.length co16] 38 (0, 0)) (bpu__ BK978.out) NB978_0.out (by simp)); replace HK := am__ (KeepBut.trans (w := w) (kef__) hk (.inl rfl)); replace HB := am__ (hb); replace HI0 := am__ (hi); clear hi hb hk))
  go_meet
  case rel => exact ⟨_, (t979), (t980), (rf__), H', ⟨by first | omega | exact Nat.le_refl _⟩, ⟨rr__ HO977.out⟩, ⟨blk__ BK972.out⟩, ⟨blk__ BK973.out⟩, ⟨blk__ BK978.out⟩, ⟨hhi0__iss104⟩, ⟨kef__⟩, ⟨b0_l__⟩⟩
 case rest =>
  clear HC4
  try clear c1
  try clear p2
  try clear c7
  try clear c8
  try clear c9
  try clear c12
  try clear c13
  try clear c14
  try clear hcz15_0 hcz15_1 hfz15_0 hfz15_1
  try clear hcz9_0 hcz9_1 hfz9_0 hfz9_1
  obtain ⟨kq, x11_3, x1001_3, rfl, HA, HJ3, HO_979001, BK972, BK973, BK978, HI0, HK, HB⟩ := hcut
  cases kq with
  | zero => exact absurd HA.out (by simp [spec_l1SpoilThing.j0])
  | succ kj3 =>
   have H := HA.out
   clear HA
   simp only [spec_l1SpoilThing.j0] at H
   by_cases c19 : x11_3 = 0
   ·rw [if_pos c19] at H
    have c19b0 : (x11_3 == 0) = true := beq_iff_eq.mpr c19
    have c19b1 : (x11_3 != 0) = false := bne_eq_false_iff_eq.mpr c19
    clear c19
    replace H := Option.bind_eq_some_iff.mp H
    obtain ⟨⟨t981, t982⟩, A200, H⟩ := H
    replace H : ((spec_l1Many.f kj3 (⟨#[116]⟩ : ByteArray) (wrap64 (2000 + t981))).bind fun t983 => (some (t983, t975, t982))) = some (r1, r2, r3) := H
    have A20 := Aside0.mk A200
    clear A200
    replace H := Option.bind_eq_some_iff.mp H
    obtain ⟨t983, A210, H⟩ := H
    replace H : (some (t983, t975, t982)) = some (r1, r2, r3) := H
    have A21 := Aside0.mk A210
    clear A210
    simp only [Option.some.injEq, Prod.mk.injEq] at H
    obtain ⟨rfl, rfl, rfl⟩ := H
    go_wp2_with (first | ((with_reducible refine gate_callee (f := 71) rfl ?_); refine gl__ (some 19) Try.func71 #[.pointer (some ⟨g, 0, none⟩), .int .i64 2] ?_; (with_reducible refine (spec_l1Rd_pick.calls kj3 g s0_0 x1001_3 2 t981 t982 w0 _ hhi0__iss104 b0_l__ A20.out).mono ?_); rintro e w22 ⟨rfl, hi, hb, hk⟩; refine ⟨_, rfl, ?_⟩; replace HO_979001 := am__ (Kd.R_mono (Kd.R_keep (IsS104.apart (show IsS104 w0 _ g s0_0 x1001_3 from hhi0__iss104) (rr__ HO_979001.out) (by decide)) hk h2__) h1__); replace BK972 := am__ (kbl__ hk BK972.out NB972_0.out); replace BK973 := am__ (kbl__ hk BK973.out NB973_0.out); replace BK978 := am__ (kbl__ hk BK978.out NB978_0.out); replace HK := am__ (KeepBut.trans (w := w) (kef__) hk (.inl rfl)); replace HB := am__ (hb); replace HI0 := am__ (hi); clear hi hb hk) | ((with_reducible refine gate_callee (f := 72) rfl ?_); refine gl__ (some 21) Try.func72 #[.string (⟨#[116]⟩ : ByteArray), .int .i64 (wrap64 (2000 + t981))] ?_; (with_reducible refine (spec_l1Many.calls kj3 (⟨#[116]⟩ : ByteArray) (wrap64 (2000 + t981)) t983 _ A21.out).mono ?_); rintro e w' ⟨rfl, ⟨nd, rfl⟩⟩; refine ⟨_, rfl, ?_⟩; (try (rw [drewN_self w22]; generalize hq_ : World.drewN w22 _ = w22; have n0_ : Aside0 (Kd.R Kd.string 9 w22 w.heap.size (fun _ => True) (.slice Ao16 t975.length co16) t975) := ⟨by rw [← hq_]; exact (rr__ HO_979001.out)⟩; have n1_ : Aside0 (w22.heap[gb972]? = some (.cells #[.string a1_0, .slice A1_1 l1_1.length c1_1] 38 (0, 0))) := ⟨by rw [← hq_]; exact (blk__ BK972.out)⟩; have n2_ : Aside0 (w22.heap[gb973]? = some (.cells #[.string (⟨#[]⟩ : ByteArray), .slice none 0 0] 38 (0, 0))) := ⟨by rw [← hq_]; exact (blk__ BK973.out)⟩; have n3_ : Aside0 (w22.heap[gb978]? = some (.cells #[.string t974, .slice Ao16 t975.length co16] 38 (0, 0))) := ⟨by rw [← hq_]; exact (blk__ BK978.out)⟩; have n4_ : Aside0 (IsS104 w0 w22 g s0_0 t982) := ⟨by rw [← hq_]; exact (hhi0__iss104)⟩; have n5_ : Aside0 (KeepBut w w22 g none) := ⟨by rw [← hq_]; exact (by repeat (first | (with_reducible first | exact HK.out | apply KeepBut.set_ | apply keep_drewN | apply keep_drew | apply keep_alloc | refine keep_far ?_ GW972.out _ | refine keep_far ?_ GW973.out _ | refine keep_far ?_ GW978.out _) | exact HK.out))⟩; have n6_ : Aside0 (Below w0.heap.size w0 w22) := ⟨by rw [← hq_]; exact (b0_l__)⟩; clear HO_979001 BK972 BK973 BK978 HI0 HK HB hq_; have HO_979001 := n0_; have BK972 := n1_; have BK973 := n2_; have BK978 := n3_; have HI0 := n4_; have HK := n5_; have HB := n6_; clear n0_ n1_ n2_ n3_ n4_ n5_ n6_)); have hnb23 := NB978_972.out; have hnc23 := NB972_978.out; have hnb24 := NB978_973.out; have hnc24 := NB973_978.out; have hnb25 := NB978_0.out; have hnc25 := NB0_978.out; obtain ⟨hcz26_0, hcz26_1, hfz26_0, hfz26_1⟩ := bk2__ BK978.out; have hnb27 := NB973_972.out; have hnc27 := NB972_973.out; have hnb28 := NB973_0.out; have hnc28 := NB0_973.out; obtain ⟨hcz29_0, hcz29_1, hfz29_0, hfz29_1⟩ := bk2__ BK973.out))
    refine bodyPost_ret (results_cell_row rfl _ _ gb973 38 #[.string t983, .slice Ao16 t975.length co16] (0, 0) _ rfl (bpu__ BK973.out) Try.underlying38 rfl (by kernel_rfl)) rfl ?_
    exact ⟨_, by first | rfl | (simp [errW_none, errW_some] <;> rfl) | (simp [*, errW_none, errW_some] <;> rfl), by refine rps__ ?_; exact Kd.R_mono (Kd.R_far (p := ⟨gb973, 1, none⟩) (Kd.R_far (p := ⟨gb973, 0, none⟩) (Kd.R_far (p := ⟨gb978, 0, none⟩) (Kd.R_types (Kd.R_types HO_979001.out BK978.out (by decide)) BK973.out (by decide)) (fun _ hk => hk.1.2) (.string t983)) h2__ (.string t983)) h2__ (.slice Ao16 t975.length co16)) (fun _ hk => trivial), hhi0__iss104, by repeat (first | (with_reducible first | exact HB.out | apply below_alloc | apply pw_below_drewN | apply below_drew1 | refine below_set ?_ (IsS104.ge HI0.out) | refine below_set ?_ GE972.out | refine below_set ?_ GE973.out | refine below_set ?_ GE978.out) | exact HB.out), by repeat (first | (with_reducible first | exact HK.out | apply KeepBut.set_ | apply keep_drewN | apply keep_drew | apply keep_alloc | refine keep_far ?_ GW972.out _ | refine keep_far ?_ GW973.out _ | refine keep_far ?_ GW978.out _) | exact HK.out)⟩
   ·rw [if_neg c19] at H
    have c19b0 : (x11_3 == 0) = false := beq_eq_false_iff_ne.mpr c19
    have c19b1 : (x11_3 != 0) = true := bne_iff_ne.mpr c19
    by_cases c30 : x11_3 = 1
    ·rw [if_pos c30] at H
     have c30b0 : (x11_3 == 1) = true := beq_iff_eq.mpr c30
     have c30b1 : (x11_3 != 1) = false := bne_eq_false_iff_eq.mpr c30
     clear c30
     by_cases c31 : t975.length < 8796093022208
     ·rw [if_pos c31] at H
      have LMc31 := Aside0.mk c31
      clear c31
      obtain ⟨y984, hy984⟩ : ∃ y_ : List ByteArray, y_ = (t975 ++ [(⟨#[120]⟩ : ByteArray)]) := ⟨_, rfl⟩
      replace H : (some (t974, y984, x1001_3)) = some (r1, r2, r3) := by first | (rw [hy984]; with_reducible exact H) | (have H2_ := (Option.bind_some _ _).symm.trans H; rw [hy984]; with_reducible exact H2_) | (have H2_ := (Option.bind_some _ _).symm.trans H; with_reducible exact H2_) | with_reducible exact H | (rw [hy984]; exact H) | exact H
      have Ny984 := Aside0.mk hy984
      clear hy984
      simp only [Option.some.injEq, Prod.mk.injEq] at H
      obtain ⟨rfl, rfl, rfl⟩ := H
      have hnb32 := NB978_972.out
      have hnc32 := NB972_978.out
      have hnb33 := NB978_973.out
      have hnc33 := NB973_978.out
      have hnb34 := NB978_0.out
      have hnc34 := NB0_978.out
      have hcz35_0 : wc.cell? ⟨gb978, 0, none⟩ = some (.string t974) := (blk_cell BK978.out 0).trans rfl
      have hcz35_1 : wc.cell? ⟨gb978, 1, none⟩ = some (.slice Ao16 t975.length co16) := (blk_cell BK978.out 1).trans rfl
      have hfz35_0 := blk_frozen BK978.out 0
      have hfz35_1 := blk_frozen BK978.out 1
      go_wp2_with (first | ((with_reducible refine gate_builtin (b := .append) (xs := #[.tmp 26, .tmp 27]) rfl ?_); at_builtin; refine Kd.R_append Kd.string w.heap.size rfl (.tmp 26) (.tmp 27) 25 9 (.string ⟨#[]⟩) 16 rfl Try.underlying25 info9 rfl (by decide) (by omega) (.slice Ao16 t975.length co16) t975 (⟨#[120]⟩ : ByteArray) [.string (⟨#[120]⟩ : ByteArray)] (fun _ => True) (fun _ => False) rfl rfl ?aP (fun _ hk => hk.elim) ?aF ?aO (Below.refl _ _) ?aS ?aL ?_; (case aP => exact rfl); (case aF => exact (fun _ _ => trivial)); (case aO => exact (rr__ HO_979001.out)); (case aS => exact (keep_size (w := w) (g := g) (row := none) (kef__))); (case aL => have := LMc31.out; omega); intro v985 w36 ho hb hg hat; rw [← Ny984.out] at ho; have n0_ := am__ (bgr__ BK972.out hg (Kd.R_ne HO_979001.out BK972.out (by decide))); have n1_ := am__ (bgr__ BK973.out hg (Kd.R_ne HO_979001.out BK973.out (by decide))); have n2_ := am__ (bgr__ BK978.out hg (Kd.R_ne HO_979001.out BK978.out (by decide))); have n3_ := am__ (IsS104.grown (hhi0__iss104) hg (IsS104.own_ne HI0.out HO_979001.out (by decide))); have n4_ := am__ (below_weaken (b0_l__) HL.out hb); have n5_ := am__ (KeepBut.trans (w := w) (kef__) (KeepBut.of_grown hg g) (Kd.R_base2 HO_979001.out)); have n6_ := am__ (ho); clear BK972; clear BK973; clear BK978; clear HI0; clear HB; clear HK; clear HO_979001; have BK972 := n0_; have BK973 := n1_; have BK978 := n2_; have HI0 := n3_; have HB := n4_; have HK := n5_; have HO986 := n6_; clear n0_ n1_ n2_ n3_ n4_ n5_ n6_; clear ho hb hg hat; obtain ⟨Ao37, co37, eo37⟩ := Kd.R_slice HO986.out; subst eo37; obtain ⟨hcz38_0, hcz38_1, hfz38_0, hfz38_1⟩ := bk2__ BK978.out; have hnb39 := NB973_972.out; have hnc39 := NB972_973.out; have hnb40 := NB973_0.out; have hnc40 := NB0_973.out; obtain ⟨hcz41_0, hcz41_1, hfz41_0, hfz41_1⟩ := bk2__ BK973.out))
      refine bodyPost_ret (results_cell_row rfl _ _ gb973 38 #[.string t974, .slice Ao37 y984.length co37] (0, 0) _ rfl (bpu__ BK973.out) Try.underlying38 rfl (by kernel_rfl)) rfl ?_
      exact ⟨_, by first | rfl | (simp [errW_none, errW_some] <;> rfl) | (simp [*, errW_none, errW_some] <;> rfl), by refine rps__ ?_; exact Kd.R_mono (Kd.R_far (p := ⟨gb973, 1, none⟩) (Kd.R_far (p := ⟨gb973, 0, none⟩) (Kd.R_far (p := ⟨gb978, 1, none⟩) (Kd.R_types (Kd.R_types HO986.out BK978.out (by decide)) BK973.out (by decide)) (fun _ hk => hk.1.2) (.slice Ao37 y984.length co37)) h2__ (.string t974)) h2__ (.slice Ao37 y984.length co37)) (fun _ hk => trivial), hhi0__iss104, by repeat (first | (with_reducible first | exact HB.out | apply below_alloc | apply pw_below_drewN | apply below_drew1 | refine below_set ?_ (IsS104.ge HI0.out) | refine below_set ?_ GE972.out | refine below_set ?_ GE973.out | refine below_set ?_ GE978.out) | exact HB.out), by repeat (first | (with_reducible first | exact HK.out | apply KeepBut.set_ | apply keep_drewN | apply keep_drew | apply keep_alloc | refine keep_far ?_ GW972.out _ | refine keep_far ?_ GW973.out _ | refine keep_far ?_ GW978.out _) | exact HK.out)⟩
     ·rw [if_neg c31] at H
      exact absurd H (by simp)
    ·rw [if_neg c30] at H
     have c30b0 : (x11_3 == 1) = false := beq_eq_false_iff_ne.mpr c30
     have c30b1 : (x11_3 != 1) = true := bne_iff_ne.mpr c30
     by_cases c42 : x11_3 = 2
     ·rw [if_pos c42] at H
      have c42b0 : (x11_3 == 2) = true := beq_iff_eq.mpr c42
      have c42b1 : (x11_3 != 2) = false := bne_eq_false_iff_eq.mpr c42
      clear c42
      by_cases c43 : (t975.length : Int) > 0
      ·rw [if_pos c43] at H
       have c43b0 : decide (0 < (t975.length : Int)) = true := decide_eq_true c43
       have c43b1 : decide (0 < t975.length) = true := decide_eq_true (by omega)
       clear c43
       by_cases c44 : 0 < (t975.length : Int)
       ·rw [if_pos c44] at H
        have c44b0 : decide (0 < (t975.length : Int)) = true := decide_eq_true c44
        have c44b1 : decide (0 < t975.length) = true := decide_eq_true (by omega)
        clear c44
        by_cases c45 : t975.length < 8796093022208
        ·rw [if_pos c45] at H
         have LMc45 := Aside0.mk c45
         clear c45
         obtain ⟨y988, hy988⟩ : ∃ y_ : List ByteArray, y_ = (t975 ++ [rdOf ByteArray.empty t975 0]) := ⟨_, rfl⟩
         replace H : (some (t974, y988, x1001_3)) = some (r1, r2, r3) := by first | (rw [hy988]; with_reducible exact H) | (have H2_ := (Option.bind_some _ _).symm.trans H; rw [hy988]; with_reducible exact H2_) | (have H2_ := (Option.bind_some _ _).symm.trans H; with_reducible exact H2_) | with_reducible exact H | (rw [hy988]; exact H) | exact H
         have Ny988 := Aside0.mk hy988
         clear hy988
         simp only [Option.some.injEq, Prod.mk.injEq] at H
         obtain ⟨rfl, rfl, rfl⟩ := H
         have hnb46 := NB978_972.out
         have hnc46 := NB972_978.out
         have hnb47 := NB978_973.out
         have hnc47 := NB973_978.out
         have hnb48 := NB978_0.out
         have hnc48 := NB0_978.out
         have hcz49_0 : wc.cell? ⟨gb978, 0, none⟩ = some (.string t974) := (blk_cell BK978.out 0).trans rfl
         have hcz49_1 : wc.cell? ⟨gb978, 1, none⟩ = some (.slice Ao16 t975.length co16) := (blk_cell BK978.out 1).trans rfl
         have hfz49_0 := blk_frozen BK978.out 0
         have hfz49_1 := blk_frozen BK978.out 1
         try go_wp2
         have n0_ := am__ (Kd.R_drew HO_979001.out)
         have n1_ := am__ (blk_drew BK972.out)
         have n2_ := am__ (blk_drew BK973.out)
         have n3_ := am__ (blk_drew BK978.out)
         have n4_ := am__ (IsS104.drew HI0.out)
         have n5_ := am__ (keep_drew HK.out)
         have n6_ := am__ (below_drew1 HB.out)
         clear HO_979001
         clear BK972
         clear BK973
         clear BK978
         clear HI0
         clear HK
         clear HB
         have HO_979001 := n0_
         have BK972 := n1_
         have BK973 := n2_
         have BK978 := n3_
         have HI0 := n4_
         have HK := n5_
         have HB := n6_
         clear n0_ n1_ n2_ n3_ n4_ n5_ n6_
         have p987 : 0 ≤ (0 : Int) := (by omega)
         have q987 : 0 < (t975.length : Int) := of_decide_eq_true (by first | (with_reducible assumption) | assumption)
         obtain ⟨ad987, e987, hx987_0⟩ := Kd.at_string (Kd.R_reads' HO_979001.out).2.2 0 p987 q987
         cases e987
         have qi987 : (0 < t975.length) = True := eq_true (by omega)
         (try rw [show ((0 : Int)).toNat = 0 from rfl] at hx987_0)
         (try rw [Addr.add_zero'] at hx987_0)
         replace p987 := eq_true p987
         replace q987 := eq_true q987
         refine start_ (n := 10) (S := fun w' => w'.cell? ⟨gb978, 0, none⟩ = some (.string t974) ∧ w'.cell? ⟨gb978, 1, none⟩ = some (.slice (some ad987) t975.length co16) ∧ w'.cell? ad987 = some (.string (rdOf ByteArray.empty t975 0))) (ds := [7, 9]) #[false, false, false, false, false, false, false, false, false, false] (by kernel_rfl) rfl rfl ⟨(blk_cell BK978.out 0).trans rfl, (blk_cell BK978.out 1).trans rfl, hx987_0⟩ (fun hHeld => ?_); refine with_tabW spec_l1SpoilThing.tab10 spec_l1SpoilThing.bits10 (fun HT_ HW_ => ?_)
         generalize wc.drew = w50 at HO_979001 BK972 BK973 BK978 HI0 HK HB hx987_0 hHeld ⊢
         refine pu__ (i := 0) (N := some 36) #[true, false, false, false, false, false, false, false, false, false] HT_.out ?_
         refine pu__ (i := 2) (N := some 38) #[true, false, true, false, false, false, false, false, false, false] HT_.out ?_
         refine take_ (i := 1) (N := some 37) (v := ?_) (a' := ?_) #[true, true, true, false, false, false, false, false, false, false] rfl rfl (take_ofW HT_.out HW_.out (by kernel_rfl)) (fun _ _ _ h => h) (Or.inl ⟨by rfl, ?_⟩) hHeld ?_ ?_
         rotate_left
         ·rintro w' ⟨s0, s1, s2⟩
          go_simp
          with_reducible rfl
         rotate_left
         ·simp only [Act.put, List.setIfInBounds_toArray, List.set_cons_zero, List.set_cons_succ, i64_w, i32_w]
          rfl
         refine take_ (i := 3) (N := some 39) (v := ?_) (a' := ?_) #[true, true, true, true, false, false, false, false, false, false] rfl rfl (take_ofW HT_.out HW_.out (by kernel_rfl)) (fun _ _ _ h => h) (Or.inl ⟨by rfl, ?_⟩) hHeld ?_ ?_
         rotate_left
         ·rintro w' ⟨s0, s1, s2⟩
          go_simp
          with_reducible rfl
         rotate_left
         ·simp only [Act.put, List.setIfInBounds_toArray, List.set_cons_zero, List.set_cons_succ, i64_w, i32_w]
          rfl
         refine pu__ (i := 4) (N := some 40) #[true, true, true, true, true, false, false, false, false, false] HT_.out ?_
         refine take_ (i := 5) (N := some 41) (v := ?_) (a' := ?_) #[true, true, true, true, true, true, false, false, false, false] rfl rfl (take_ofW HT_.out HW_.out (by kernel_rfl)) (fun _ _ _ h => h) (Or.inl ⟨by rfl, ?_⟩) hHeld ?_ ?_
         rotate_left
         ·rintro w' ⟨s0, s1, s2⟩
          go_simp
          with_reducible rfl
         rotate_left
         ·simp only [Act.put, List.setIfInBounds_toArray, List.set_cons_zero, List.set_cons_succ, i64_w, i32_w]
          rfl
         refine one_ (i := 6) (N := some 42) #[true, true, true, true, true, true, true, false, false, false] rfl rfl (one_of HT_.out (by kernel_rfl)) (by decide) (fun K hK => ?_)
         refine value_ (w1 := ?_) (v := ?_) (by rfl) rfl ?_ ?_
         rotate_left 2
         ·go_simp
          constructor
          ·rfl
          ·rfl
         refine hK.out _ _ ⟨(blk_cell (blk_alloc BK978.out _) 0).trans rfl, (blk_cell (blk_alloc BK978.out _) 1).trans rfl, (World.cell?_alloc_lt _ _ _ (World.block_lt_of_cell? _ _ (hHeld.2.2))).trans (hHeld.2.2)⟩ (fun hHeld => ?_)
         clear hK K
         refine na__ 42 ?_
         refine last_ (i := 7) (N := some 43) #[true, true, true, true, true, true, true, true, false, false] rfl rfl (one_of HT_.out (by kernel_rfl)) (by decide) (fun K hK => ?_)
         refine Kd.R_append_step Kd.string w.heap.size (by rfl) (.tmp 37) (.tmp 42) 25 9 (.string ⟨#[]⟩) 16 rfl Try.underlying25 info9 rfl (by decide) (by omega) (.slice (some ad987) t975.length co16) t975 (rdOf ByteArray.empty t975 0) [.string (rdOf ByteArray.empty t975 0)] (fun _ => True) (fun _ => False) rfl rfl ?aP (fun _ hk => hk.elim) ?aF ?aO (Below.refl _ _) ?aS ?aL ?_
         (case aP => exact rfl)
         (case aF => exact (fun _ _ => trivial))
         (case aO => exact (rr__ HO_979001.out))
         (case aS => exact (keep_size (w := w) (g := g) (row := none) (kef__)))
         (case aL => have := LMc45.out; omega)
         intro v989 w51 ho hb hg hat
         rw [← Ny988.out] at ho
         have n0_ := am__ (bgr__ BK972.out hg (Kd.R_ne HO_979001.out BK972.out (by decide)))
         have n1_ := am__ (bgr__ BK973.out hg (Kd.R_ne HO_979001.out BK973.out (by decide)))
         have n2_ := am__ (bgr__ BK978.out hg (Kd.R_ne HO_979001.out BK978.out (by decide)))
         have n3_ := am__ (IsS104.grown (hhi0__iss104) hg (IsS104.own_ne HI0.out HO_979001.out (by decide)))
         have n4_ := am__ (below_weaken (b0_l__) HL.out hb)
         have n5_ := am__ (KeepBut.trans (w := w) (kef__) (KeepBut.of_grown hg g) (Kd.R_base2 HO_979001.out))
         have n6_ := am__ (ho)
         clear BK972
         clear BK973
         clear BK978
         clear HI0
         clear HB
         clear HK
         clear HO_979001
         have BK972 := n0_
         have BK973 := n1_
         have BK978 := n2_
         have HI0 := n3_
         have HB := n4_
         have HK := n5_
         have HO990 := n6_
         clear n0_ n1_ n2_ n3_ n4_ n5_ n6_
         clear ho hb hg hat
         obtain ⟨Ao52, co52, eo52⟩ := Kd.R_slice HO990.out
         (first | subst eo52 | (injection eo52 with f1_ f2_ f3_; have f4_ := f1_.symm; have f5_ := f3_.symm; clear f1_ f2_ f3_; subst f4_; subst f5_))
         refine hK.out _ _ ?_
         clear hK K
         refine na__ 43 ?_
         refine pu__ (i := 8) (N := some 44) #[true, true, true, true, true, true, true, true, true, false] HT_.out ?_
         refine last_ (i := 9) (N := none) #[true, true, true, true, true, true, true, true, true, true] rfl rfl (one_of HT_.out (by kernel_rfl)) (by decide) (fun K hK => ?_)
         have hs53 : w51.cell? ⟨gb978, 1, none⟩ = some (.slice (some ad987) t975.length co16) := (blk_cell BK978.out 1).trans rfl
         have hfs53 := blk_frozen BK978.out 1
         have hns53_0 := NB972_978.out
         have hns53_1 := NB973_978.out
         have hms53_0 := NB978_972.out
         have hms53_1 := NB978_973.out
         refine skip_ (w1 := ?_) (by rfl) rfl ?_ ?_
         rotate_left
         ·go_simp
          rfl
         refine hK.out _ _ ?_
         clear hK K
         refine done_ (done_of HT_.out (by kernel_rfl)) ?_
         have hcz54_0 : w51.cell? ⟨gb978, 0, none⟩ = some (.string t974) := (blk_cell BK978.out 0).trans rfl
         have hcz54_1 : w51.cell? ⟨gb978, 1, none⟩ = some (.slice (some ad987) t975.length co16) := (blk_cell BK978.out 1).trans rfl
         have hfz54_0 := blk_frozen BK978.out 0
         have hfz54_1 := blk_frozen BK978.out 1
         have hnb55 := NB973_972.out
         have hnc55 := NB972_973.out
         have hnb56 := NB973_0.out
         have hnc56 := NB0_973.out
         have hcz57_0 : w51.cell? ⟨gb973, 0, none⟩ = some (.string (⟨#[]⟩ : ByteArray)) := (blk_cell BK973.out 0).trans rfl
         have hcz57_1 : w51.cell? ⟨gb973, 1, none⟩ = some (.slice none 0 0) := (blk_cell BK973.out 1).trans rfl
         have hfz57_0 := blk_frozen BK973.out 0
         have hfz57_1 := blk_frozen BK973.out 1
         try go_wp2
         refine bodyPost_ret (results_cell_row rfl _ _ gb973 38 #[.string t974, .slice Ao52 y988.length co52] (0, 0) _ rfl (bpu__ BK973.out) Try.underlying38 rfl (by kernel_rfl)) rfl ?_
         exact ⟨_, by first | rfl | (simp [errW_none, errW_some] <;> rfl) | (simp [*, errW_none, errW_some] <;> rfl), by refine rps__ ?_; exact Kd.R_mono (Kd.R_far (p := ⟨gb973, 1, none⟩) (Kd.R_far (p := ⟨gb973, 0, none⟩) (Kd.R_far (p := ⟨gb978, 1, none⟩) (Kd.R_types (Kd.R_types HO990.out BK978.out (by decide)) BK973.out (by decide)) (fun _ hk => hk.1.2) (.slice Ao52 y988.length co52)) h2__ (.string t974)) h2__ (.slice Ao52 y988.length co52)) (fun _ hk => trivial), hhi0__iss104, by repeat (first | (with_reducible first | exact HB.out | apply below_alloc | apply pw_below_drewN | apply below_drew1 | refine below_set ?_ (IsS104.ge HI0.out) | refine below_set ?_ GE972.out | refine below_set ?_ GE973.out | refine below_set ?_ GE978.out) | exact HB.out), by repeat (first | (with_reducible first | exact HK.out | apply KeepBut.set_ | apply keep_drewN | apply keep_drew | apply keep_alloc | refine keep_far ?_ GW972.out _ | refine keep_far ?_ GW973.out _ | refine keep_far ?_ GW978.out _) | exact HK.out)⟩
        ·rw [if_neg c45] at H
         exact absurd H (by simp)
       ·rw [if_neg c44] at H
        exact absurd H (by simp)
      ·rw [if_neg c43] at H
       have c43b0 : decide (0 < (t975.length : Int)) = false := decide_eq_false c43
       have c43b1 : decide (0 < t975.length) = false := decide_eq_false (by omega)
       clear c43
       simp only [Option.some.injEq, Prod.mk.injEq] at H
       obtain ⟨rfl, rfl, rfl⟩ := H
       have hnb58 := NB978_972.out
       have hnc58 := NB972_978.out
       have hnb59 := NB978_973.out
       have hnc59 := NB973_978.out
       have hnb60 := NB978_0.out
       have hnc60 := NB0_978.out
       have hcz61_0 : wc.cell? ⟨gb978, 0, none⟩ = some (.string t974) := (blk_cell BK978.out 0).trans rfl
       have hcz61_1 : wc.cell? ⟨gb978, 1, none⟩ = some (.slice Ao16 t975.length co16) := (blk_cell BK978.out 1).trans rfl
       have hfz61_0 := blk_frozen BK978.out 0
       have hfz61_1 := blk_frozen BK978.out 1
       have hnb62 := NB973_972.out
       have hnc62 := NB972_973.out
       have hnb63 := NB973_0.out
       have hnc63 := NB0_973.out
       have hcz64_0 : wc.cell? ⟨gb973, 0, none⟩ = some (.string (⟨#[]⟩ : ByteArray)) := (blk_cell BK973.out 0).trans rfl
       have hcz64_1 : wc.cell? ⟨gb973, 1, none⟩ = some (.slice none 0 0) := (blk_cell BK973.out 1).trans rfl
       have hfz64_0 := blk_frozen BK973.out 0
       have hfz64_1 := blk_frozen BK973.out 1
       go_wp2
       refine bodyPost_ret (results_cell_row rfl _ _ gb973 38 #[.string t974, .slice Ao16 t975.length co16] (0, 0) _ rfl (bpu__ BK973.out) Try.underlying38 rfl (by kernel_rfl)) rfl ?_
       exact ⟨_, by first | rfl | (simp [errW_none, errW_some] <;> rfl) | (simp [*, errW_none, errW_some] <;> rfl), by refine rps__ ?_; exact Kd.R_mono (Kd.R_far (p := ⟨gb973, 1, none⟩) (Kd.R_far (p := ⟨gb973, 0, none⟩) (Kd.R_types HO_979001.out BK973.out (by decide)) h2__ (.string t974)) h2__ (.slice Ao16 t975.length co16)) (fun _ hk => trivial), hhi0__iss104, by repeat (first | (with_reducible first | exact HB.out | apply below_alloc | apply pw_below_drewN | apply below_drew1 | refine below_set ?_ (IsS104.ge HI0.out) | refine below_set ?_ GE972.out | refine below_set ?_ GE973.out | refine below_set ?_ GE978.out) | exact HB.out), by repeat (first | (with_reducible first | exact HK.out | apply KeepBut.set_ | apply keep_drewN | apply keep_drew | apply keep_alloc | refine keep_far ?_ GW972.out _ | refine keep_far ?_ GW973.out _ | refine keep_far ?_ GW978.out _) | exact HK.out)⟩
     ·rw [if_neg c42] at H
      have c42b0 : (x11_3 == 2) = false := beq_eq_false_iff_ne.mpr c42
      have c42b1 : (x11_3 != 2) = true := bne_iff_ne.mpr c42
      by_cases c65 : x11_3 = 3
      ·rw [if_pos c65] at H
       have c65b0 : (x11_3 == 3) = true := beq_iff_eq.mpr c65
       have c65b1 : (x11_3 != 3) = false := bne_eq_false_iff_eq.mpr c65
       clear c65
       obtain ⟨y991, hy991⟩ : ∃ y_ : List ByteArray, y_ = (([] : List ByteArray)) := ⟨_, rfl⟩
       replace H : ((spec_l1Rd_pick.f kj3 s0_0 x1001_3 2).bind fun bt994 => (spec_l1SpoilThing.l0 kj3 (wrap64 (30 + bt994.1)) 0 s0_0 bt994.2 t974 y991)) = some (r1, r2, r3) := by first | (rw [hy991]; with_reducible exact H) | (have H2_ := (Option.bind_some _ _).symm.trans H; rw [hy991]; with_reducible exact H2_) | (have H2_ := (Option.bind_some _ _).symm.trans H; with_reducible exact H2_) | with_reducible exact H | (rw [hy991]; exact H) | exact H
       have Ny991 := Aside0.mk hy991
       clear hy991
       replace H := Option.bind_eq_some_iff.mp H
       obtain ⟨⟨t994, t995⟩, A660, H⟩ := H
       replace H : (spec_l1SpoilThing.l0 kj3 (wrap64 (30 + t994)) 0 s0_0 t995 t974 y991) = some (r1, r2, r3) := H
       have A66 := Aside0.mk A660
       clear A660
       have H' := Aside0.mk H
       clear H
       go_wp2_with (first | ((with_reducible refine gate_dst (N := 47) rfl ?_); refine Kd.R_lit Kd.string _ 9 ?hg (N := 47) ?hd (xs := ([] : List ByteArray)) (inner := []) (ok := fun _ => True) (okp := fun _ => True) ?hr ?hp (fun _ hk => hk) trivial (Below.refl _ _) (Nat.le_refl _) (by simp) ?_; (case hd => rfl); (case hg => rfl); (case hr => first | (go_simp; done) | (go_simp; rfl)); (case hp => exact (Reps.none _ _)); intro v992 w67 ho68 hb hg_ hnew_; clear hg_ hnew_; (first | rw [← Ny991.out] at ho68 | (simp only [Int.reduceToNat] at ho68; rw [← Ny991.out] at ho68)); have HO993 := am__ (Kd.R_lower (Kd.R_new' ho68 (Kd.R_lt (rr__ HO_979001.out))) (keep_size (w := w) (g := g) (row := none) (kef__))); replace HO_979001 := am__ (Kd.R_elder' (rr__ HO_979001.out) (Kd.R_base ho68) hb); replace BK972 := am__ (blb__ BK972.out hb); replace BK973 := am__ (blb__ BK973.out hb); replace BK978 := am__ (blb__ BK978.out hb); replace HK := am__ (KeepBut.trans (w := w) (kef__) (KeepBut.of_below hb g none) (.inl rfl)); replace HB := am__ (below_step (b0_l__) hb); replace HI0 := am__ (IsS104.below (hhi0__iss104) hb); clear hb ho68; obtain ⟨Ao69, co69, eo69⟩ := Kd.R_slice HO993.out; subst eo69; have hnb70 := NB978_972.out; have hnc70 := NB972_978.out; have hnb71 := NB978_973.out; have hnc71 := NB973_978.out; have hnb72 := NB978_0.out; have hnc72 := NB0_978.out; obtain ⟨hcz73_0, hcz73_1, hfz73_0, hfz73_1⟩ := bk2__ BK978.out) | ((with_reducible refine gate_callee (f := 71) rfl ?_); refine gl__ (some 50) Try.func71 #[.pointer (some ⟨g, 0, none⟩), .int .i64 2] ?_; (with_reducible refine (spec_l1Rd_pick.calls kj3 g s0_0 x1001_3 2 t994 t995 w0 _ hhi0__iss104 b0_l__ A66.out).mono ?_); rintro e w74 ⟨rfl, hi, hb, hk⟩; refine ⟨_, rfl, ?_⟩; replace HO_979001 := am__ (Kd.R_mono (Kd.R_keep (IsS104.apart (show IsS104 w0 _ g s0_0 x1001_3 from hhi0__iss104) (by refine rps__ ?_; exact (Kd.R_mono (Kd.R_far (p := ⟨gb978, 1, none⟩) (Kd.R_types HO_979001.out BK978.out (by decide)) h2__ (.slice Ao69 y991.length co69)) h1__)) (by decide)) hk h2__) h1__); replace BK972 := am__ (KeepBut.blk hk (g' := gb972) (o := .cells #[.string a1_0, .slice A1_1 l1_1.length c1_1] 38 (0, 0)) (blf1__ BK972.out) NB972_0.out (by simp)); replace BK973 := am__ (KeepBut.blk hk (g' := gb973) (o := .cells #[.string (⟨#[]⟩ : ByteArray), .slice none 0 0] 38 (0, 0)) (blf1__ BK973.out) NB973_0.out (by simp)); replace HO993 := am__ (Kd.R_mono (Kd.R_keep (IsS104.apart (show IsS104 w0 _ g s0_0 x1001_3 from hhi0__iss104) (by refine rps__ ?_; exact (Kd.R_mono (Kd.R_far (p := ⟨gb978, 1, none⟩) (Kd.R_types HO993.out BK978.out (by decide)) h2__ (.slice Ao69 y991.length co69)) h1__)) (by decide)) hk h2__) h1__); replace BK978 := am__ (KeepBut.blk hk (g' := gb978) (o := .cells #[.string t974, .slice Ao69 y991.length co69] 38 (0, 0)) (bpu__ BK978.out) NB978_0.out (by simp)); replace HK := am__ (KeepBut.trans (w := w) (kef__) hk (.inl rfl)); replace HB := am__ (hb); replace HI0 := am__ (hi); clear hi hb hk))
       go_loopg [7] kj3 (fun kq v7 w' => ∃ (x7_2 : Int) (x979001_2 : List ByteArray) (u979001 : Value), v7 = .int .i64 x7_2 ∧ Aside0 (spec_l1SpoilThing.l0 kq (wrap64 (30 + t994)) x7_2 s0_0 t995 t974 x979001_2 = some (r1, r2, r3)) ∧ Aside0 (kq ≤ kj3) ∧ Aside0 (Kd.R Kd.string 9 w' w.heap.size (fun _ => True) u979001 x979001_2) ∧ Aside0 (w'.heap[gb972]? = some (.cells #[.string a1_0, (.slice A1_1 l1_1.length c1_1)] 38 (0, 0))) ∧ Aside0 (w'.heap[gb973]? = some (.cells #[.string (⟨#[]⟩ : ByteArray), (.slice none 0 0)] 38 (0, 0))) ∧ Aside0 (w'.heap[gb978]? = some (.cells #[.string t974, u979001] 38 (0, 0))) ∧ Aside0 (IsS104 w0 w' g s0_0 t995) ∧ Aside0 (KeepBut w w' g none) ∧ Aside0 (Below w0.heap.size w0 w'))
       case atStart => exact ⟨(0), (y991), (.slice Ao69 y991.length co69), (rf__), H', ⟨Nat.le_refl _⟩, ⟨by refine rps__ ?_; exact Kd.R_mono HO993.out (fun _ hk => trivial)⟩, ⟨blk__ BK972.out⟩, ⟨blk__ BK973.out⟩, ⟨blk__ BK978.out⟩, ⟨hhi0__iss104⟩, ⟨kef__⟩, ⟨b0_l__⟩⟩
       case round =>
        clear H'
        try clear c1
        try clear c2
        try clear p2
        try clear c3
        try clear c4
        try clear c5
        try clear c6
        try clear p6
        try clear c7
        try clear c8
        try clear c9
        try clear p9
        try clear q9
        try clear hx9
        try clear qi9
        try clear c12
        try clear c13
        try clear c14
        try clear c19
        try clear c19b0
        try clear c19b1
        try clear c23
        try clear c24
        try clear c25
        try clear c27
        try clear c28
        try clear c30
        try clear c30b0
        try clear c30b1
        try clear c31
        try clear c32
        try clear c33
        try clear c34
        try clear c39
        try clear c40
        try clear c42
        try clear c42b0
        try clear c42b1
        try clear c43
        try clear c43b0
        try clear c43b1
        try clear c44
        try clear c44b0
        try clear c44b1
        try clear c45
        try clear c46
        try clear c47
        try clear c48
        try clear c55
        try clear c56
        try clear c58
        try clear c59
        try clear c60
        try clear c62
        try clear c63
        try clear p64
        try clear c65
        try clear c65b0
        try clear c65b1
        try clear c70
        try clear c71
        try clear c72
        try clear hcz15_0 hcz15_1 hfz15_0 hfz15_1
        try clear hcz26_0 hcz26_1 hfz26_0 hfz26_1
        try clear hcz29_0 hcz29_1 hfz29_0 hfz29_1
        try clear hcz35_0 hcz35_1 hfz35_0 hfz35_1
        try clear hcz38_0 hcz38_1 hfz38_0 hfz38_1
        try clear hcz41_0 hcz41_1 hfz41_0 hfz41_1
        try clear hcz49_0 hcz49_1 hfz49_0 hfz49_1
        try clear hcz54_0 hcz54_1 hfz54_0 hfz54_1
        try clear hcz57_0 hcz57_1 hfz57_0 hfz57_1
        try clear hcz61_0 hcz61_1 hfz61_0 hfz61_1
        try clear hcz64_0 hcz64_1 hfz64_0 hfz64_1
        try clear hcz73_0 hcz73_1 hfz73_0 hfz73_1
        try clear hcz9_0 hcz9_1 hfz9_0 hfz9_1
        try clear hx987_0
        try clear p2
        try clear p987
        try clear q987
        obtain ⟨x7_2, x979001_2, u979001, rfl, HA, HK2, HO_979001, BK972, BK973, BK978, HI0, HK, HB⟩ := hrel
        cases gk with
        | zero => exact absurd HA.out (by simp [spec_l1SpoilThing.l0])
        | succ k2 =>
         have H := HA.out
         clear HA
         simp only [spec_l1SpoilThing.l0] at H
         by_cases c75 : x7_2 < (wrap64 (30 + t994))
         ·rw [if_pos c75] at H
          have c75b0 : decide (x7_2 < (wrap64 (30 + t994))) = true := decide_eq_true c75
          clear c75
          obtain ⟨y996, hy996⟩ : ∃ y_ : List Int, y_ = (([(wrap64 (33 + x7_2)) % 256] : List Int)) := ⟨_, rfl⟩
          replace H : (if x979001_2.length < 8796093022208 then (spec_l1SpoilThing.l0 k2 (wrap64 (30 + t994)) (wrap64 (x7_2 + 1)) s0_0 t995 t974 (x979001_2 ++ [strOfNums y996])) else (none)) = some (r1, r2, r3) := by first | (rw [hy996]; with_reducible exact H) | (have H2_ := (Option.bind_some _ _).symm.trans H; rw [hy996]; with_reducible exact H2_) | (have H2_ := (Option.bind_some _ _).symm.trans H; with_reducible exact H2_) | with_reducible exact H | (rw [hy996]; exact H) | exact H
          have Ny996 := Aside0.mk hy996
          clear hy996
          by_cases c76 : x979001_2.length < 8796093022208
          ·rw [if_pos c76] at H
           have LMc76 := Aside0.mk c76
           clear c76
           obtain ⟨y999, hy999⟩ : ∃ y_ : List ByteArray, y_ = (x979001_2 ++ [strOfNums y996]) := ⟨_, rfl⟩
           replace H : (spec_l1SpoilThing.l0 k2 (wrap64 (30 + t994)) (wrap64 (x7_2 + 1)) s0_0 t995 t974 y999) = some (r1, r2, r3) := by first | (rw [hy999]; with_reducible exact H) | (have H2_ := (Option.bind_some _ _).symm.trans H; rw [hy999]; with_reducible exact H2_) | (have H2_ := (Option.bind_some _ _).symm.trans H; with_reducible exact H2_) | with_reducible exact H | (rw [hy999]; exact H) | exact H
           have Ny999 := Aside0.mk hy999
           clear hy999
           have H' := Aside0.mk H
           clear H
           have hnb77 := NB978_972.out
           have hnc77 := NB972_978.out
           have hnb78 := NB978_973.out
           have hnc78 := NB973_978.out
           have hnb79 := NB978_0.out
           have hnc79 := NB0_978.out
           have hcz80_0 : wr.cell? ⟨gb978, 0, none⟩ = some (.string t974) := (blk_cell BK978.out 0).trans rfl
           have hcz80_1 : wr.cell? ⟨gb978, 1, none⟩ = some (u979001) := (blk_cell BK978.out 1).trans rfl
           have hfz80_0 := blk_frozen BK978.out 0
           have hfz80_1 := blk_frozen BK978.out 1
           go_wp2_with (first | ((with_reducible refine gate_dst (N := 62) rfl ?_); refine Kd.R_lit (Kd.int .u8) _ 5 ?hg (N := 62) ?hd (xs := ([(wrap64 (33 + x7_2)) % 256] : List Int)) (inner := [.int .u8 ((wrap64 (33 + x7_2)) % 256)]) (ok := fun _ => True) (okp := fun _ => True) ?hr ?hp (fun _ hk => hk) trivial (Below.refl _ _) (Nat.le_refl _) (by simp) ?_; (case hd => rfl); (case hg => rfl); (case hr => first | (go_simp; done) | (go_simp; rfl)); (case hp => exact (Reps.one (show Kd.M (Kd.int .u8) _ _ _ ((wrap64 (33 + x7_2)) % 256) [.int .u8 ((wrap64 (33 + x7_2)) % 256)] from rfl) (Reps.none _ _))); intro v997 w81 ho82 hb hg_ hnew_; clear hg_ hnew_; (first | rw [← Ny996.out] at ho82 | (simp only [Int.reduceToNat] at ho82; rw [← Ny996.out] at ho82)); replace HO_979001 := am__ (Kd.R_below (rr__ HO_979001.out) hb); have HO998 := am__ (Kd.R_lower ho82 (keep_size (w := w) (g := g) (row := none) (kef__))); replace BK972 := am__ (blb__ BK972.out hb); replace BK973 := am__ (blb__ BK973.out hb); replace BK978 := am__ (blb__ BK978.out hb); replace HK := am__ (KeepBut.trans (w := w) (kef__) (KeepBut.of_below hb g none) (.inl rfl)); replace HB := am__ (below_step (b0_l__) hb); replace HI0 := am__ (IsS104.below (hhi0__iss104) hb); clear hb ho82; have hcv83 := own_string (P := Try.prog) Try.underlying52 Try.underlying5 Try.underlying9 (Kd.own_of_R HO998.out)) | ((with_reducible refine gate_builtin (b := .append) (xs := #[.tmp 58, .tmp 64]) rfl ?_); at_builtin; refine Kd.R_append Kd.string w.heap.size rfl (.tmp 58) (.tmp 64) 25 9 (.string ⟨#[]⟩) 16 rfl Try.underlying25 info9 rfl (by decide) (by omega) u979001 x979001_2 (strOfNums y996) [.string (strOfNums y996)] (fun _ => True) (fun _ => False) rfl rfl ?aP (fun _ hk => hk.elim) ?aF ?aO (Below.refl _ _) ?aS ?aL ?_; (case aP => exact rfl); (case aF => exact (fun _ _ => trivial)); (case aO => exact (rr__ HO_979001.out)); (case aS => exact (keep_size (w := w) (g := g) (row := none) (kef__))); (case aL => have := LMc76.out; omega); intro v1000 w84 ho hb hg hat; rw [← Ny999.out] at ho; have n0_ := am__ (bgr__ BK972.out hg (Kd.R_ne HO_979001.out BK972.out (by decide))); have n1_ := am__ (bgr__ BK973.out hg (Kd.R_ne HO_979001.out BK973.out (by decide))); have n2_ := am__ (bgr__ BK978.out hg (Kd.R_ne HO_979001.out BK978.out (by decide))); have n3_ := am__ (IsS104.grown (hhi0__iss104) hg (IsS104.own_ne HI0.out HO_979001.out (by decide))); have n4_ := am__ (Kd.R_over' (rr__ HO998.out) (Kd.R_typed (rr__ HO_979001.out)) (by decide) hg); have n5_ := am__ (below_weaken (b0_l__) HL.out hb); have n6_ := am__ (KeepBut.trans (w := w) (kef__) (KeepBut.of_grown hg g) (Kd.R_base2 HO_979001.out)); have n7_ := am__ (ho); clear BK972; clear BK973; clear BK978; clear HI0; clear HO998; clear HB; clear HK; clear HO_979001; have BK972 := n0_; have BK973 := n1_; have BK978 := n2_; have HI0 := n3_; have HO998 := n4_; have HB := n5_; have HK := n6_; have HO1001 := n7_; clear n0_ n1_ n2_ n3_ n4_ n5_ n6_ n7_; clear ho hb hg hat; obtain ⟨Ao85, co85, eo85⟩ := Kd.R_slice HO1001.out; subst eo85; obtain ⟨hcz86_0, hcz86_1, hfz86_0, hfz86_1⟩ := bk2__ BK978.out))
           go_roundg k2
           case measure => have := HJ3.out; have := HK2.out; omega
           case rel => exact ⟨(wrap64 (x7_2 + 1)), (y999), (.slice Ao85 y999.length co85), (rf__), H', ⟨by have := HJ3.out; have := HK2.out; omega⟩, ⟨by refine rps__ ?_; exact Kd.R_mono (Kd.R_far (p := ⟨gb978, 1, none⟩) (Kd.R_types HO1001.out BK978.out (by decide)) h2__ (.slice Ao85 y999.length co85)) (fun _ hk => trivial)⟩, ⟨blf1__ BK972.out⟩, ⟨blf1__ BK973.out⟩, ⟨bpu__ BK978.out⟩, ⟨hhi0__iss104⟩, ⟨kef__⟩, ⟨b0_l__⟩⟩
          ·rw [if_neg c76] at H
           exact absurd H (by simp)
         ·rw [if_neg c75] at H
          have c75b0 : decide (x7_2 < (wrap64 (30 + t994))) = false := decide_eq_false c75
          clear c75
          simp only [Option.some.injEq, Prod.mk.injEq] at H
          obtain ⟨rfl, rfl, rfl⟩ := H
          have hnb87 := NB978_972.out
          have hnc87 := NB972_978.out
          have hnb88 := NB978_973.out
          have hnc88 := NB973_978.out
          have hnb89 := NB978_0.out
          have hnc89 := NB0_978.out
          have hcz90_0 : wr.cell? ⟨gb978, 0, none⟩ = some (.string t974) := (blk_cell BK978.out 0).trans rfl
          have hcz90_1 : wr.cell? ⟨gb978, 1, none⟩ = some (u979001) := (blk_cell BK978.out 1).trans rfl
          have hfz90_0 := blk_frozen BK978.out 0
          have hfz90_1 := blk_frozen BK978.out 1
          have hnb91 := NB973_972.out
          have hnc91 := NB972_973.out
          have hnb92 := NB973_0.out
          have hnc92 := NB0_973.out
          have hcz93_0 : wr.cell? ⟨gb973, 0, none⟩ = some (.string (⟨#[]⟩ : ByteArray)) := (blk_cell BK973.out 0).trans rfl
          have hcz93_1 : wr.cell? ⟨gb973, 1, none⟩ = some (.slice none 0 0) := (blk_cell BK973.out 1).trans rfl
          have hfz93_0 := blk_frozen BK973.out 0
          have hfz93_1 := blk_frozen BK973.out 1
          obtain ⟨Ao94, co94, eo94⟩ := Kd.R_slice HO_979001.out
          subst eo94
          go_wp2
          refine bodyPost_ret (results_cell_row rfl _ _ gb973 38 #[.string t974, .slice Ao94 x979001_2.length co94] (0, 0) _ rfl (bpu__ BK973.out) Try.underlying38 rfl (by kernel_rfl)) rfl ?_
          exact ⟨_, by first | rfl | (simp [errW_none, errW_some] <;> rfl) | (simp [*, errW_none, errW_some] <;> rfl), by refine rps__ ?_; exact Kd.R_mono (Kd.R_far (p := ⟨gb973, 1, none⟩) (Kd.R_far (p := ⟨gb973, 0, none⟩) (Kd.R_types HO_979001.out BK973.out (by decide)) h2__ (.string t974)) h2__ (.slice Ao94 x979001_2.length co94)) (fun _ hk => trivial), hhi0__iss104, by repeat (first | (with_reducible first | exact HB.out | apply below_alloc | apply pw_below_drewN | apply below_drew1 | refine below_set ?_ (IsS104.ge HI0.out) | refine below_set ?_ GE972.out | refine below_set ?_ GE973.out | refine below_set ?_ GE978.out) | exact HB.out), by repeat (first | (with_reducible first | exact HK.out | apply KeepBut.set_ | apply keep_drewN | apply keep_drew | apply keep_alloc | refine keep_far ?_ GW972.out _ | refine keep_far ?_ GW973.out _ | refine keep_far ?_ GW978.out _) | exact HK.out)⟩
      ·rw [if_neg c65] at H
       have c65b0 : (x11_3 == 3) = false := beq_eq_false_iff_ne.mpr c65
       have c65b1 : (x11_3 != 3) = true := bne_iff_ne.mpr c65
       by_cases c95 : t974.size + 1 ≤ 9223372036854775807
       ·rw [if_pos c95] at H
        have c95b0 := eq_true c95
        have c95b1 : decide (t974.size + 1 ≤ 9223372036854775807) = true := decide_eq_true c95
        try have c95b2 : (9223372036854775807 < t974.size + 1) = False := eq_false (Nat.not_lt.2 c95)
        simp only [Option.some.injEq, Prod.mk.injEq] at H
        obtain ⟨rfl, rfl, rfl⟩ := H
        have hnb96 := NB978_972.out
        have hnc96 := NB972_978.out
        have hnb97 := NB978_973.out
        have hnc97 := NB973_978.out
        have hnb98 := NB978_0.out
        have hnc98 := NB0_978.out
        have hcz99_0 : wc.cell? ⟨gb978, 0, none⟩ = some (.string t974) := (blk_cell BK978.out 0).trans rfl
        have hcz99_1 : wc.cell? ⟨gb978, 1, none⟩ = some (.slice Ao16 t975.length co16) := (blk_cell BK978.out 1).trans rfl
        have hfz99_0 := blk_frozen BK978.out 0
        have hfz99_1 := blk_frozen BK978.out 1
        have hnb100 := NB973_972.out
        have hnc100 := NB972_973.out
        have hnb101 := NB973_0.out
        have hnc101 := NB0_973.out
        have hcz102_0 : wc.cell? ⟨gb973, 0, none⟩ = some (.string (⟨#[]⟩ : ByteArray)) := (blk_cell BK973.out 0).trans rfl
        have hcz102_1 : wc.cell? ⟨gb973, 1, none⟩ = some (.slice none 0 0) := (blk_cell BK973.out 1).trans rfl
        have hfz102_0 := blk_frozen BK973.out 0
        have hfz102_1 := blk_frozen BK973.out 1
        go_wp2
        refine bodyPost_ret (results_cell_row rfl _ _ gb973 38 #[.string (t974 ++ (⟨#[122]⟩ : ByteArray)), .slice Ao16 t975.length co16] (0, 0) _ rfl (bpu__ BK973.out) Try.underlying38 rfl (by kernel_rfl)) rfl ?_
        exact ⟨_, by first | rfl | (simp [errW_none, errW_some] <;> rfl) | (simp [*, errW_none, errW_some] <;> rfl), by refine rps__ ?_; exact Kd.R_mono (Kd.R_far (p := ⟨gb973, 1, none⟩) (Kd.R_far (p := ⟨gb973, 0, none⟩) (Kd.R_far (p := ⟨gb978, 0, none⟩) (Kd.R_types (Kd.R_types HO_979001.out BK978.out (by decide)) BK973.out (by decide)) (fun _ hk => hk.1.2) (.string (t974 ++ (⟨#[122]⟩ : ByteArray)))) h2__ (.string (t974 ++ (⟨#[122]⟩ : ByteArray)))) h2__ (.slice Ao16 t975.length co16)) (fun _ hk => trivial), hhi0__iss104, by repeat (first | (with_reducible first | exact HB.out | apply below_alloc | apply pw_below_drewN | apply below_drew1 | refine below_set ?_ (IsS104.ge HI0.out) | refine below_set ?_ GE972.out | refine below_set ?_ GE973.out | refine below_set ?_ GE978.out) | exact HB.out), by repeat (first | (with_reducible first | exact HK.out | apply KeepBut.set_ | apply keep_drewN | apply keep_drew | apply keep_alloc | refine keep_far ?_ GW972.out _ | refine keep_far ?_ GW973.out _ | refine keep_far ?_ GW978.out _) | exact HK.out)⟩
       ·rw [if_neg c95] at H
        exact absurd H (by simp)
end Go.Proofs.Ytpnblgbkjbpeoaa.P

namespace Go.Proofs.Ytpnblgbkjbpeoaa.P
open Go.RowKit Go.Proofs.YtpnblgbkjbpeoaaW.PrintWords Go.Proofs.YtpnblgbkjbpeoaaW.PrintLast Go.Proofs.YtpnblgbkjbpeoaaW.PrintMore
attribute [local go_sem] max2_int min2_int max_two min_two max_three min_three max_four min_four   -- for this text's walks alone
set_option linter.unusedVariables false
set_option linter.unusedSimpArgs false
/-! ### spec_DrawFormThing: function 51 -/
def spec_DrawFormThing.j0 : Nat → Int → List Int → Int → ByteArray → List ByteArray → Option (ByteArray × List ByteArray × Int)
 | 0, _, _, _, _, _ => none
 | k + 1, x5, x1006000, x1006001, x1014000, x1014001 => (spec_l1Rd_pick.f k x1006000 x1006001 10).bind fun bt1021 => (if bt1021.1 = 0 then ((spec_l1Rd_pick.f k x1006000 bt1021.2 10).bind fun bt1023 => (some (x1014000, x1014001, bt1023.1))) else (some (x1014000, x1014001, x5)))
def spec_DrawFormThing.f (k : Nat) (l0 : List Int) : Option (ByteArray × List ByteArray × Int) := (spec_l1Open.f l0).bind fun bt1003 => ((spec_l1DrawWidth.f k bt1003.1 bt1003.2).bind fun bt1006 => ((spec_l1DrawThing.f k bt1003.1 bt1006.2 bt1006.1).bind fun bt1008 => ((spec_l1Rd_pick.f k bt1003.1 bt1008.2.2 4).bind fun bt1014 => (if bt1014.1 = 0 then ((spec_l1SpoilThing.f k bt1003.1 bt1014.2 bt1008.1 bt1008.2.1).bind fun bt1016 => (spec_DrawFormThing.j0 k bt1006.1 bt1003.1 bt1016.2.2 bt1016.1 bt1016.2.1)) else (spec_DrawFormThing.j0 k bt1006.1 bt1003.1 bt1014.2 bt1008.1 bt1008.2.1)))))
set_option maxHeartbeats 8000000 in
set_option maxRecDepth 100000 in
theorem spec_DrawFormThing.calls (k : Nat) (A0 : Option Addr) (c0 : Nat) (l0 : List Int) (r1 : ByteArray) (r2 : List ByteArray) (r3 : Int) (w : World) (hr0 : Kd.C (Kd.int .u8) w A0 l0.length l0) (hc0 : l0.length ≤ c0) (h : spec_DrawFormThing.f k l0 = some (r1, r2, r3)) :
  Calls Try.prog 51 #[.slice A0 l0.length c0] w fun e w' => ∃ v1_ : Value, e = .returned (.tuple #[.agg #[.string r1, v1_], .int .i64 r3]) ∧ Kd.R Kd.string 9 w' w.heap.size (fun _ => True) v1_ r2 ∧ Below w.heap.size w w' := by
 have hu38 := Try.underlying38
 have HR0 := Aside0.mk hr0
 have HC0 := Aside0.mk hc0
 clear hr0 hc0
 have HB := am__ (Below.refl w.heap.size w)
 have H : ((spec_l1Open.f l0).bind fun bt1003 => ((spec_l1DrawWidth.f k bt1003.1 bt1003.2).bind fun bt1006 => ((spec_l1DrawThing.f k bt1003.1 bt1006.2 bt1006.1).bind fun bt1008 => ((spec_l1Rd_pick.f k bt1003.1 bt1008.2.2 4).bind fun bt1014 => (if bt1014.1 = 0 then ((spec_l1SpoilThing.f k bt1003.1 bt1014.2 bt1008.1 bt1008.2.1).bind fun bt1016 => (spec_DrawFormThing.j0 k bt1006.1 bt1003.1 bt1016.2.2 bt1016.1 bt1016.2.1)) else (spec_DrawFormThing.j0 k bt1006.1 bt1003.1 bt1014.2 bt1008.1 bt1008.2.1)))))) = some (r1, r2, r3) := h
 clear h
 replace H := Option.bind_eq_some_iff.mp H
 obtain ⟨⟨t1003, t1004⟩, A20, H⟩ := H
 replace H : ((spec_l1DrawWidth.f k t1003 t1004).bind fun bt1006 => ((spec_l1DrawThing.f k t1003 bt1006.2 bt1006.1).bind fun bt1008 => ((spec_l1Rd_pick.f k t1003 bt1008.2.2 4).bind fun bt1014 => (if bt1014.1 = 0 then ((spec_l1SpoilThing.f k t1003 bt1014.2 bt1008.1 bt1008.2.1).bind fun bt1016 => (spec_DrawFormThing.j0 k bt1006.1 t1003 bt1016.2.2 bt1016.1 bt1016.2.1)) else (spec_DrawFormThing.j0 k bt1006.1 t1003 bt1014.2 bt1008.1 bt1008.2.1))))) = some (r1, r2, r3) := H
 have A2 := Aside0.mk A20
 clear A20
 replace H := Option.bind_eq_some_iff.mp H
 obtain ⟨⟨t1006, t1007⟩, A30, H⟩ := H
 replace H : ((spec_l1DrawThing.f k t1003 t1007 t1006).bind fun bt1008 => ((spec_l1Rd_pick.f k t1003 bt1008.2.2 4).bind fun bt1014 => (if bt1014.1 = 0 then ((spec_l1SpoilThing.f k t1003 bt1014.2 bt1008.1 bt1008.2.1).bind fun bt1016 => (spec_DrawFormThing.j0 k t1006 t1003 bt1016.2.2 bt1016.1 bt1016.2.1)) else (spec_DrawFormThing.j0 k t1006 t1003 bt1014.2 bt1008.1 bt1008.2.1)))) = some (r1, r2, r3) := H
 have A3 := Aside0.mk A30
 clear A30
 replace H := Option.bind_eq_some_iff.mp H
 obtain ⟨⟨t1008, t1009, t1012⟩, A40, H⟩ := H
 replace H : ((spec_l1Rd_pick.f k t1003 t1012 4).bind fun bt1014 => (if bt1014.1 = 0 then ((spec_l1SpoilThing.f k t1003 bt1014.2 t1008 t1009).bind fun bt1016 => (spec_DrawFormThing.j0 k t1006 t1003 bt1016.2.2 bt1016.1 bt1016.2.1)) else (spec_DrawFormThing.j0 k t1006 t1003 bt1014.2 t1008 t1009))) = some (r1, r2, r3) := H
 have A4 := Aside0.mk A40
 clear A40
 replace H := Option.bind_eq_some_iff.mp H
 obtain ⟨⟨t1014, t1015⟩, A50, H⟩ := H
 replace H : (if t1014 = 0 then ((spec_l1SpoilThing.f k t1003 t1015 t1008 t1009).bind fun bt1016 => (spec_DrawFormThing.j0 k t1006 t1003 bt1016.2.2 bt1016.1 bt1016.2.1)) else (spec_DrawFormThing.j0 k t1006 t1003 t1015 t1008 t1009)) = some (r1, r2, r3) := H
 have A5 := Aside0.mk A50
 clear A50
 have HC6 := Aside0.mk H
 clear H
 go_enter Try.func51, Try.ntmps51
 go_upto_if 16 with (first | ((with_reducible refine gate_dst (N := 2) rfl ?_); refine be__ 2 #[.string (⟨#[]⟩ : ByteArray), .slice none 0 0] 38 ?_; intro gb1002 hg w7 hbox hb; have BK1002 := am__ (hbox); have GW1002 := am__ ((bsz__ hg bel__ : w.heap.size ≤ gb1002)); have GE1002 := am__ ((bsz__ hg bel__ : w.heap.size ≤ gb1002)); replace HB := am__ (below_step (bel__) hb); clear hb hbox hg) | ((with_reducible refine gate_callee (f := 69) rfl ?_); refine gl__ (some 8) Try.func69 #[.slice A0 l0.length c0] ?_; (with_reducible refine (spec_l1Open.calls _ _ l0 t1003 t1004 w _ bel__ HR0.out HC0.out A2.out).mono ?_); rintro e w8 ⟨g1005, rfl, hi, hb, hb2⟩; refine ⟨_, rfl, ?_⟩; replace HB := am__ (hb); have HI1005 := am__ (hi); have NB1005_1002 := am__ (IsS104.ne_blk hi (blb__ BK1002.out hb2) (by decide)); have NB1002_1005 := am__ (Ne.symm (IsS104.ne_blk hi (blb__ BK1002.out hb2) (by decide))); replace BK1002 := am__ (blb__ BK1002.out hb2); clear hi hb hb2) | ((with_reducible refine gate_callee (f := 78) rfl ?_); refine gl__ (some 10) Try.func78 #[.pointer (some ⟨g1005, 0, none⟩)] ?_; (with_reducible refine (spec_l1DrawWidth.calls k g1005 t1003 t1004 t1006 t1007 w _ hhi1005__iss104 b1005_l__ A3.out).mono ?_); rintro e w9 ⟨rfl, hi, hb, hk⟩; refine ⟨_, rfl, ?_⟩; replace BK1002 := am__ (kbl__ hk BK1002.out NB1002_1005.out); replace HB := am__ (hb); replace HI1005 := am__ (hi); clear hi hb hk) | ((with_reducible refine gate_callee (f := 79) rfl ?_); refine gl__ (some 13) Try.func79 #[.pointer (some ⟨g1005, 0, none⟩), .int .i64 t1006] ?_; (with_reducible refine (spec_l1DrawThing.calls k g1005 t1003 t1007 t1006 t1008 t1009 t1012 w _ hhi1005__iss104 b1005_l__ A4.out).mono ?_); rintro e w10 ⟨v1010, rfl, ho0, hi, hb, hk⟩; refine ⟨_, rfl, ?_⟩; replace BK1002 := am__ (kbl__ hk BK1002.out NB1002_1005.out); have HO1011 := am__ (Kd.R_lower ho0 (below_size (b1005_l__))); replace HB := am__ (hb); replace HI1005 := am__ (hi); clear hi hb hk; (try clear ho0)) | ((with_reducible refine gate_dst (N := 6) rfl ?_); refine be__ 6 #[.string (⟨#[]⟩ : ByteArray), .slice none 0 0] 38 ?_; intro gb1013 hg w11 hbox hb; replace HO1011 := am__ (Kd.R_below (rr__ HO1011.out) hb); have BK1013 := am__ (hbox); have GW1013 := am__ ((bsz__ hg b1005_l__ : w.heap.size ≤ gb1013)); have GE1013 := am__ ((bsz__ hg b1005_l__ : w.heap.size ≤ gb1013)); replace HB := am__ (below_step (b1005_l__) hb); have NB1002_1013 := am__ ((nlt__ hg (blk_lt (g := gb1002) (o := .cells #[.string (⟨#[]⟩ : ByteArray), .slice none 0 0] 38 (0, 0)) (blk__ BK1002.out)) : gb1002 ≠ gb1013)); have NB1013_1002 := am__ ((ngt__ hg (blk_lt (g := gb1002) (o := .cells #[.string (⟨#[]⟩ : ByteArray), .slice none 0 0] 38 (0, 0)) (blk__ BK1002.out)) : gb1013 ≠ gb1002)); replace BK1002 := am__ (blb__ BK1002.out hb); have NB1005_1013 := am__ ((nlt__ hg (IsS104.lt (show IsS104 w _ g1005 t1003 t1012 from hhi1005__iss104)) : g1005 ≠ gb1013)); have NB1013_1005 := am__ ((ngt__ hg (IsS104.lt (show IsS104 w _ g1005 t1003 t1012 from hhi1005__iss104)) : gb1013 ≠ g1005)); replace HI1005 := am__ (IsS104.below (hhi1005__iss104) hb); clear hb hbox hg; have hnb12 := NB1013_1002.out; have hnc12 := NB1002_1013.out; have hnb13 := NB1013_1005.out; have hnc13 := NB1005_1013.out; obtain ⟨hcz14_0, hcz14_1, hfz14_0, hfz14_1⟩ := bk2__ BK1013.out; obtain ⟨Ao15, co15, eo15⟩ := Kd.R_slice HO1011.out; subst eo15) | ((with_reducible refine gate_callee (f := 71) rfl ?_); refine gl__ (some 15) Try.func71 #[.pointer (some ⟨g1005, 0, none⟩), .int .i64 4] ?_; (with_reducible refine (spec_l1Rd_pick.calls k g1005 t1003 t1012 4 t1014 t1015 w _ hhi1005__iss104 b1005_l__ A5.out).mono ?_); rintro e w16 ⟨rfl, hi, hb, hk⟩; refine ⟨_, rfl, ?_⟩; replace BK1002 := am__ (KeepBut.blk hk (g' := gb1002) (o := .cells #[.string (⟨#[]⟩ : ByteArray), .slice none 0 0] 38 (0, 0)) (blf2__ BK1002.out) NB1002_1005.out (by simp)); replace HO1011 := am__ (Kd.R_mono (Kd.R_keep (IsS104.apart (show IsS104 w _ g1005 t1003 t1012 from hhi1005__iss104) (by refine rps__ ?_; exact (Kd.R_mono (Kd.R_far (p := ⟨gb1013, 1, none⟩) (Kd.R_far (p := ⟨gb1013, 0, none⟩) (Kd.R_types HO1011.out BK1013.out (by decide)) h2__ (.string t1008)) h2__ (.slice Ao15 t1009.length co15)) h1__)) (by decide)) hk h2__) h1__); replace BK1013 := am__ (KeepBut.blk hk (g' := gb1013) (o := .cells #[.string t1008, .slice Ao15 t1009.length co15] 38 (0, 0)) (bpu__ BK1013.out) NB1013_1005.out (by simp)); replace HB := am__ (hb); replace HI1005 := am__ (hi); clear hi hb hk))
 (try simp only [Act.put, List.setIfInBounds_toArray, List.set_cons_zero, List.set_cons_succ])
 go_cut [] (fun wc => ∃ (kq : Nat) (x1006001_5 : Int) (x1014000_5 : ByteArray) (x1014001_5 : List ByteArray) (u1014001 : Value), Aside0 (spec_DrawFormThing.j0 kq t1006 t1003 x1006001_5 x1014000_5 x1014001_5 = some (r1, r2, r3)) ∧ Aside0 (kq ≤ k) ∧ Aside0 (Kd.R Kd.string 9 wc w.heap.size (fun _ => True) u1014001 x1014001_5) ∧ Aside0 (wc.heap[gb1002]? = some (.cells #[.string (⟨#[]⟩ : ByteArray), (.slice none 0 0)] 38 (0, 0))) ∧ Aside0 (wc.heap[gb1013]? = some (.cells #[.string x1014000_5, u1014001] 38 (0, 0))) ∧ Aside0 (IsS104 w wc g1005 t1003 x1006001_5) ∧ Aside0 (Below w.heap.size w wc))
 case first =>
  have H := HC6.out
  clear HC6
  by_cases c17 : t1014 = 0
  ·rw [if_pos c17] at H
   have c17b0 : (t1014 == 0) = true := beq_iff_eq.mpr c17
   have c17b1 : (t1014 != 0) = false := bne_eq_false_iff_eq.mpr c17
   clear c17
   (first | rw [c17b0] | (simp only [i64_w, i32_w]; rw [c17b0]) | skip)
   replace H := Option.bind_eq_some_iff.mp H
   obtain ⟨⟨t1016, t1017, t1020⟩, A180, H⟩ := H
   replace H : (spec_DrawFormThing.j0 k t1006 t1003 t1020 t1016 t1017) = some (r1, r2, r3) := H
   have A18 := Aside0.mk A180
   clear A180
   have H' := Aside0.mk H
   clear H
   have hnb19 := NB1013_1002.out
   have hnc19 := NB1002_1013.out
   have hnb20 := NB1013_1005.out
   have hnc20 := NB1005_1013.out
   have hcz21_0 : w16.cell? ⟨gb1013, 0, none⟩ = some (.string t1008) := (blk_cell BK1013.out 0).trans rfl
   have hcz21_1 : w16.cell? ⟨gb1013, 1, none⟩ = some (.slice Ao15 t1009.length co15) := (blk_cell BK1013.out 1).trans rfl
   have hfz21_0 := blk_frozen BK1013.out 0
   have hfz21_1 := blk_frozen BK1013.out 1
   go_wp2_with (first | ((with_reducible refine gate_callee (f := 80) rfl ?_); refine gl__ (some 19) Try.func80 #[.pointer (some ⟨g1005, 0, none⟩), .agg #[.string t1008, .slice Ao15 t1009.length co15]] ?_; (with_reducible refine (spec_l1SpoilThing.calls k g1005 t1003 t1015 t1008 _ _ t1009 t1016 t1017 t1020 w _ hhi1005__iss104 b1005_l__ ?side3 ?side4 ?side5 A18.out).mono ?_); (case side3 => repeat (first | exact (Kd.R_reads' HO1011.out).2.2 | (with_reducible refine Kd.C_alloc ?_ _) | (with_reducible refine Kd.C_drewN ?_ _) | (with_reducible refine Kd.C_drew ?_))); (case side4 => exact (Kd.R_reads' HO1011.out).2.1); (case side5 => exact far_slice (IsS104.own_ne HI1005.out HO1011.out (by decide))); rintro e w22 ⟨v1018, rfl, ho0, hi, hb, hk⟩; refine ⟨_, rfl, ?_⟩; replace BK1002 := am__ (kbl__ hk BK1002.out NB1002_1005.out); replace BK1013 := am__ (kbl__ hk BK1013.out NB1013_1005.out); have HO1019 := am__ (Kd.R_lower (Kd.R_new' ho0 (Kd.R_lt (rr__ HO1011.out))) (below_size (b1005_l__))); replace HO1011 := am__ (Kd.R_mono (Kd.R_told (Kd.R_oldK (IsS104.apart (show IsS104 w _ g1005 t1003 t1015 from hhi1005__iss104) (rr__ HO1011.out) (by decide)) hk) (Kd.R_base ho0)) h1__); replace HB := am__ (hb); replace HI1005 := am__ (hi); clear hi hb hk; (try clear ho0); obtain ⟨hcz23_0, hcz23_1, hfz23_0, hfz23_1⟩ := bk2__ BK1013.out; obtain ⟨Ao24, co24, eo24⟩ := Kd.R_slice HO1019.out; subst eo24))
   go_meet
   case rel => exact ⟨_, (t1020), (t1016), (t1017), (.slice Ao24 t1017.length co24), H', ⟨by first | omega | exact Nat.le_refl _⟩, ⟨by refine rps__ ?_; exact Kd.R_mono (Kd.R_far (p := ⟨gb1013, 1, none⟩) (Kd.R_far (p := ⟨gb1013, 0, none⟩) (Kd.R_types HO1019.out BK1013.out (by decide)) h2__ (.string t1016)) h2__ (.slice Ao24 t1017.length co24)) (fun _ hk => trivial)⟩, ⟨blf2__ BK1002.out⟩, ⟨bpu__ BK1013.out⟩, ⟨hhi1005__iss104⟩, ⟨b1005_l__⟩⟩
  ·rw [if_neg c17] at H
   have c17b0 : (t1014 == 0) = false := beq_eq_false_iff_ne.mpr c17
   have c17b1 : (t1014 != 0) = true := bne_iff_ne.mpr c17
   (first | rw [c17b0] | (simp only [i64_w, i32_w]; rw [c17b0]) | skip)
   have H' := Aside0.mk H
   clear H
   go_wp2
   go_meet
   case rel => exact ⟨_, (t1015), (t1008), (t1009), (.slice Ao15 t1009.length co15), H', ⟨by first | omega | exact Nat.le_refl _⟩, ⟨rr__ HO1011.out⟩, ⟨blk__ BK1002.out⟩, ⟨blk__ BK1013.out⟩, ⟨hhi1005__iss104⟩, ⟨b1005_l__⟩⟩
 case rest =>
  clear HC6
  try clear c1
  try clear c2
  try clear p2
  try clear c5
  try clear c6
  try clear c7
  try clear c8
  try clear c12
  try clear c13
  try clear c17
  try clear c17b0
  try clear c17b1
  try clear c19
  try clear c20
  try clear hcz14_0 hcz14_1 hfz14_0 hfz14_1
  try clear hcz21_0 hcz21_1 hfz21_0 hfz21_1
  try clear hcz23_0 hcz23_1 hfz23_0 hfz23_1
  obtain ⟨kq, x1006001_5, x1014000_5, x1014001_5, u1014001, HA, HJ5, HO_1014001, BK1002, BK1013, HI1005, HB⟩ := hcut
  cases kq with
  | zero => exact absurd HA.out (by simp [spec_DrawFormThing.j0])
  | succ kj5 =>
   have H := HA.out
   clear HA
   simp only [spec_DrawFormThing.j0] at H
   replace H := Option.bind_eq_some_iff.mp H
   obtain ⟨⟨t1021, t1022⟩, A250, H⟩ := H
   replace H : (if t1021 = 0 then ((spec_l1Rd_pick.f kj5 t1003 t1022 10).bind fun bt1023 => (some (x1014000_5, x1014001_5, bt1023.1))) else (some (x1014000_5, x1014001_5, t1006))) = some (r1, r2, r3) := H
   have A25 := Aside0.mk A250
   clear A250
   by_cases c26 : t1021 = 0
   ·rw [if_pos c26] at H
    have c26b0 : (t1021 == 0) = true := beq_iff_eq.mpr c26
    have c26b1 : (t1021 != 0) = false := bne_eq_false_iff_eq.mpr c26
    clear c26
    replace H := Option.bind_eq_some_iff.mp H
    obtain ⟨⟨t1023, t1024⟩, A270, H⟩ := H
    replace H : (some (x1014000_5, x1014001_5, t1023)) = some (r1, r2, r3) := H
    have A27 := Aside0.mk A270
    clear A270
    simp only [Option.some.injEq, Prod.mk.injEq] at H
    obtain ⟨rfl, rfl, rfl⟩ := H
    go_wp2_with (first | ((with_reducible refine gate_callee (f := 71) rfl ?_); refine gl__ (some 21) Try.func71 #[.pointer (some ⟨g1005, 0, none⟩), .int .i64 10] ?_; (with_reducible refine (spec_l1Rd_pick.calls kj5 g1005 t1003 x1006001_5 10 t1021 t1022 w _ hhi1005__iss104 b1005_l__ A25.out).mono ?_); rintro e w28 ⟨rfl, hi, hb, hk⟩; refine ⟨_, rfl, ?_⟩; replace HO_1014001 := am__ (Kd.R_mono (Kd.R_keep (IsS104.apart (show IsS104 w _ g1005 t1003 x1006001_5 from hhi1005__iss104) (rr__ HO_1014001.out) (by decide)) hk h2__) h1__); replace BK1002 := am__ (kbl__ hk BK1002.out NB1002_1005.out); replace BK1013 := am__ (kbl__ hk BK1013.out NB1013_1005.out); replace HB := am__ (hb); replace HI1005 := am__ (hi); clear hi hb hk) | ((with_reducible refine gate_callee (f := 71) rfl ?_); refine gl__ (some 24) Try.func71 #[.pointer (some ⟨g1005, 0, none⟩), .int .i64 10] ?_; (with_reducible refine (spec_l1Rd_pick.calls kj5 g1005 t1003 t1022 10 t1023 t1024 w _ hhi1005__iss104 b1005_l__ A27.out).mono ?_); rintro e w29 ⟨rfl, hi, hb, hk⟩; refine ⟨_, rfl, ?_⟩; replace HO_1014001 := am__ (Kd.R_mono (Kd.R_keep (IsS104.apart (show IsS104 w _ g1005 t1003 t1022 from hhi1005__iss104) (rr__ HO_1014001.out) (by decide)) hk h2__) h1__); replace BK1002 := am__ (kbl__ hk BK1002.out NB1002_1005.out); replace BK1013 := am__ (kbl__ hk BK1013.out NB1013_1005.out); replace HB := am__ (hb); replace HI1005 := am__ (hi); clear hi hb hk; have hnb30 := NB1013_1002.out; have hnc30 := NB1002_1013.out; have hnb31 := NB1013_1005.out; have hnc31 := NB1005_1013.out; obtain ⟨hcz32_0, hcz32_1, hfz32_0, hfz32_1⟩ := bk2__ BK1013.out; have hnb33 := NB1002_1005.out; have hnc33 := NB1005_1002.out; obtain ⟨hcz34_0, hcz34_1, hfz34_0, hfz34_1⟩ := bk2__ BK1002.out; obtain ⟨Ao35, co35, eo35⟩ := Kd.R_slice HO_1014001.out; subst eo35))
    refine bodyPost_ret (results_ct rfl _ _ gb1002 38 #[.string x1014000_5, .slice Ao35 x1014001_5.length co35] (0, 0) _ rfl (bpu__ BK1002.out) Try.underlying38 rfl (by kernel_rfl)) rfl ?_
    exact ⟨_, by first | rfl | (simp [errW_none, errW_some] <;> rfl) | (simp [*, errW_none, errW_some] <;> rfl), by refine rps__ ?_; exact Kd.R_mono (Kd.R_far (p := ⟨gb1002, 1, none⟩) (Kd.R_far (p := ⟨gb1002, 0, none⟩) (Kd.R_types HO_1014001.out BK1002.out (by decide)) h2__ (.string x1014000_5)) h2__ (.slice Ao35 x1014001_5.length co35)) (fun _ hk => trivial), by repeat (first | (with_reducible first | exact HB.out | apply below_alloc | apply pw_below_drewN | apply below_drew1 | refine below_set ?_ (IsS104.ge HI1005.out) | refine below_set ?_ GE1002.out | refine below_set ?_ GE1013.out) | exact HB.out)⟩
   ·rw [if_neg c26] at H
    have c26b0 : (t1021 == 0) = false := beq_eq_false_iff_ne.mpr c26
    have c26b1 : (t1021 != 0) = true := bne_iff_ne.mpr c26
    simp only [Option.some.injEq, Prod.mk.injEq] at H
    obtain ⟨rfl, rfl, rfl⟩ := H
    go_wp2_with (first | ((with_reducible refine gate_callee (f := 71) rfl ?_); refine gl__ (some 21) Try.func71 #[.pointer (some ⟨g1005, 0, none⟩), .int .i64 10] ?_; (with_reducible refine (spec_l1Rd_pick.calls kj5 g1005 t1003 x1006001_5 10 t1021 t1022 w _ hhi1005__iss104 b1005_l__ A25.out).mono ?_); rintro e w36 ⟨rfl, hi, hb, hk⟩; refine ⟨_, rfl, ?_⟩; replace HO_1014001 := am__ (Kd.R_mono (Kd.R_keep (IsS104.apart (show IsS104 w _ g1005 t1003 x1006001_5 from hhi1005__iss104) (rr__ HO_1014001.out) (by decide)) hk h2__) h1__); replace BK1002 := am__ (kbl__ hk BK1002.out NB1002_1005.out); replace BK1013 := am__ (kbl__ hk BK1013.out NB1013_1005.out); replace HB := am__ (hb); replace HI1005 := am__ (hi); clear hi hb hk; have hnb37 := NB1013_1002.out; have hnc37 := NB1002_1013.out; have hnb38 := NB1013_1005.out; have hnc38 := NB1005_1013.out; obtain ⟨hcz39_0, hcz39_1, hfz39_0, hfz39_1⟩ := bk2__ BK1013.out; have hnb40 := NB1002_1005.out; have hnc40 := NB1005_1002.out; obtain ⟨hcz41_0, hcz41_1, hfz41_0, hfz41_1⟩ := bk2__ BK1002.out; obtain ⟨Ao42, co42, eo42⟩ := Kd.R_slice HO_1014001.out; subst eo42))
    refine bodyPost_ret (results_ct rfl _ _ gb1002 38 #[.string x1014000_5, .slice Ao42 x1014001_5.length co42] (0, 0) _ rfl (bpu__ BK1002.out) Try.underlying38 rfl (by kernel_rfl)) rfl ?_
    exact ⟨_, by first | rfl | (simp [errW_none, errW_some] <;> rfl) | (simp [*, errW_none, errW_some] <;> rfl), by refine rps__ ?_; exact Kd.R_mono (Kd.R_far (p := ⟨gb1002, 1, none⟩) (Kd.R_far (p := ⟨gb1002, 0, none⟩) (Kd.R_types HO_1014001.out BK1002.out (by decide)) h2__ (.string x1014000_5)) h2__ (.slice Ao42 x1014001_5.length co42)) (fun _ hk => trivial), by repeat (first | (with_reducible first | exact HB.out | apply below_alloc | apply pw_below_drewN | apply below_drew1 | refine below_set ?_ (IsS104.ge HI1005.out) | refine below_set ?_ GE1002.out | refine below_set ?_ GE1013.out) | exact HB.out)⟩
end Go.Proofs.Ytpnblgbkjbpeoaa.P

namespace Go.Proofs.Ytpnblgbkjbpeoaa.P
open Go.RowKit Go.Proofs.YtpnblgbkjbpeoaaW.PrintWords Go.Proofs.YtpnblgbkjbpeoaaW.PrintLast Go.Proofs.YtpnblgbkjbpeoaaW.PrintMore
attribute [local go_sem] max2_int min2_int max_two min_two max_three min_three max_four min_four   -- for this text's walks alone
set_option linter.unusedVariables false
set_option linter.unusedSimpArgs false
/-! ### spec_l3Draw: function 81 -/
mutual
def spec_l3Draw.j0 : Nat → Int → Bool → Int → Bool → Bool → List Int → Int → Int → ByteArray → ByteArray → Int → ByteArray → Option (Int × ByteArray × ByteArray × Int × ByteArray × List ByteArray × Int)
 | 0, _, _, _, _, _, _, _, _, _, _, _, _ => none
 | k + 1, x1, x7, x8, x9, x27, x1000, x1001, x1033000, x1033001, x1033002, x1033003, x1033004 => if x27 = true then ((spec_l1Text.f k x1000 x1001).bind fun bt1034 => ((spec_Sum.f k bt1034.1 x1).bind fun t1036 => (spec_l3Draw.j1 k x1 x7 x8 x9 x1000 bt1034.2 x1033000 t1036 x1033002 x1033003 x1033004))) else (spec_l3Draw.j1 k x1 x7 x8 x9 x1000 x1001 x1033000 x1033001 x1033002 x1033003 x1033004)
def spec_l3Draw.j1 : Nat → Int → Bool → Int → Bool → List Int → Int → Int → ByteArray → ByteArray → Int → ByteArray → Option (Int × ByteArray × ByteArray × Int × ByteArray × List ByteArray × Int)
 | 0, _, _, _, _, _, _, _, _, _, _, _ => none
 | k + 1, x1, x7, x8, x9, x1000, x1001, x1033000, x1033001, x1033002, x1033003, x1033004 => if x7 = true then ((spec_l1Many.f k (⟨#[110]⟩ : ByteArray) 40).bind fun t1037 => ((some (([(⟨#[112]⟩ : ByteArray), (⟨#[113]⟩ : ByteArray), (⟨#[116, 111, 112]⟩ : ByteArray), t1037] : List ByteArray) : List ByteArray)).bind fun y1038 => ((spec_l1Rd_pick.f k x1000 x1001 4).bind fun bt1041 => (if 0 ≤ bt1041.1 then (if bt1041.1 < (y1038.length : Int) then (spec_l3Draw.j2 k x1 x8 x9 x1000 bt1041.2 x1033000 x1033001 (rdOf ByteArray.empty y1038 bt1041.1) x1033003 x1033004) else (none)) else (none))))) else (spec_l3Draw.j2 k x1 x8 x9 x1000 x1001 x1033000 x1033001 x1033002 x1033003 x1033004)
def spec_l3Draw.j2 : Nat → Int → Int → Bool → List Int → Int → Int → ByteArray → ByteArray → Int → ByteArray → Option (Int × ByteArray × ByteArray × Int × ByteArray × List ByteArray × Int)
 | 0, _, _, _, _, _, _, _, _, _, _ => none
 | k + 1, x1, x8, x9, x1000, x1001, x1033000, x1033001, x1033002, x1033003, x1033004 => if x8 > 0 then ((some (([1, 5, 10, 255, 256, 65536, 100000] : List Int) : List Int)).bind fun y1044 => ((spec_l1Rd_pick.f k x1000 x1001 7).bind fun bt1047 => (if 0 ≤ bt1047.1 then (if bt1047.1 < (y1044.length : Int) then (if x9 = true then ((spec_l1DrawThing.f k x1000 bt1047.2 x1).bind fun bt1050 => (some (x1033000, x1033001, x1033002, rd y1044 bt1047.1, bt1050.1, bt1050.2.1, bt1050.2.2))) else (some (x1033000, x1033001, x1033002, rd y1044 bt1047.1, x1033004, ([] : List ByteArray), bt1047.2))) else (none)) else (none)))) else (if x9 = true then ((spec_l1DrawThing.f k x1000 x1001 x1).bind fun bt1055 => (some (x1033000, x1033001, x1033002, x1033003, bt1055.1, bt1055.2.1, bt1055.2.2))) else (some (x1033000, x1033001, x1033002, x1033003, x1033004, ([] : List ByteArray), x1001)))
end
def spec_l3Draw.f (k : Nat) (s0_0 : List Int) (s0_1 : Int) (a1 : Int) : Option (Int × ByteArray × ByteArray × Int × ByteArray × List ByteArray × Int) := (spec_l1Rd_pick.f k s0_0 s0_1 7).bind fun bt1026 => ((spec_l3Uses.f (wrap64 (1 + bt1026.1))).bind fun bt1028 => (if bt1028.1 = true then ((spec_l1Width.f a1).bind fun t1033 => (spec_l3Draw.j0 k a1 bt1028.2.1 bt1028.2.2.1 bt1028.2.2.2 t1033 s0_0 bt1026.2 (wrap64 (1 + bt1026.1)) (⟨#[]⟩ : ByteArray) (⟨#[]⟩ : ByteArray) 0 (⟨#[]⟩ : ByteArray))) else (spec_l3Draw.j0 k a1 bt1028.2.1 bt1028.2.2.1 bt1028.2.2.2 false s0_0 bt1026.2 (wrap64 (1 + bt1026.1)) (⟨#[]⟩ : ByteArray) (⟨#[]⟩ : ByteArray) 0 (⟨#[]⟩ : ByteArray))))
set_option maxHeartbeats 8000000 in
set_option maxRecDepth 100000 in
theorem spec_l3Draw.calls (k : Nat) (g : Nat) (s0_0 : List Int) (s0_1 : Int) (a1 : Int) (r1 : Int) (r2 : ByteArray) (r3 : ByteArray) (r4 : Int) (r5 : ByteArray) (r6 : List ByteArray) (r7 : Int) (w0 w : World) (hI : IsS104 w0 w g s0_0 s0_1) (hB : Below w0.heap.size w0 w) (h : spec_l3Draw.f k s0_0 s0_1 a1 = some (r1, r2, r3, r4, r5, r6, r7)) :
  Calls Try.prog 81 #[.pointer (some ⟨g, 0, none⟩), .int .i64 a1] w fun e w' => ∃ v5_ : Value, e = .returned (.agg #[.int .i64 r1, .string r2, .string r3, .int .i64 r4, .string r5, v5_]) ∧ Kd.R Kd.string 9 w' w.heap.size (fun _ => True) v5_ r6 ∧ IsS104 w0 w' g s0_0 r7 ∧ Below w0.heap.size w0 w' ∧ KeepBut w w' g none := by
 have hu63 := Try.underlying63
 have hu38 := Try.underlying38
 have HI0 := Aside0.mk hI
 have HK := am__ (KeepBut.refl w g none)
 have HL := Aside0.mk hB.size
 clear hI
 have HW0 := Aside0.mk hB.size
 have HB := Aside0.mk hB
 clear hB
 have H : ((spec_l1Rd_pick.f k s0_0 s0_1 7).bind fun bt1026 => ((spec_l3Uses.f (wrap64 (1 + bt1026.1))).bind fun bt1028 => (if bt1028.1 = true then ((spec_l1Width.f a1).bind fun t1033 => (spec_l3Draw.j0 k a1 bt1028.2.1 bt1028.2.2.1 bt1028.2.2.2 t1033 s0_0 bt1026.2 (wrap64 (1 + bt1026.1)) (⟨#[]⟩ : ByteArray) (⟨#[]⟩ : ByteArray) 0 (⟨#[]⟩ : ByteArray))) else (spec_l3Draw.j0 k a1 bt1028.2.1 bt1028.2.2.1 bt1028.2.2.2 false s0_0 bt1026.2 (wrap64 (1 + bt1026.1)) (⟨#[]⟩ : ByteArray) (⟨#[]⟩ : ByteArray) 0 (⟨#[]⟩ : ByteArray))))) = some (r1, r2, r3, r4, r5, r6, r7) := h
 clear h
 replace H := Option.bind_eq_some_iff.mp H
 obtain ⟨⟨t1026, t1027⟩, A30, H⟩ := H
 replace H : ((spec_l3Uses.f (wrap64 (1 + t1026))).bind fun bt1028 => (if bt1028.1 = true then ((spec_l1Width.f a1).bind fun t1033 => (spec_l3Draw.j0 k a1 bt1028.2.1 bt1028.2.2.1 bt1028.2.2.2 t1033 s0_0 t1027 (wrap64 (1 + t1026)) (⟨#[]⟩ : ByteArray) (⟨#[]⟩ : ByteArray) 0 (⟨#[]⟩ : ByteArray))) else (spec_l3Draw.j0 k a1 bt1028.2.1 bt1028.2.2.1 bt1028.2.2.2 false s0_0 t1027 (wrap64 (1 + t1026)) (⟨#[]⟩ : ByteArray) (⟨#[]⟩ : ByteArray) 0 (⟨#[]⟩ : ByteArray)))) = some (r1, r2, r3, r4, r5, r6, r7) := H
 have A3 := Aside0.mk A30
 clear A30
 replace H := Option.bind_eq_some_iff.mp H
 obtain ⟨⟨t1028, t1029, t1030, t1031⟩, A40, H⟩ := H
 replace H : (if t1028 = true then ((spec_l1Width.f a1).bind fun t1033 => (spec_l3Draw.j0 k a1 t1029 t1030 t1031 t1033 s0_0 t1027 (wrap64 (1 + t1026)) (⟨#[]⟩ : ByteArray) (⟨#[]⟩ : ByteArray) 0 (⟨#[]⟩ : ByteArray))) else (spec_l3Draw.j0 k a1 t1029 t1030 t1031 false s0_0 t1027 (wrap64 (1 + t1026)) (⟨#[]⟩ : ByteArray) (⟨#[]⟩ : ByteArray) 0 (⟨#[]⟩ : ByteArray))) = some (r1, r2, r3, r4, r5, r6, r7) := H
 have A4 := Aside0.mk A40
 clear A40
 have HC5 := Aside0.mk H
 clear H
 go_enter Try.func81, Try.ntmps81
 go_upto_region 4 with (first | ((with_reducible refine gate_dst (N := 4) rfl ?_); refine be__ 4 #[.int .i64 0, .string (⟨#[]⟩ : ByteArray), .string (⟨#[]⟩ : ByteArray), .int .i64 0, .string (⟨#[]⟩ : ByteArray), .slice none 0 0] 63 ?_; intro gb1025 hg w6 hbox hb; replace HB := am__ (below_step (b0_l__) hb); have BK1025 := am__ (hbox); have GW1025 := am__ ((by rw [hg]; exact (keep_size (w := w) (g := g) (row := none) (kee__)) : w.heap.size ≤ gb1025)); have GE1025 := am__ ((Nat.le_trans HW0.out (by rw [hg]; exact (keep_size (w := w) (g := g) (row := none) (kee__)) : w.heap.size ≤ gb1025) : w0.heap.size ≤ gb1025)); replace HK := am__ (KeepBut.trans (kee__) (KeepBut.of_below hb g none) (.inl rfl)); have NB0_1025 := am__ ((nlt__ hg (IsS104.lt (show IsS104 w0 _ g s0_0 s0_1 from hhi0__iss104)) : g ≠ gb1025)); have NB1025_0 := am__ ((ngt__ hg (IsS104.lt (show IsS104 w0 _ g s0_0 s0_1 from hhi0__iss104)) : gb1025 ≠ g)); replace HI0 := am__ (IsS104.below (hhi0__iss104) hb); clear hb hbox hg) | ((with_reducible refine gate_callee (f := 71) rfl ?_); refine gl__ (some 12) Try.func71 #[.pointer (some ⟨g, 0, none⟩), .int .i64 7] ?_; (with_reducible refine (spec_l1Rd_pick.calls k g s0_0 s0_1 7 t1026 t1027 w0 _ hhi0__iss104 b0_l__ A3.out).mono ?_); rintro e w7 ⟨rfl, hi, hb, hk⟩; refine ⟨_, rfl, ?_⟩; replace BK1025 := am__ (kbl__ hk BK1025.out NB1025_0.out); replace HK := am__ (KeepBut.trans (w := w) (kef__) hk (.inl rfl)); replace HB := am__ (hb); replace HI0 := am__ (hi); clear hi hb hk) | ((with_reducible refine gate_callee (f := 85) rfl ?_); refine gl__ (some 16) Try.func85 #[.int .i64 (wrap64 (1 + t1026))] ?_; (with_reducible refine (spec_l3Uses.calls (wrap64 (1 + t1026)) t1028 t1029 t1030 t1031 _ A4.out).mono ?_); rintro e w' ⟨rfl, ⟨nd, rfl⟩⟩; refine ⟨_, rfl, ?_⟩; (try (rw [drewN_self w7]; generalize hq_ : World.drewN w7 _ = w7; have n0_ : Aside0 (w7.heap[gb1025]? = some (.cells #[.int .i64 0, .string (⟨#[]⟩ : ByteArray), .string (⟨#[]⟩ : ByteArray), .int .i64 0, .string (⟨#[]⟩ : ByteArray), .slice none 0 0] 63 (0, 0))) := ⟨by rw [← hq_]; exact (blk__ BK1025.out)⟩; have n1_ : Aside0 (IsS104 w0 w7 g s0_0 t1027) := ⟨by rw [← hq_]; exact (hhi0__iss104)⟩; have n2_ : Aside0 (KeepBut w w7 g none) := ⟨by rw [← hq_]; exact (by repeat (first | (with_reducible first | exact HK.out | apply KeepBut.set_ | apply keep_drewN | apply keep_drew | apply keep_alloc | refine keep_far ?_ GW1025.out _) | exact HK.out))⟩; have n3_ : Aside0 (Below w0.heap.size w0 w7) := ⟨by rw [← hq_]; exact (b0_l__)⟩; clear BK1025 HI0 HK HB hq_; have BK1025 := n0_; have HI0 := n1_; have HK := n2_; have HB := n3_; clear n0_ n1_ n2_ n3_))) | ((with_reducible refine gate_dst (N := 10) rfl ?_); refine be__ 10 #[.int .i64 0, .string (⟨#[]⟩ : ByteArray), .string (⟨#[]⟩ : ByteArray), .int .i64 0, .string (⟨#[]⟩ : ByteArray), .slice none 0 0] 63 ?_; intro gb1032 hg w8 hbox hb; replace HB := am__ (below_step (b0_l__) hb); have BK1032 := am__ (hbox); have GW1032 := am__ ((by rw [hg]; exact (keep_size (w := w) (g := g) (row := none) (kef__)) : w.heap.size ≤ gb1032)); have GE1032 := am__ ((Nat.le_trans HW0.out (by rw [hg]; exact (keep_size (w := w) (g := g) (row := none) (kef__)) : w.heap.size ≤ gb1032) : w0.heap.size ≤ gb1032)); replace HK := am__ (KeepBut.trans (w := w) (kef__) (KeepBut.of_below hb g none) (.inl rfl)); have NB1025_1032 := am__ ((nlt__ hg (blk_lt (g := gb1025) (o := .cells #[.int .i64 0, .string (⟨#[]⟩ : ByteArray), .string (⟨#[]⟩ : ByteArray), .int .i64 0, .string (⟨#[]⟩ : ByteArray), .slice none 0 0] 63 (0, 0)) (blk__ BK1025.out)) : gb1025 ≠ gb1032)); have NB1032_1025 := am__ ((ngt__ hg (blk_lt (g := gb1025) (o := .cells #[.int .i64 0, .string (⟨#[]⟩ : ByteArray), .string (⟨#[]⟩ : ByteArray), .int .i64 0, .string (⟨#[]⟩ : ByteArray), .slice none 0 0] 63 (0, 0)) (blk__ BK1025.out)) : gb1032 ≠ gb1025)); replace BK1025 := am__ (blb__ BK1025.out hb); have NB0_1032 := am__ ((nlt__ hg (IsS104.lt (show IsS104 w0 _ g s0_0 t1027 from hhi0__iss104)) : g ≠ gb1032)); have NB1032_0 := am__ ((ngt__ hg (IsS104.lt (show IsS104 w0 _ g s0_0 t1027 from hhi0__iss104)) : gb1032 ≠ g)); replace HI0 := am__ (IsS104.below (hhi0__iss104) hb); clear hb hbox hg; have hnb9 := NB1032_1025.out; have hnc9 := NB1025_1032.out; have hnb10 := NB1032_0.out; have hnc10 := NB0_1032.out; obtain ⟨hcz11_0, hcz11_1, hcz11_2, hcz11_3, hcz11_4, hcz11_5, hfz11_0, hfz11_1, hfz11_2, hfz11_3, hfz11_4, hfz11_5⟩ := bk6__ BK1032.out))
 (try simp only [Act.put, List.setIfInBounds_toArray, List.set_cons_zero, List.set_cons_succ])
 go_cut [27] (fun v27 wc => ∃ (kq : Nat) (x27_4 : Bool), v27 = .bool x27_4 ∧ Aside0 (spec_l3Draw.j0 kq a1 t1029 t1030 t1031 x27_4 s0_0 t1027 (wrap64 (1 + t1026)) (⟨#[]⟩ : ByteArray) (⟨#[]⟩ : ByteArray) 0 (⟨#[]⟩ : ByteArray) = some (r1, r2, r3, r4, r5, r6, r7)) ∧ Aside0 (kq ≤ k) ∧ Aside0 (wc.heap[gb1025]? = some (.cells #[.int .i64 0, .string (⟨#[]⟩ : ByteArray), .string (⟨#[]⟩ : ByteArray), .int .i64 0, .string (⟨#[]⟩ : ByteArray), (.slice none 0 0)] 63 (0, 0))) ∧ Aside0 (wc.heap[gb1032]? = some (.cells #[.int .i64 (wrap64 (1 + t1026)), .string (⟨#[]⟩ : ByteArray), .string (⟨#[]⟩ : ByteArray), .int .i64 0, .string (⟨#[]⟩ : ByteArray), (.slice none 0 0)] 63 (0, 0))) ∧ Aside0 (IsS104 w0 wc g s0_0 t1027) ∧ Aside0 (KeepBut w wc g none) ∧ Aside0 (Below w0.heap.size w0 wc))
 case first =>
  have H := HC5.out
  clear HC5
  by_cases c12 : t1028 = true
  ·subst c12
   have H1 : ((spec_l1Width.f a1).bind fun t1033 => (spec_l3Draw.j0 k a1 t1029 t1030 t1031 t1033 s0_0 t1027 (wrap64 (1 + t1026)) (⟨#[]⟩ : ByteArray) (⟨#[]⟩ : ByteArray) 0 (⟨#[]⟩ : ByteArray))) = some (r1, r2, r3, r4, r5, r6, r7) := by rw [if_pos rfl] at H; exact H
   clear H
   have H := H1
   clear H1
   replace H := Option.bind_eq_some_iff.mp H
   obtain ⟨t1033, A130, H⟩ := H
   replace H : (spec_l3Draw.j0 k a1 t1029 t1030 t1031 t1033 s0_0 t1027 (wrap64 (1 + t1026)) (⟨#[]⟩ : ByteArray) (⟨#[]⟩ : ByteArray) 0 (⟨#[]⟩ : ByteArray)) = some (r1, r2, r3, r4, r5, r6, r7) := H
   have A13 := Aside0.mk A130
   clear A130
   have H' := Aside0.mk H
   clear H
   go_wp2_with (first | (go_at_call 56; (with_reducible refine (spec_l1Width.calls a1 t1033 _ A13.out).mono ?_); rintro e w' ⟨rfl, ⟨nd, rfl⟩⟩))
   go_meet
   case rel => exact ⟨_, (t1033), (rf__), H', ⟨by first | omega | exact Nat.le_refl _⟩, ⟨blf6__ BK1025.out⟩, ⟨bpu__ BK1032.out⟩, ⟨hhi0__iss104⟩, ⟨kef__⟩, ⟨b0_l__⟩⟩
  ·replace c12 := Bool.eq_false_iff.mpr c12
   subst c12
   have H1 : (spec_l3Draw.j0 k a1 t1029 t1030 t1031 false s0_0 t1027 (wrap64 (1 + t1026)) (⟨#[]⟩ : ByteArray) (⟨#[]⟩ : ByteArray) 0 (⟨#[]⟩ : ByteArray)) = some (r1, r2, r3, r4, r5, r6, r7) := by rw [if_neg (show ¬ (false = true) by decide)] at H; exact H
   clear H
   have H := H1
   clear H1
   have H' := Aside0.mk H
   clear H
   go_wp2
   go_meet
   case rel => exact ⟨_, (false), (rf__), H', ⟨by first | omega | exact Nat.le_refl _⟩, ⟨blf6__ BK1025.out⟩, ⟨bpu__ BK1032.out⟩, ⟨hhi0__iss104⟩, ⟨kef__⟩, ⟨b0_l__⟩⟩
 case rest =>
  clear HC5
  try clear c1
  try clear p2
  try clear p6
  try clear c7
  try clear c8
  try clear c9
  try clear c10
  try clear c12
  try clear hcz11_0 hcz11_1 hcz11_2 hcz11_3 hcz11_4 hcz11_5 hfz11_0 hfz11_1 hfz11_2 hfz11_3 hfz11_4 hfz11_5
  obtain ⟨kq, x27_4, rfl, HA, HJ4, BK1025, BK1032, HI0, HK, HB⟩ := hcut
  cases kq with
  | zero => exact absurd HA.out (by simp [spec_l3Draw.j0])
  | succ kj4 =>
   have H := HA.out
   clear HA
   simp only [spec_l3Draw.j0] at H
   have HC14 := Aside0.mk H
   clear H
   go_upto_if 27 with (fail)
   go_cut [] (fun wc => ∃ (kq : Nat) (x1001_13 : Int) (x1033001_13 : ByteArray), Aside0 (spec_l3Draw.j1 kq a1 t1029 t1030 t1031 s0_0 x1001_13 (wrap64 (1 + t1026)) x1033001_13 (⟨#[]⟩ : ByteArray) 0 (⟨#[]⟩ : ByteArray) = some (r1, r2, r3, r4, r5, r6, r7)) ∧ Aside0 (kq ≤ kj4) ∧ Aside0 (wc.heap[gb1025]? = some (.cells #[.int .i64 0, .string (⟨#[]⟩ : ByteArray), .string (⟨#[]⟩ : ByteArray), .int .i64 0, .string (⟨#[]⟩ : ByteArray), (.slice none 0 0)] 63 (0, 0))) ∧ Aside0 (wc.heap[gb1032]? = some (.cells #[.int .i64 (wrap64 (1 + t1026)), .string x1033001_13, .string (⟨#[]⟩ : ByteArray), .int .i64 0, .string (⟨#[]⟩ : ByteArray), (.slice none 0 0)] 63 (0, 0))) ∧ Aside0 (IsS104 w0 wc g s0_0 x1001_13) ∧ Aside0 (KeepBut w wc g none) ∧ Aside0 (Below w0.heap.size w0 wc))
   case first =>
    have H := HC14.out
    clear HC14
    by_cases c15 : x27_4 = true
    ·subst c15
     have H1 : ((spec_l1Text.f kj4 s0_0 t1027).bind fun bt1034 => ((spec_Sum.f kj4 bt1034.1 a1).bind fun t1036 => (spec_l3Draw.j1 kj4 a1 t1029 t1030 t1031 s0_0 bt1034.2 (wrap64 (1 + t1026)) t1036 (⟨#[]⟩ : ByteArray) 0 (⟨#[]⟩ : ByteArray)))) = some (r1, r2, r3, r4, r5, r6, r7) := by rw [if_pos rfl] at H; exact H
     clear H
     have H := H1
     clear H1
     replace H := Option.bind_eq_some_iff.mp H
     obtain ⟨⟨t1034, t1035⟩, A160, H⟩ := H
     replace H : ((spec_Sum.f kj4 t1034 a1).bind fun t1036 => (spec_l3Draw.j1 kj4 a1 t1029 t1030 t1031 s0_0 t1035 (wrap64 (1 + t1026)) t1036 (⟨#[]⟩ : ByteArray) 0 (⟨#[]⟩ : ByteArray))) = some (r1, r2, r3, r4, r5, r6, r7) := H
     have A16 := Aside0.mk A160
     clear A160
     replace H := Option.bind_eq_some_iff.mp H
     obtain ⟨t1036, A170, H⟩ := H
     replace H : (spec_l3Draw.j1 kj4 a1 t1029 t1030 t1031 s0_0 t1035 (wrap64 (1 + t1026)) t1036 (⟨#[]⟩ : ByteArray) 0 (⟨#[]⟩ : ByteArray)) = some (r1, r2, r3, r4, r5, r6, r7) := H
     have A17 := Aside0.mk A170
     clear A170
     have H' := Aside0.mk H
     clear H
     go_wp2_with (first | ((with_reducible refine gate_callee (f := 73) rfl ?_); refine gl__ (some 29) Try.func73 #[.pointer (some ⟨g, 0, none⟩)] ?_; (with_reducible refine (spec_l1Text.calls kj4 g s0_0 t1027 t1034 t1035 w0 _ hhi0__iss104 b0_l__ A16.out).mono ?_); rintro e w18 ⟨rfl, hi, hb, hk⟩; refine ⟨_, rfl, ?_⟩; replace BK1025 := am__ (kbl__ hk BK1025.out NB1025_0.out); replace BK1032 := am__ (kbl__ hk BK1032.out NB1032_0.out); replace HK := am__ (KeepBut.trans (w := w) (kef__) hk (.inl rfl)); replace HB := am__ (hb); replace HI0 := am__ (hi); clear hi hb hk) | ((with_reducible refine gate_callee (f := 15) rfl ?_); refine gl__ (some 31) Try.func15 #[.string t1034, .int .i64 a1] ?_; (with_reducible refine (spec_Sum.calls kj4 t1034 a1 t1036 _ A17.out).mono ?_); rintro e w19 ⟨rfl, hb⟩; refine ⟨_, rfl, ?_⟩; replace BK1025 := am__ (blb__ BK1025.out hb); replace BK1032 := am__ (blb__ BK1032.out hb); replace HK := am__ (KeepBut.trans (w := w) (kef__) (KeepBut.of_below hb g none) (.inl rfl)); replace HB := am__ (below_step (b0_l__) hb); replace HI0 := am__ (IsS104.below (hhi0__iss104) hb); clear hb; have hnb20 := NB1032_1025.out; have hnc20 := NB1025_1032.out; have hnb21 := NB1032_0.out; have hnc21 := NB0_1032.out; obtain ⟨hcz22_0, hcz22_1, hcz22_2, hcz22_3, hcz22_4, hcz22_5, hfz22_0, hfz22_1, hfz22_2, hfz22_3, hfz22_4, hfz22_5⟩ := bk6__ BK1032.out))
     go_meet
     case rel => exact ⟨_, (t1035), (t1036), H', ⟨by have := HJ4.out; first | omega | exact Nat.le_refl _⟩, ⟨blf1__ BK1025.out⟩, ⟨bpu__ BK1032.out⟩, ⟨hhi0__iss104⟩, ⟨kef__⟩, ⟨b0_l__⟩⟩
    ·replace c15 := Bool.eq_false_iff.mpr c15
     subst c15
     have H1 : (spec_l3Draw.j1 kj4 a1 t1029 t1030 t1031 s0_0 t1027 (wrap64 (1 + t1026)) (⟨#[]⟩ : ByteArray) (⟨#[]⟩ : ByteArray) 0 (⟨#[]⟩ : ByteArray)) = some (r1, r2, r3, r4, r5, r6, r7) := by rw [if_neg (show ¬ (false = true) by decide)] at H; exact H
     clear H
     have H := H1
     clear H1
     have H' := Aside0.mk H
     clear H
     go_wp2
     go_meet
     case rel => exact ⟨_, (t1027), ((⟨#[]⟩ : ByteArray)), H', ⟨by have := HJ4.out; first | omega | exact Nat.le_refl _⟩, ⟨blk__ BK1025.out⟩, ⟨blk__ BK1032.out⟩, ⟨hhi0__iss104⟩, ⟨kef__⟩, ⟨b0_l__⟩⟩
   case rest =>
    clear HC14
    try clear c1
    try clear c2
    try clear p2
    try clear p6
    try clear c7
    try clear c8
    try clear c9
    try clear c10
    try clear c12
    try clear c15
    try clear c20
    try clear c21
    try clear hcz11_0 hcz11_1 hcz11_2 hcz11_3 hcz11_4 hcz11_5 hfz11_0 hfz11_1 hfz11_2 hfz11_3 hfz11_4 hfz11_5
    try clear hcz22_0 hcz22_1 hcz22_2 hcz22_3 hcz22_4 hcz22_5 hfz22_0 hfz22_1 hfz22_2 hfz22_3 hfz22_4 hfz22_5
    try clear p2
    try clear p6
    obtain ⟨kq, x1001_13, x1033001_13, HA, HJ13, BK1025, BK1032, HI0, HK, HB⟩ := hcut
    cases kq with
    | zero => exact absurd HA.out (by simp [spec_l3Draw.j1])
    | succ kj13 =>
     have H := HA.out
     clear HA
     simp only [spec_l3Draw.j1] at H
     have HC23 := Aside0.mk H
     clear H
     go_upto_if 33 with (fail)
     go_cut [] (fun wc => ∃ (kq : Nat) (x1001_22 : Int) (x1033002_22 : ByteArray), Aside0 (spec_l3Draw.j2 kq a1 t1030 t1031 s0_0 x1001_22 (wrap64 (1 + t1026)) x1033001_13 x1033002_22 0 (⟨#[]⟩ : ByteArray) = some (r1, r2, r3, r4, r5, r6, r7)) ∧ Aside0 (kq ≤ kj13) ∧ Aside0 (wc.heap[gb1025]? = some (.cells #[.int .i64 0, .string (⟨#[]⟩ : ByteArray), .string (⟨#[]⟩ : ByteArray), .int .i64 0, .string (⟨#[]⟩ : ByteArray), (.slice none 0 0)] 63 (0, 0))) ∧ Aside0 (wc.heap[gb1032]? = some (.cells #[.int .i64 (wrap64 (1 + t1026)), .string x1033001_13, .string x1033002_22, .int .i64 0, .string (⟨#[]⟩ : ByteArray), (.slice none 0 0)] 63 (0, 0))) ∧ Aside0 (IsS104 w0 wc g s0_0 x1001_22) ∧ Aside0 (KeepBut w wc g none) ∧ Aside0 (Below w0.heap.size w0 wc))
     case first =>
      have H := HC23.out
      clear HC23
      by_cases c24 : t1029 = true
      ·subst c24
       have H1 : ((spec_l1Many.f kj13 (⟨#[110]⟩ : ByteArray) 40).bind fun t1037 => ((some (([(⟨#[112]⟩ : ByteArray), (⟨#[113]⟩ : ByteArray), (⟨#[116, 111, 112]⟩ : ByteArray), t1037] : List ByteArray) : List ByteArray)).bind fun y1038 => ((spec_l1Rd_pick.f kj13 s0_0 x1001_13 4).bind fun bt1041 => (if 0 ≤ bt1041.1 then (if bt1041.1 < (y1038.length : Int) then (spec_l3Draw.j2 kj13 a1 t1030 t1031 s0_0 bt1041.2 (wrap64 (1 + t1026)) x1033001_13 (rdOf ByteArray.empty y1038 bt1041.1) 0 (⟨#[]⟩ : ByteArray)) else (none)) else (none))))) = some (r1, r2, r3, r4, r5, r6, r7) := by rw [if_pos rfl] at H; exact H
       clear H
       have H := H1
       clear H1
       replace H := Option.bind_eq_some_iff.mp H
       obtain ⟨t1037, A250, H⟩ := H
       replace H : ((some (([(⟨#[112]⟩ : ByteArray), (⟨#[113]⟩ : ByteArray), (⟨#[116, 111, 112]⟩ : ByteArray), t1037] : List ByteArray) : List ByteArray)).bind fun y1038 => ((spec_l1Rd_pick.f kj13 s0_0 x1001_13 4).bind fun bt1041 => (if 0 ≤ bt1041.1 then (if bt1041.1 < (y1038.length : Int) then (spec_l3Draw.j2 kj13 a1 t1030 t1031 s0_0 bt1041.2 (wrap64 (1 + t1026)) x1033001_13 (rdOf ByteArray.empty y1038 bt1041.1) 0 (⟨#[]⟩ : ByteArray)) else (none)) else (none)))) = some (r1, r2, r3, r4, r5, r6, r7) := H
       have A25 := Aside0.mk A250
       clear A250
       obtain ⟨y1038, hy1038⟩ : ∃ y_ : List ByteArray, y_ = (([(⟨#[112]⟩ : ByteArray), (⟨#[113]⟩ : ByteArray), (⟨#[116, 111, 112]⟩ : ByteArray), t1037] : List ByteArray)) := ⟨_, rfl⟩
       replace H : ((spec_l1Rd_pick.f kj13 s0_0 x1001_13 4).bind fun bt1041 => (if 0 ≤ bt1041.1 then (if bt1041.1 < (y1038.length : Int) then (spec_l3Draw.j2 kj13 a1 t1030 t1031 s0_0 bt1041.2 (wrap64 (1 + t1026)) x1033001_13 (rdOf ByteArray.empty y1038 bt1041.1) 0 (⟨#[]⟩ : ByteArray)) else (none)) else (none))) = some (r1, r2, r3, r4, r5, r6, r7) := by first | (rw [hy1038]; with_reducible exact H) | (have H2_ := (Option.bind_some _ _).symm.trans H; rw [hy1038]; with_reducible exact H2_) | (have H2_ := (Option.bind_some _ _).symm.trans H; with_reducible exact H2_) | with_reducible exact H | (rw [hy1038]; exact H) | exact H
       have Ny1038 := Aside0.mk hy1038
       clear hy1038
       replace H := Option.bind_eq_some_iff.mp H
       obtain ⟨⟨t1041, t1042⟩, A260, H⟩ := H
       replace H : (if 0 ≤ t1041 then (if t1041 < (y1038.length : Int) then (spec_l3Draw.j2 kj13 a1 t1030 t1031 s0_0 t1042 (wrap64 (1 + t1026)) x1033001_13 (rdOf ByteArray.empty y1038 t1041) 0 (⟨#[]⟩ : ByteArray)) else (none)) else (none)) = some (r1, r2, r3, r4, r5, r6, r7) := H
       have A26 := Aside0.mk A260
       clear A260
       by_cases c27 : 0 ≤ t1041
       ·rw [if_pos c27] at H
        have c27b0 : decide (0 ≤ t1041) = true := decide_eq_true c27
        clear c27
        (first | rw [c27b0] | (simp only [i64_w, i32_w]; rw [c27b0]) | skip)
        by_cases c28 : t1041 < (y1038.length : Int)
        ·rw [if_pos c28] at H
         have c28b0 : decide (t1041 < (y1038.length : Int)) = true := decide_eq_true c28
         clear c28
         have H' := Aside0.mk H
         clear H
         go_wp2_with (first | ((with_reducible refine gate_callee (f := 72) rfl ?_); refine gl__ (some 34) Try.func72 #[.string (⟨#[110]⟩ : ByteArray), .int .i64 40] ?_; (with_reducible refine (spec_l1Many.calls kj13 (⟨#[110]⟩ : ByteArray) 40 t1037 _ A25.out).mono ?_); rintro e w' ⟨rfl, ⟨nd, rfl⟩⟩; refine ⟨_, rfl, ?_⟩; (try (rw [drewN_self wc]; generalize hq_ : World.drewN wc _ = wc; have n0_ : Aside0 (wc.heap[gb1025]? = some (.cells #[.int .i64 0, .string (⟨#[]⟩ : ByteArray), .string (⟨#[]⟩ : ByteArray), .int .i64 0, .string (⟨#[]⟩ : ByteArray), .slice none 0 0] 63 (0, 0))) := ⟨by rw [← hq_]; exact (blk__ BK1025.out)⟩; have n1_ : Aside0 (wc.heap[gb1032]? = some (.cells #[.int .i64 (wrap64 (1 + t1026)), .string x1033001_13, .string (⟨#[]⟩ : ByteArray), .int .i64 0, .string (⟨#[]⟩ : ByteArray), .slice none 0 0] 63 (0, 0))) := ⟨by rw [← hq_]; exact (blk__ BK1032.out)⟩; have n2_ : Aside0 (IsS104 w0 wc g s0_0 x1001_13) := ⟨by rw [← hq_]; exact (hhi0__iss104)⟩; have n3_ : Aside0 (KeepBut w wc g none) := ⟨by rw [← hq_]; exact (by repeat (first | (with_reducible first | exact HK.out | apply KeepBut.set_ | apply keep_drewN | apply keep_drew | apply keep_alloc | refine keep_far ?_ GW1025.out _ | refine keep_far ?_ GW1032.out _) | exact HK.out))⟩; have n4_ : Aside0 (Below w0.heap.size w0 wc) := ⟨by rw [← hq_]; exact (b0_l__)⟩; clear BK1025 BK1032 HI0 HK HB hq_; have BK1025 := n0_; have BK1032 := n1_; have HI0 := n2_; have HK := n3_; have HB := n4_; clear n0_ n1_ n2_ n3_ n4_))) | ((with_reducible refine gate_dst (N := 35) rfl ?_); refine Kd.R_lit Kd.string _ 9 ?hg (N := 35) ?hd (xs := ([(⟨#[112]⟩ : ByteArray), (⟨#[113]⟩ : ByteArray), (⟨#[116, 111, 112]⟩ : ByteArray), t1037] : List ByteArray)) (inner := [.string (⟨#[112]⟩ : ByteArray), .string (⟨#[113]⟩ : ByteArray), .string (⟨#[116, 111, 112]⟩ : ByteArray), .string t1037]) (ok := fun _ => True) (okp := fun _ => True) ?hr ?hp (fun _ hk => hk) trivial (Below.refl _ _) (Nat.le_refl _) (by simp) ?_; (case hd => rfl); (case hg => rfl); (case hr => first | (go_simp; done) | (go_simp; rfl)); (case hp => exact (Reps.one (show Kd.M Kd.string _ _ _ (⟨#[112]⟩ : ByteArray) [.string (⟨#[112]⟩ : ByteArray)] from rfl) (Reps.one (show Kd.M Kd.string _ _ _ (⟨#[113]⟩ : ByteArray) [.string (⟨#[113]⟩ : ByteArray)] from rfl) (Reps.one (show Kd.M Kd.string _ _ _ (⟨#[116, 111, 112]⟩ : ByteArray) [.string (⟨#[116, 111, 112]⟩ : ByteArray)] from rfl) (Reps.one (show Kd.M Kd.string _ _ _ t1037 [.string t1037] from rfl) (Reps.none _ _)))))); intro v1039 w29 ho30 hb hg_ hnew_; clear hg_ hnew_; (first | rw [← Ny1038.out] at ho30 | (simp only [Int.reduceToNat] at ho30; rw [← Ny1038.out] at ho30)); have HO1040 := am__ (Kd.R_lower ho30 (keep_size (w := w) (g := g) (row := none) (kef__))); replace BK1025 := am__ (blb__ BK1025.out hb); replace BK1032 := am__ (blb__ BK1032.out hb); replace HK := am__ (KeepBut.trans (w := w) (kef__) (KeepBut.of_below hb g none) (.inl rfl)); replace HB := am__ (below_step (b0_l__) hb); replace HI0 := am__ (IsS104.below (hhi0__iss104) hb); clear hb ho30) | ((with_reducible refine gate_callee (f := 71) rfl ?_); refine gl__ (some 37) Try.func71 #[.pointer (some ⟨g, 0, none⟩), .int .i64 4] ?_; (with_reducible refine (spec_l1Rd_pick.calls kj13 g s0_0 x1001_13 4 t1041 t1042 w0 _ hhi0__iss104 b0_l__ A26.out).mono ?_); rintro e w31 ⟨rfl, hi, hb, hk⟩; refine ⟨_, rfl, ?_⟩; replace BK1025 := am__ (kbl__ hk BK1025.out NB1025_0.out); replace BK1032 := am__ (kbl__ hk BK1032.out NB1032_0.out); replace HO1040 := am__ (Kd.R_mono (Kd.R_keep (IsS104.apart (show IsS104 w0 _ g s0_0 x1001_13 from hhi0__iss104) (rr__ HO1040.out) (by decide)) hk h2__) h1__); replace HK := am__ (KeepBut.trans (w := w) (kef__) hk (.inl rfl)); replace HB := am__ (hb); replace HI0 := am__ (hi); clear hi hb hk; obtain ⟨Ao32, co32, eo32⟩ := Kd.R_slice HO1040.out; subst eo32; have p1043 : 0 ≤ (t1041 : Int) := of_decide_eq_true (by first | (with_reducible assumption) | assumption); have q1043 : t1041 < (y1038.length : Int) := of_decide_eq_true (by first | (with_reducible assumption) | assumption); obtain ⟨ad1043, e1043, hx1043_0⟩ := Kd.at_string (Kd.R_reads' HO1040.out).2.2 t1041 p1043 q1043; cases e1043; replace p1043 := eq_true p1043; replace q1043 := eq_true q1043; have hnb33 := NB1032_1025.out; have hnc33 := NB1025_1032.out; have hnb34 := NB1032_0.out; have hnc34 := NB0_1032.out; obtain ⟨hcz35_0, hcz35_1, hcz35_2, hcz35_3, hcz35_4, hcz35_5, hfz35_0, hfz35_1, hfz35_2, hfz35_3, hfz35_4, hfz35_5⟩ := bk6__ BK1032.out))
         go_meet
         case rel => exact ⟨_, (t1042), (rdOf ByteArray.empty y1038 t1041), H', ⟨by have := HJ4.out; have := HJ13.out; first | omega | exact Nat.le_refl _⟩, ⟨blf1__ BK1025.out⟩, ⟨bpu__ BK1032.out⟩, ⟨hhi0__iss104⟩, ⟨kef__⟩, ⟨b0_l__⟩⟩
        ·rw [if_neg c28] at H
         exact absurd H (by simp)
       ·rw [if_neg c27] at H
        exact absurd H (by simp)
      ·replace c24 := Bool.eq_false_iff.mpr c24
       subst c24
       have H1 : (spec_l3Draw.j2 kj13 a1 t1030 t1031 s0_0 x1001_13 (wrap64 (1 + t1026)) x1033001_13 (⟨#[]⟩ : ByteArray) 0 (⟨#[]⟩ : ByteArray)) = some (r1, r2, r3, r4, r5, r6, r7) := by rw [if_neg (show ¬ (false = true) by decide)] at H; exact H
       clear H
       have H := H1
       clear H1
       have H' := Aside0.mk H
       clear H
       go_wp2
       go_meet
       case rel => exact ⟨_, (x1001_13), ((⟨#[]⟩ : ByteArray)), H', ⟨by have := HJ4.out; have := HJ13.out; first | omega | exact Nat.le_refl _⟩, ⟨blk__ BK1025.out⟩, ⟨blk__ BK1032.out⟩, ⟨hhi0__iss104⟩, ⟨kef__⟩, ⟨b0_l__⟩⟩
     case rest =>
      clear HC23
      try clear c1
      try clear p1
      try clear q1
      try clear hx1
      try clear c2
      try clear p2
      try clear c3
      try clear p6
      try clear c7
      try clear c8
      try clear c9
      try clear c10
      try clear p10
      try clear q10
      try clear hx10
      try clear c12
      try clear c15
      try clear c20
      try clear c21
      try clear c24
      try clear c27
      try clear c27b0
      try clear c28
      try clear c28b0
      try clear c33
      try clear c34
      try clear hcz11_0 hcz11_1 hcz11_2 hcz11_3 hcz11_4 hcz11_5 hfz11_0 hfz11_1 hfz11_2 hfz11_3 hfz11_4 hfz11_5
      try clear hcz22_0 hcz22_1 hcz22_2 hcz22_3 hcz22_4 hcz22_5 hfz22_0 hfz22_1 hfz22_2 hfz22_3 hfz22_4 hfz22_5
      try clear hcz35_0 hcz35_1 hcz35_2 hcz35_3 hcz35_4 hcz35_5 hfz35_0 hfz35_1 hfz35_2 hfz35_3 hfz35_4 hfz35_5
      try clear hx1043_0
      try clear p1043
      try clear p2
      try clear p6
      try clear q1043
      obtain ⟨kq, x1001_22, x1033002_22, HA, HJ22, BK1025, BK1032, HI0, HK, HB⟩ := hcut
      cases kq with
      | zero => exact absurd HA.out (by simp [spec_l3Draw.j2])
      | succ kj22 =>
       have H := HA.out
       clear HA
       simp only [spec_l3Draw.j2] at H
       by_cases c36 : t1030 > 0
       ·rw [if_pos c36] at H
        have c36b0 : decide (0 < t1030) = true := decide_eq_true c36
        clear c36
        obtain ⟨y1044, hy1044⟩ : ∃ y_ : List Int, y_ = (([1, 5, 10, 255, 256, 65536, 100000] : List Int)) := ⟨_, rfl⟩
        replace H : ((spec_l1Rd_pick.f kj22 s0_0 x1001_22 7).bind fun bt1047 => (if 0 ≤ bt1047.1 then (if bt1047.1 < (y1044.length : Int) then (if t1031 = true then ((spec_l1DrawThing.f kj22 s0_0 bt1047.2 a1).bind fun bt1050 => (some ((wrap64 (1 + t1026)), x1033001_13, x1033002_22, rd y1044 bt1047.1, bt1050.1, bt1050.2.1, bt1050.2.2))) else (some ((wrap64 (1 + t1026)), x1033001_13, x1033002_22, rd y1044 bt1047.1, (⟨#[]⟩ : ByteArray), ([] : List ByteArray), bt1047.2))) else (none)) else (none))) = some (r1, r2, r3, r4, r5, r6, r7) := by first | (rw [hy1044]; with_reducible exact H) | (have H2_ := (Option.bind_some _ _).symm.trans H; rw [hy1044]; with_reducible exact H2_) | (have H2_ := (Option.bind_some _ _).symm.trans H; with_reducible exact H2_) | with_reducible exact H | (rw [hy1044]; exact H) | exact H
        have Ny1044 := Aside0.mk hy1044
        clear hy1044
        replace H := Option.bind_eq_some_iff.mp H
        obtain ⟨⟨t1047, t1048⟩, A370, H⟩ := H
        replace H : (if 0 ≤ t1047 then (if t1047 < (y1044.length : Int) then (if t1031 = true then ((spec_l1DrawThing.f kj22 s0_0 t1048 a1).bind fun bt1050 => (some ((wrap64 (1 + t1026)), x1033001_13, x1033002_22, rd y1044 t1047, bt1050.1, bt1050.2.1, bt1050.2.2))) else (some ((wrap64 (1 + t1026)), x1033001_13, x1033002_22, rd y1044 t1047, (⟨#[]⟩ : ByteArray), ([] : List ByteArray), t1048))) else (none)) else (none)) = some (r1, r2, r3, r4, r5, r6, r7) := H
        have A37 := Aside0.mk A370
        clear A370
        by_cases c38 : 0 ≤ t1047
        ·rw [if_pos c38] at H
         have c38b0 : decide (0 ≤ t1047) = true := decide_eq_true c38
         clear c38
         by_cases c39 : t1047 < (y1044.length : Int)
         ·rw [if_pos c39] at H
          have c39b0 : decide (t1047 < (y1044.length : Int)) = true := decide_eq_true c39
          clear c39
          by_cases c40 : t1031 = true
          ·subst c40
           have H1 : ((spec_l1DrawThing.f kj22 s0_0 t1048 a1).bind fun bt1050 => (some ((wrap64 (1 + t1026)), x1033001_13, x1033002_22, rd y1044 t1047, bt1050.1, bt1050.2.1, bt1050.2.2))) = some (r1, r2, r3, r4, r5, r6, r7) := by rw [if_pos rfl] at H; exact H
           clear H
           have H := H1
           clear H1
           replace H := Option.bind_eq_some_iff.mp H
           obtain ⟨⟨t1050, t1051, t1054⟩, A410, H⟩ := H
           replace H : (some ((wrap64 (1 + t1026)), x1033001_13, x1033002_22, rd y1044 t1047, t1050, t1051, t1054)) = some (r1, r2, r3, r4, r5, r6, r7) := H
           have A41 := Aside0.mk A410
           clear A410
           simp only [Option.some.injEq, Prod.mk.injEq] at H
           obtain ⟨rfl, rfl, rfl, rfl, rfl, rfl, rfl⟩ := H
           go_wp2_with (first | ((with_reducible refine gate_dst (N := 43) rfl ?_); refine Kd.R_lit (Kd.int .i64) _ 3 ?hg (N := 43) ?hd (xs := ([1, 5, 10, 255, 256, 65536, 100000] : List Int)) (inner := [.int .i64 1, .int .i64 5, .int .i64 10, .int .i64 255, .int .i64 256, .int .i64 65536, .int .i64 100000]) (ok := fun _ => True) (okp := fun _ => True) ?hr ?hp (fun _ hk => hk) trivial (Below.refl _ _) (Nat.le_refl _) (by simp) ?_; (case hd => rfl); (case hg => rfl); (case hr => first | (go_simp; done) | (go_simp; rfl)); (case hp => exact (Reps.one (show Kd.M (Kd.int .i64) _ _ _ 1 [.int .i64 1] from rfl) (Reps.one (show Kd.M (Kd.int .i64) _ _ _ 5 [.int .i64 5] from rfl) (Reps.one (show Kd.M (Kd.int .i64) _ _ _ 10 [.int .i64 10] from rfl) (Reps.one (show Kd.M (Kd.int .i64) _ _ _ 255 [.int .i64 255] from rfl) (Reps.one (show Kd.M (Kd.int .i64) _ _ _ 256 [.int .i64 256] from rfl) (Reps.one (show Kd.M (Kd.int .i64) _ _ _ 65536 [.int .i64 65536] from rfl) (Reps.one (show Kd.M (Kd.int .i64) _ _ _ 100000 [.int .i64 100000] from rfl) (Reps.none _ _))))))))); intro v1045 w42 ho43 hb hg_ hnew_; clear hg_ hnew_; (first | rw [← Ny1044.out] at ho43 | (simp only [Int.reduceToNat] at ho43; rw [← Ny1044.out] at ho43)); have HO1046 := am__ (Kd.R_lower ho43 (keep_size (w := w) (g := g) (row := none) (kef__))); replace BK1025 := am__ (blb__ BK1025.out hb); replace BK1032 := am__ (blb__ BK1032.out hb); replace HK := am__ (KeepBut.trans (w := w) (kef__) (KeepBut.of_below hb g none) (.inl rfl)); replace HB := am__ (below_step (b0_l__) hb); replace HI0 := am__ (IsS104.below (hhi0__iss104) hb); clear hb ho43) | ((with_reducible refine gate_callee (f := 71) rfl ?_); refine gl__ (some 45) Try.func71 #[.pointer (some ⟨g, 0, none⟩), .int .i64 7] ?_; (with_reducible refine (spec_l1Rd_pick.calls kj22 g s0_0 x1001_22 7 t1047 t1048 w0 _ hhi0__iss104 b0_l__ A37.out).mono ?_); rintro e w44 ⟨rfl, hi, hb, hk⟩; refine ⟨_, rfl, ?_⟩; replace BK1025 := am__ (kbl__ hk BK1025.out NB1025_0.out); replace BK1032 := am__ (kbl__ hk BK1032.out NB1032_0.out); replace HO1046 := am__ (Kd.R_mono (Kd.R_keep (IsS104.apart (show IsS104 w0 _ g s0_0 x1001_22 from hhi0__iss104) (rr__ HO1046.out) (by decide)) hk h2__) h1__); replace HK := am__ (KeepBut.trans (w := w) (kef__) hk (.inl rfl)); replace HB := am__ (hb); replace HI0 := am__ (hi); clear hi hb hk; obtain ⟨Ao45, co45, eo45⟩ := Kd.R_slice HO1046.out; subst eo45; have p1049 : 0 ≤ (t1047 : Int) := of_decide_eq_true (by first | (with_reducible assumption) | assumption); have q1049 : t1047 < (y1044.length : Int) := of_decide_eq_true (by first | (with_reducible assumption) | assumption); obtain ⟨ad1049, e1049, hx1049_0⟩ := Kd.at_int (Kd.R_reads' HO1046.out).2.2 t1047 p1049 q1049; cases e1049; replace p1049 := eq_true p1049; replace q1049 := eq_true q1049; have hnb46 := NB1032_1025.out; have hnc46 := NB1025_1032.out; have hnb47 := NB1032_0.out; have hnc47 := NB0_1032.out; obtain ⟨hcz48_0, hcz48_1, hcz48_2, hcz48_3, hcz48_4, hcz48_5, hfz48_0, hfz48_1, hfz48_2, hfz48_3, hfz48_4, hfz48_5⟩ := bk6__ BK1032.out) | ((with_reducible refine gate_callee (f := 79) rfl ?_); refine gl__ (some 52) Try.func79 #[.pointer (some ⟨g, 0, none⟩), .int .i64 a1] ?_; (with_reducible refine (spec_l1DrawThing.calls kj22 g s0_0 t1048 a1 t1050 t1051 t1054 w0 _ hhi0__iss104 b0_l__ A41.out).mono ?_); rintro e w49 ⟨v1052, rfl, ho0, hi, hb, hk⟩; refine ⟨_, rfl, ?_⟩; replace BK1025 := am__ (KeepBut.blk hk (g' := gb1025) (o := .cells #[.int .i64 0, .string (⟨#[]⟩ : ByteArray), .string (⟨#[]⟩ : ByteArray), .int .i64 0, .string (⟨#[]⟩ : ByteArray), .slice none 0 0] 63 (0, 0)) (blf1__ BK1025.out) NB1025_0.out (by simp)); replace HO1046 := am__ (Kd.R_mono (Kd.R_keep (IsS104.apart (show IsS104 w0 _ g s0_0 t1048 from hhi0__iss104) (by refine rps__ ?_; exact (Kd.R_mono (Kd.R_far (p := ⟨gb1032, 3, none⟩) (Kd.R_types HO1046.out BK1032.out (by decide)) h2__ (.int .i64 (rd y1044 t1047))) h1__)) (by decide)) hk h2__) h1__); replace BK1032 := am__ (KeepBut.blk hk (g' := gb1032) (o := .cells #[.int .i64 (wrap64 (1 + t1026)), .string x1033001_13, .string x1033002_22, .int .i64 (rd y1044 t1047), .string (⟨#[]⟩ : ByteArray), .slice none 0 0] 63 (0, 0)) (bpu__ BK1032.out) NB1032_0.out (by simp)); have HO1053 := am__ (Kd.R_lower ho0 (keep_size (w := w) (g := g) (row := none) (kef__))); replace HK := am__ (KeepBut.trans (w := w) (kef__) hk (.inl rfl)); replace HB := am__ (hb); replace HI0 := am__ (hi); clear hi hb hk; (try clear ho0); obtain ⟨hcz50_0, hcz50_1, hcz50_2, hcz50_3, hcz50_4, hcz50_5, hfz50_0, hfz50_1, hfz50_2, hfz50_3, hfz50_4, hfz50_5⟩ := bk6__ BK1032.out; obtain ⟨Ao51, co51, eo51⟩ := Kd.R_slice HO1053.out; subst eo51; have hnb52 := NB1025_0.out; have hnc52 := NB0_1025.out; obtain ⟨hcz53_0, hcz53_1, hcz53_2, hcz53_3, hcz53_4, hcz53_5, hfz53_0, hfz53_1, hfz53_2, hfz53_3, hfz53_4, hfz53_5⟩ := bk6__ BK1025.out))
           refine bodyPost_ret (results_cell_row rfl _ _ gb1025 63 #[.int .i64 (wrap64 (1 + t1026)), .string x1033001_13, .string x1033002_22, .int .i64 (rd y1044 t1047), .string t1050, .slice Ao51 t1051.length co51] (0, 0) _ rfl (bpu__ BK1025.out) Try.underlying63 rfl (by kernel_rfl)) rfl ?_
           exact ⟨_, by first | rfl | (simp [errW_none, errW_some] <;> rfl) | (simp [*, errW_none, errW_some] <;> rfl), by refine rps__ ?_; exact Kd.R_mono (Kd.R_far (p := ⟨gb1025, 5, none⟩) (Kd.R_far (p := ⟨gb1025, 4, none⟩) (Kd.R_far (p := ⟨gb1025, 3, none⟩) (Kd.R_far (p := ⟨gb1025, 2, none⟩) (Kd.R_far (p := ⟨gb1025, 1, none⟩) (Kd.R_far (p := ⟨gb1025, 0, none⟩) (Kd.R_far (p := ⟨gb1032, 5, none⟩) (Kd.R_far (p := ⟨gb1032, 4, none⟩) (Kd.R_types (Kd.R_types HO1053.out BK1032.out (by decide)) BK1025.out (by decide)) (fun _ hk => hk.1.2) (.string t1050)) (fun _ hk => hk.1.2) (.slice Ao51 t1051.length co51)) h2__ (.int .i64 (wrap64 (1 + t1026)))) h2__ (.string x1033001_13)) h2__ (.string x1033002_22)) h2__ (.int .i64 (rd y1044 t1047))) h2__ (.string t1050)) h2__ (.slice Ao51 t1051.length co51)) (fun _ hk => trivial), hhi0__iss104, by repeat (first | (with_reducible first | exact HB.out | apply below_alloc | apply pw_below_drewN | apply below_drew1 | refine below_set ?_ (IsS104.ge HI0.out) | refine below_set ?_ GE1025.out | refine below_set ?_ GE1032.out) | exact HB.out), by repeat (first | (with_reducible first | exact HK.out | apply KeepBut.set_ | apply keep_drewN | apply keep_drew | apply keep_alloc | refine keep_far ?_ GW1025.out _ | refine keep_far ?_ GW1032.out _) | exact HK.out)⟩
          ·replace c40 := Bool.eq_false_iff.mpr c40
           subst c40
           have H1 : (some ((wrap64 (1 + t1026)), x1033001_13, x1033002_22, rd y1044 t1047, (⟨#[]⟩ : ByteArray), ([] : List ByteArray), t1048)) = some (r1, r2, r3, r4, r5, r6, r7) := by rw [if_neg (show ¬ (false = true) by decide)] at H; exact H
           clear H
           have H := H1
           clear H1
           simp only [Option.some.injEq, Prod.mk.injEq] at H
           obtain ⟨rfl, rfl, rfl, rfl, rfl, rfl, rfl⟩ := H
           go_wp2_with (first | ((with_reducible refine gate_dst (N := 43) rfl ?_); refine Kd.R_lit (Kd.int .i64) _ 3 ?hg (N := 43) ?hd (xs := ([1, 5, 10, 255, 256, 65536, 100000] : List Int)) (inner := [.int .i64 1, .int .i64 5, .int .i64 10, .int .i64 255, .int .i64 256, .int .i64 65536, .int .i64 100000]) (ok := fun _ => True) (okp := fun _ => True) ?hr ?hp (fun _ hk => hk) trivial (Below.refl _ _) (Nat.le_refl _) (by simp) ?_; (case hd => rfl); (case hg => rfl); (case hr => first | (go_simp; done) | (go_simp; rfl)); (case hp => exact (Reps.one (show Kd.M (Kd.int .i64) _ _ _ 1 [.int .i64 1] from rfl) (Reps.one (show Kd.M (Kd.int .i64) _ _ _ 5 [.int .i64 5] from rfl) (Reps.one (show Kd.M (Kd.int .i64) _ _ _ 10 [.int .i64 10] from rfl) (Reps.one (show Kd.M (Kd.int .i64) _ _ _ 255 [.int .i64 255] from rfl) (Reps.one (show Kd.M (Kd.int .i64) _ _ _ 256 [.int .i64 256] from rfl) (Reps.one (show Kd.M (Kd.int .i64) _ _ _ 65536 [.int .i64 65536] from rfl) (Reps.one (show Kd.M (Kd.int .i64) _ _ _ 100000 [.int .i64 100000] from rfl) (Reps.none _ _))))))))); intro v1045 w54 ho55 hb hg_ hnew_; clear hg_ hnew_; (first | rw [← Ny1044.out] at ho55 | (simp only [Int.reduceToNat] at ho55; rw [← Ny1044.out] at ho55)); have HO1046 := am__ (Kd.R_lower ho55 (keep_size (w := w) (g := g) (row := none) (kef__))); replace BK1025 := am__ (blb__ BK1025.out hb); replace BK1032 := am__ (blb__ BK1032.out hb); replace HK := am__ (KeepBut.trans (w := w) (kef__) (KeepBut.of_below hb g none) (.inl rfl)); replace HB := am__ (below_step (b0_l__) hb); replace HI0 := am__ (IsS104.below (hhi0__iss104) hb); clear hb ho55) | ((with_reducible refine gate_callee (f := 71) rfl ?_); refine gl__ (some 45) Try.func71 #[.pointer (some ⟨g, 0, none⟩), .int .i64 7] ?_; (with_reducible refine (spec_l1Rd_pick.calls kj22 g s0_0 x1001_22 7 t1047 t1048 w0 _ hhi0__iss104 b0_l__ A37.out).mono ?_); rintro e w56 ⟨rfl, hi, hb, hk⟩; refine ⟨_, rfl, ?_⟩; replace BK1025 := am__ (kbl__ hk BK1025.out NB1025_0.out); replace BK1032 := am__ (kbl__ hk BK1032.out NB1032_0.out); replace HO1046 := am__ (Kd.R_mono (Kd.R_keep (IsS104.apart (show IsS104 w0 _ g s0_0 x1001_22 from hhi0__iss104) (rr__ HO1046.out) (by decide)) hk h2__) h1__); replace HK := am__ (KeepBut.trans (w := w) (kef__) hk (.inl rfl)); replace HB := am__ (hb); replace HI0 := am__ (hi); clear hi hb hk; obtain ⟨Ao57, co57, eo57⟩ := Kd.R_slice HO1046.out; subst eo57; have p1049 : 0 ≤ (t1047 : Int) := of_decide_eq_true (by first | (with_reducible assumption) | assumption); have q1049 : t1047 < (y1044.length : Int) := of_decide_eq_true (by first | (with_reducible assumption) | assumption); obtain ⟨ad1049, e1049, hx1049_0⟩ := Kd.at_int (Kd.R_reads' HO1046.out).2.2 t1047 p1049 q1049; cases e1049; replace p1049 := eq_true p1049; replace q1049 := eq_true q1049; have hnb58 := NB1032_1025.out; have hnc58 := NB1025_1032.out; have hnb59 := NB1032_0.out; have hnc59 := NB0_1032.out; obtain ⟨hcz60_0, hcz60_1, hcz60_2, hcz60_3, hcz60_4, hcz60_5, hfz60_0, hfz60_1, hfz60_2, hfz60_3, hfz60_4, hfz60_5⟩ := bk6__ BK1032.out; have hnb61 := NB1025_0.out; have hnc61 := NB0_1025.out; obtain ⟨hcz62_0, hcz62_1, hcz62_2, hcz62_3, hcz62_4, hcz62_5, hfz62_0, hfz62_1, hfz62_2, hfz62_3, hfz62_4, hfz62_5⟩ := bk6__ BK1025.out))
           refine bodyPost_ret (results_cell_row rfl _ _ gb1025 63 #[.int .i64 (wrap64 (1 + t1026)), .string x1033001_13, .string x1033002_22, .int .i64 (rd y1044 t1047), .string (⟨#[]⟩ : ByteArray), .slice none 0 0] (0, 0) _ rfl (bpu__ BK1025.out) Try.underlying63 rfl (by kernel_rfl)) rfl ?_
           exact ⟨_, by first | rfl | (simp [errW_none, errW_some] <;> rfl) | (simp [*, errW_none, errW_some] <;> rfl), by first | exact Kd.R_nil _ _ _ _ _ | exact Kd.N_nil _ _ _ _ _ | exact Kd.V_nil _ _ _ _ _ | exact Kd.Q_nil _ _ _ _ _ | exact Kd.S_nil _ _ _ _ _, hhi0__iss104, by repeat (first | (with_reducible first | exact HB.out | apply below_alloc | apply pw_below_drewN | apply below_drew1 | refine below_set ?_ (IsS104.ge HI0.out) | refine below_set ?_ GE1025.out | refine below_set ?_ GE1032.out) | exact HB.out), by repeat (first | (with_reducible first | exact HK.out | apply KeepBut.set_ | apply keep_drewN | apply keep_drew | apply keep_alloc | refine keep_far ?_ GW1025.out _ | refine keep_far ?_ GW1032.out _) | exact HK.out)⟩
         ·rw [if_neg c39] at H
          exact absurd H (by simp)
        ·rw [if_neg c38] at H
         exact absurd H (by simp)
       ·rw [if_neg c36] at H
        have c36b0 : decide (0 < t1030) = false := decide_eq_false c36
        clear c36
        by_cases c63 : t1031 = true
        ·subst c63
         have H1 : ((spec_l1DrawThing.f kj22 s0_0 x1001_22 a1).bind fun bt1055 => (some ((wrap64 (1 + t1026)), x1033001_13, x1033002_22, 0, bt1055.1, bt1055.2.1, bt1055.2.2))) = some (r1, r2, r3, r4, r5, r6, r7) := by rw [if_pos rfl] at H; exact H
         clear H
         have H := H1
         clear H1
         replace H := Option.bind_eq_some_iff.mp H
         obtain ⟨⟨t1055, t1056, t1059⟩, A640, H⟩ := H
         replace H : (some ((wrap64 (1 + t1026)), x1033001_13, x1033002_22, 0, t1055, t1056, t1059)) = some (r1, r2, r3, r4, r5, r6, r7) := H
         have A64 := Aside0.mk A640
         clear A640
         simp only [Option.some.injEq, Prod.mk.injEq] at H
         obtain ⟨rfl, rfl, rfl, rfl, rfl, rfl, rfl⟩ := H
         go_wp2_with (first | ((with_reducible refine gate_callee (f := 79) rfl ?_); refine gl__ (some 52) Try.func79 #[.pointer (some ⟨g, 0, none⟩), .int .i64 a1] ?_; (with_reducible refine (spec_l1DrawThing.calls kj22 g s0_0 x1001_22 a1 t1055 t1056 t1059 w0 _ hhi0__iss104 b0_l__ A64.out).mono ?_); rintro e w65 ⟨v1057, rfl, ho0, hi, hb, hk⟩; refine ⟨_, rfl, ?_⟩; replace BK1025 := am__ (kbl__ hk BK1025.out NB1025_0.out); replace BK1032 := am__ (kbl__ hk BK1032.out NB1032_0.out); have HO1058 := am__ (Kd.R_lower ho0 (keep_size (w := w) (g := g) (row := none) (kef__))); replace HK := am__ (KeepBut.trans (w := w) (kef__) hk (.inl rfl)); replace HB := am__ (hb); replace HI0 := am__ (hi); clear hi hb hk; (try clear ho0); have hnb66 := NB1032_1025.out; have hnc66 := NB1025_1032.out; have hnb67 := NB1032_0.out; have hnc67 := NB0_1032.out; obtain ⟨hcz68_0, hcz68_1, hcz68_2, hcz68_3, hcz68_4, hcz68_5, hfz68_0, hfz68_1, hfz68_2, hfz68_3, hfz68_4, hfz68_5⟩ := bk6__ BK1032.out; obtain ⟨Ao69, co69, eo69⟩ := Kd.R_slice HO1058.out; subst eo69; have hnb70 := NB1025_0.out; have hnc70 := NB0_1025.out; obtain ⟨hcz71_0, hcz71_1, hcz71_2, hcz71_3, hcz71_4, hcz71_5, hfz71_0, hfz71_1, hfz71_2, hfz71_3, hfz71_4, hfz71_5⟩ := bk6__ BK1025.out))
         refine bodyPost_ret (results_cell_row rfl _ _ gb1025 63 #[.int .i64 (wrap64 (1 + t1026)), .string x1033001_13, .string x1033002_22, .int .i64 0, .string t1055, .slice Ao69 t1056.length co69] (0, 0) _ rfl (bpu__ BK1025.out) Try.underlying63 rfl (by kernel_rfl)) rfl ?_
         exact ⟨_, by first | rfl | (simp [errW_none, errW_some] <;> rfl) | (simp [*, errW_none, errW_some] <;> rfl), by refine rps__ ?_; exact Kd.R_mono (Kd.R_far (p := ⟨gb1025, 5, none⟩) (Kd.R_far (p := ⟨gb1025, 4, none⟩) (Kd.R_far (p := ⟨gb1025, 3, none⟩) (Kd.R_far (p := ⟨gb1025, 2, none⟩) (Kd.R_far (p := ⟨gb1025, 1, none⟩) (Kd.R_far (p := ⟨gb1025, 0, none⟩) (Kd.R_far (p := ⟨gb1032, 5, none⟩) (Kd.R_far (p := ⟨gb1032, 4, none⟩) (Kd.R_types (Kd.R_types HO1058.out BK1032.out (by decide)) BK1025.out (by decide)) (fun _ hk => hk.1.2) (.string t1055)) (fun _ hk => hk.1.2) (.slice Ao69 t1056.length co69)) h2__ (.int .i64 (wrap64 (1 + t1026)))) h2__ (.string x1033001_13)) h2__ (.string x1033002_22)) h2__ (.int .i64 0)) h2__ (.string t1055)) h2__ (.slice Ao69 t1056.length co69)) (fun _ hk => trivial), hhi0__iss104, by repeat (first | (with_reducible first | exact HB.out | apply below_alloc | apply pw_below_drewN | apply below_drew1 | refine below_set ?_ (IsS104.ge HI0.out) | refine below_set ?_ GE1025.out | refine below_set ?_ GE1032.out) | exact HB.out), by repeat (first | (with_reducible first | exact HK.out | apply KeepBut.set_ | apply keep_drewN | apply keep_drew | apply keep_alloc | refine keep_far ?_ GW1025.out _ | refine keep_far ?_ GW1032.out _) | exact HK.out)⟩
        ·replace c63 := Bool.eq_false_iff.mpr c63
         subst c63
         have H1 : (some ((wrap64 (1 + t1026)), x1033001_13, x1033002_22, 0, (⟨#[]⟩ : ByteArray), ([] : List ByteArray), x1001_22)) = some (r1, r2, r3, r4, r5, r6, r7) := by rw [if_neg (show ¬ (false = true) by decide)] at H; exact H
         clear H
         have H := H1
         clear H1
         simp only [Option.some.injEq, Prod.mk.injEq] at H
         obtain ⟨rfl, rfl, rfl, rfl, rfl, rfl, rfl⟩ := H
         have hnb72 := NB1032_1025.out
         have hnc72 := NB1025_1032.out
         have hnb73 := NB1032_0.out
         have hnc73 := NB0_1032.out
         have hcz74_0 : wc.cell? ⟨gb1032, 0, none⟩ = some (.int .i64 (wrap64 (1 + t1026))) := (blk_cell BK1032.out 0).trans rfl
         have hcz74_1 : wc.cell? ⟨gb1032, 1, none⟩ = some (.string x1033001_13) := (blk_cell BK1032.out 1).trans rfl
         have hcz74_2 : wc.cell? ⟨gb1032, 2, none⟩ = some (.string x1033002_22) := (blk_cell BK1032.out 2).trans rfl
         have hcz74_3 : wc.cell? ⟨gb1032, 3, none⟩ = some (.int .i64 0) := (blk_cell BK1032.out 3).trans rfl
         have hcz74_4 : wc.cell? ⟨gb1032, 4, none⟩ = some (.string (⟨#[]⟩ : ByteArray)) := (blk_cell BK1032.out 4).trans rfl
         have hcz74_5 : wc.cell? ⟨gb1032, 5, none⟩ = some (.slice none 0 0) := (blk_cell BK1032.out 5).trans rfl
         have hfz74_0 := blk_frozen BK1032.out 0
         have hfz74_1 := blk_frozen BK1032.out 1
         have hfz74_2 := blk_frozen BK1032.out 2
         have hfz74_3 := blk_frozen BK1032.out 3
         have hfz74_4 := blk_frozen BK1032.out 4
         have hfz74_5 := blk_frozen BK1032.out 5
         have hnb75 := NB1025_0.out
         have hnc75 := NB0_1025.out
         have hcz76_0 : wc.cell? ⟨gb1025, 0, none⟩ = some (.int .i64 0) := (blk_cell BK1025.out 0).trans rfl
         have hcz76_1 : wc.cell? ⟨gb1025, 1, none⟩ = some (.string (⟨#[]⟩ : ByteArray)) := (blk_cell BK1025.out 1).trans rfl
         have hcz76_2 : wc.cell? ⟨gb1025, 2, none⟩ = some (.string (⟨#[]⟩ : ByteArray)) := (blk_cell BK1025.out 2).trans rfl
         have hcz76_3 : wc.cell? ⟨gb1025, 3, none⟩ = some (.int .i64 0) := (blk_cell BK1025.out 3).trans rfl
         have hcz76_4 : wc.cell? ⟨gb1025, 4, none⟩ = some (.string (⟨#[]⟩ : ByteArray)) := (blk_cell BK1025.out 4).trans rfl
         have hcz76_5 : wc.cell? ⟨gb1025, 5, none⟩ = some (.slice none 0 0) := (blk_cell BK1025.out 5).trans rfl
         have hfz76_0 := blk_frozen BK1025.out 0
         have hfz76_1 := blk_frozen BK1025.out 1
         have hfz76_2 := blk_frozen BK1025.out 2
         have hfz76_3 := blk_frozen BK1025.out 3
         have hfz76_4 := blk_frozen BK1025.out 4
         have hfz76_5 := blk_frozen BK1025.out 5
         go_wp2
         refine bodyPost_ret (results_cell_row rfl _ _ gb1025 63 #[.int .i64 (wrap64 (1 + t1026)), .string x1033001_13, .string x1033002_22, .int .i64 0, .string (⟨#[]⟩ : ByteArray), .slice none 0 0] (0, 0) _ rfl (bpu__ BK1025.out) Try.underlying63 rfl (by kernel_rfl)) rfl ?_
         exact ⟨_, by first | rfl | (simp [errW_none, errW_some] <;> rfl) | (simp [*, errW_none, errW_some] <;> rfl), by first | exact Kd.R_nil _ _ _ _ _ | exact Kd.N_nil _ _ _ _ _ | exact Kd.V_nil _ _ _ _ _ | exact Kd.Q_nil _ _ _ _ _ | exact Kd.S_nil _ _ _ _ _, hhi0__iss104, by repeat (first | (with_reducible first | exact HB.out | apply below_alloc | apply pw_below_drewN | apply below_drew1 | refine below_set ?_ (IsS104.ge HI0.out) | refine below_set ?_ GE1025.out | refine below_set ?_ GE1032.out) | exact HB.out), by repeat (first | (with_reducible first | exact HK.out | apply KeepBut.set_ | apply keep_drewN | apply keep_drew | apply keep_alloc | refine keep_far ?_ GW1025.out _ | refine keep_far ?_ GW1032.out _) | exact HK.out)⟩
end Go.Proofs.Ytpnblgbkjbpeoaa.P

namespace Go.Proofs.Ytpnblgbkjbpeoaa.P
open Go.RowKit Go.Proofs.YtpnblgbkjbpeoaaW.PrintWords Go.Proofs.YtpnblgbkjbpeoaaW.PrintLast Go.Proofs.YtpnblgbkjbpeoaaW.PrintMore
attribute [local go_sem] max2_int min2_int max_two min_two max_three min_three max_four min_four   -- for this text's walks alone
set_option linter.unusedVariables false
set_option linter.unusedSimpArgs false
/-! ### spec_l3Spoil: function 82 -/
def spec_l3Spoil.f (k : Nat) (s0_0 : List Int) (s0_1 : Int) (a1_0 : Int) (a1_1 : ByteArray) (a1_2 : ByteArray) (a1_3 : Int) (a1_4 : ByteArray) (l1_5 : List ByteArray) : Option (Int × ByteArray × ByteArray × Int × ByteArray × List ByteArray × Int) := (spec_l1Rd_pick.f k s0_0 s0_1 6).bind fun bt1062 => (if bt1062.1 = 0 then ((spec_l1Rd_pick.f k s0_0 bt1062.2 10).bind fun bt1064 => (some (wrap64 (bt1064.1 - 1), a1_1, a1_2, a1_3, a1_4, l1_5, bt1064.2))) else (if bt1062.1 = 1 then ((some (([0, (-1), 100001, 1000000000, 1000000001, 4294967297] : List Int) : List Int)).bind fun y1066 => ((spec_l1Rd_pick.f k s0_0 bt1062.2 6).bind fun bt1069 => (if 0 ≤ bt1069.1 then (if bt1069.1 < (y1066.length : Int) then (some (a1_0, a1_1, a1_2, rd y1066 bt1069.1, a1_4, l1_5, bt1069.2)) else (none)) else (none)))) else (if bt1062.1 = 2 then ((spec_l1Many.f k (⟨#[110]⟩ : ByteArray) 41).bind fun t1072 => ((some (([(⟨#[]⟩ : ByteArray), (⟨#[97, 32, 98]⟩ : ByteArray), t1072] : List ByteArray) : List ByteArray)).bind fun y1073 => ((spec_l1Rd_pick.f k s0_0 bt1062.2 3).bind fun bt1076 => (if 0 ≤ bt1076.1 then (if bt1076.1 < (y1073.length : Int) then (some (a1_0, a1_1, rdOf ByteArray.empty y1073 bt1076.1, a1_3, a1_4, l1_5, bt1076.2)) else (none)) else (none))))) else (if bt1062.1 = 3 then (if a1_1.size + 1 ≤ 9223372036854775807 then (some (a1_0, a1_1 ++ (⟨#[120]⟩ : ByteArray), a1_2, a1_3, a1_4, l1_5, bt1062.2)) else (none)) else (if bt1062.1 = 4 then ((spec_l1SpoilThing.f k s0_0 bt1062.2 a1_4 l1_5).bind fun bt1079 => (some (a1_0, a1_1, a1_2, a1_3, bt1079.1, bt1079.2.1, bt1079.2.2))) else (some (a1_0, a1_1, a1_2, a1_3, (⟨#[116]⟩ : ByteArray), l1_5, bt1062.2)))))))
set_option maxHeartbeats 8000000 in
set_option maxRecDepth 100000 in
theorem spec_l3Spoil.calls (k : Nat) (g : Nat) (s0_0 : List Int) (s0_1 : Int) (a1_0 : Int) (a1_1 : ByteArray) (a1_2 : ByteArray) (a1_3 : Int) (a1_4 : ByteArray) (P1_5_ : Nat → Prop) (u9000_ : Value) (l1_5 : List ByteArray) (r1 : Int) (r2 : ByteArray) (r3 : ByteArray) (r4 : Int) (r5 : ByteArray) (r6 : List ByteArray) (r7 : Int) (w0 w : World) (hI : IsS104 w0 w g s0_0 s0_1) (hB : Below w0.heap.size w0 w) (ho1_5 : Kd.R Kd.string 9 w w0.heap.size P1_5_ u9000_ l1_5) (h : spec_l3Spoil.f k s0_0 s0_1 a1_0 a1_1 a1_2 a1_3 a1_4 l1_5 = some (r1, r2, r3, r4, r5, r6, r7)) :
  Calls Try.prog 82 #[.pointer (some ⟨g, 0, none⟩), .agg #[.int .i64 a1_0, .string a1_1, .string a1_2, .int .i64 a1_3, .string a1_4, u9000_]] w fun e w' => ∃ v5_ : Value, e = .returned (.agg #[.int .i64 r1, .string r2, .string r3, .int .i64 r4, .string r5, v5_]) ∧ Kd.R Kd.string 9 w' w0.heap.size (fun k_ => (P1_5_ k_ ∨ w.heap.size ≤ k_)) v5_ r6 ∧ IsS104 w0 w' g s0_0 r7 ∧ Below w0.heap.size w0 w' ∧ Kept w w' (fun k_ => (P1_5_ k_) ∨ k_ = g) := by
 have hu63 := Try.underlying63
 have hu38 := Try.underlying38
 have HO1_5 := am__ (show Kd.R Kd.string 9 w w0.heap.size (fun k_ => (P1_5_ k_ ∨ w.heap.size ≤ k_)) u9000_ l1_5 from Kd.R_mono ho1_5 (fun k_ hk => (.inl hk)))
 have HI0 := Aside0.mk hI
 have HL := Aside0.mk hB.size
 clear hI
 have HK := am__ (Kept.refl w (fun k_ => (P1_5_ k_) ∨ k_ = g))
 have HW0 := Aside0.mk hB.size
 have HB := Aside0.mk hB
 clear hB
 have H : ((spec_l1Rd_pick.f k s0_0 s0_1 6).bind fun bt1062 => (if bt1062.1 = 0 then ((spec_l1Rd_pick.f k s0_0 bt1062.2 10).bind fun bt1064 => (some (wrap64 (bt1064.1 - 1), a1_1, a1_2, a1_3, a1_4, l1_5, bt1064.2))) else (if bt1062.1 = 1 then ((some (([0, (-1), 100001, 1000000000, 1000000001, 4294967297] : List Int) : List Int)).bind fun y1066 => ((spec_l1Rd_pick.f k s0_0 bt1062.2 6).bind fun bt1069 => (if 0 ≤ bt1069.1 then (if bt1069.1 < (y1066.length : Int) then (some (a1_0, a1_1, a1_2, rd y1066 bt1069.1, a1_4, l1_5, bt1069.2)) else (none)) else (none)))) else (if bt1062.1 = 2 then ((spec_l1Many.f k (⟨#[110]⟩ : ByteArray) 41).bind fun t1072 => ((some (([(⟨#[]⟩ : ByteArray), (⟨#[97, 32, 98]⟩ : ByteArray), t1072] : List ByteArray) : List ByteArray)).bind fun y1073 => ((spec_l1Rd_pick.f k s0_0 bt1062.2 3).bind fun bt1076 => (if 0 ≤ bt1076.1 then (if bt1076.1 < (y1073.length : Int) then (some (a1_0, a1_1, rdOf ByteArray.empty y1073 bt1076.1, a1_3, a1_4, l1_5, bt1076.2)) else (none)) else (none))))) else (if bt1062.1 = 3 then (if a1_1.size + 1 ≤ 9223372036854775807 then (some (a1_0, a1_1 ++ (⟨#[120]⟩ : ByteArray), a1_2, a1_3, a1_4, l1_5, bt1062.2)) else (none)) else (if bt1062.1 = 4 then ((spec_l1SpoilThing.f k s0_0 bt1062.2 a1_4 l1_5).bind fun bt1079 => (some (a1_0, a1_1, a1_2, a1_3, bt1079.1, bt1079.2.1, bt1079.2.2))) else (some (a1_0, a1_1, a1_2, a1_3, (⟨#[116]⟩ : ByteArray), l1_5, bt1062.2)))))))) = some (r1, r2, r3, r4, r5, r6, r7) := h
 clear h
 replace H := Option.bind_eq_some_iff.mp H
 obtain ⟨⟨t1062, t1063⟩, A30, H⟩ := H
 replace H : (if t1062 = 0 then ((spec_l1Rd_pick.f k s0_0 t1063 10).bind fun bt1064 => (some (wrap64 (bt1064.1 - 1), a1_1, a1_2, a1_3, a1_4, l1_5, bt1064.2))) else (if t1062 = 1 then ((some (([0, (-1), 100001, 1000000000, 1000000001, 4294967297] : List Int) : List Int)).bind fun y1066 => ((spec_l1Rd_pick.f k s0_0 t1063 6).bind fun bt1069 => (if 0 ≤ bt1069.1 then (if bt1069.1 < (y1066.length : Int) then (some (a1_0, a1_1, a1_2, rd y1066 bt1069.1, a1_4, l1_5, bt1069.2)) else (none)) else (none)))) else (if t1062 = 2 then ((spec_l1Many.f k (⟨#[110]⟩ : ByteArray) 41).bind fun t1072 => ((some (([(⟨#[]⟩ : ByteArray), (⟨#[97, 32, 98]⟩ : ByteArray), t1072] : List ByteArray) : List ByteArray)).bind fun y1073 => ((spec_l1Rd_pick.f k s0_0 t1063 3).bind fun bt1076 => (if 0 ≤ bt1076.1 then (if bt1076.1 < (y1073.length : Int) then (some (a1_0, a1_1, rdOf ByteArray.empty y1073 bt1076.1, a1_3, a1_4, l1_5, bt1076.2)) else (none)) else (none))))) else (if t1062 = 3 then (if a1_1.size + 1 ≤ 9223372036854775807 then (some (a1_0, a1_1 ++ (⟨#[120]⟩ : ByteArray), a1_2, a1_3, a1_4, l1_5, t1063)) else (none)) else (if t1062 = 4 then ((spec_l1SpoilThing.f k s0_0 t1063 a1_4 l1_5).bind fun bt1079 => (some (a1_0, a1_1, a1_2, a1_3, bt1079.1, bt1079.2.1, bt1079.2.2))) else (some (a1_0, a1_1, a1_2, a1_3, (⟨#[116]⟩ : ByteArray), l1_5, t1063))))))) = some (r1, r2, r3, r4, r5, r6, r7) := H
 have A3 := Aside0.mk A30
 clear A30
 by_cases c4 : t1062 = 0
 ·rw [if_pos c4] at H
  have c4b0 : (t1062 == 0) = true := beq_iff_eq.mpr c4
  have c4b1 : (t1062 != 0) = false := bne_eq_false_iff_eq.mpr c4
  clear c4
  replace H := Option.bind_eq_some_iff.mp H
  obtain ⟨⟨t1064, t1065⟩, A50, H⟩ := H
  replace H : (some (wrap64 (t1064 - 1), a1_1, a1_2, a1_3, a1_4, l1_5, t1065)) = some (r1, r2, r3, r4, r5, r6, r7) := H
  have A5 := Aside0.mk A50
  clear A50
  simp only [Option.some.injEq, Prod.mk.injEq] at H
  obtain ⟨rfl, rfl, rfl, rfl, rfl, rfl, rfl⟩ := H
  obtain ⟨Ao6, co6, eo6⟩ := Kd.R_slice HO1_5.out
  subst eo6
  go_enter Try.func82, Try.ntmps82
  go_wp2_with (first | ((with_reducible refine gate_dst (N := 3) rfl ?_); refine be__ 3 #[.int .i64 a1_0, .string a1_1, .string a1_2, .int .i64 a1_3, .string a1_4, .slice Ao6 l1_5.length co6] 63 ?_; intro gb1060 hg w7 hbox hb; replace HO1_5 := am__ (Kd.R_below (rr__ HO1_5.out) hb); have BK1060 := am__ (hbox); have GW1060 := am__ ((by rw [hg]; exact (by first | exact HK.out.1 | exact (show Kept w _ (fun k_ => (P1_5_ k_) ∨ k_ = g) from by repeat (first | (with_reducible first | exact HK.out | apply Kept.alloc | apply Kept.drewN | apply Kept.drew | refine Kept.setCell ?_ (.inl (.inr rfl)) _) | exact HK.out)).1) : w.heap.size ≤ gb1060)); replace HK := am__ (Kept.below (S := (fun k_ => (P1_5_ k_) ∨ k_ = g)) (by repeat (first | (with_reducible first | exact HK.out | apply Kept.alloc | apply Kept.drewN | apply Kept.drew | refine Kept.setCell ?_ (.inl (.inr rfl)) _) | exact HK.out)) hb); have GE1060 := am__ ((bsz__ hg b0_l__ : w0.heap.size ≤ gb1060)); replace HB := am__ (below_step (b0_l__) hb); have NB0_1060 := am__ ((nlt__ hg (IsS104.lt (show IsS104 w0 _ g s0_0 s0_1 from hhi0__iss104)) : g ≠ gb1060)); have NB1060_0 := am__ ((ngt__ hg (IsS104.lt (show IsS104 w0 _ g s0_0 s0_1 from hhi0__iss104)) : gb1060 ≠ g)); replace HI0 := am__ (IsS104.below (hhi0__iss104) hb); clear hb hbox hg) | ((with_reducible refine gate_dst (N := 4) rfl ?_); refine be__ 4 #[.int .i64 0, .string (⟨#[]⟩ : ByteArray), .string (⟨#[]⟩ : ByteArray), .int .i64 0, .string (⟨#[]⟩ : ByteArray), .slice none 0 0] 63 ?_; intro gb1061 hg w8 hbox hb; replace HO1_5 := am__ (Kd.R_below (rr__ HO1_5.out) hb); have BK1061 := am__ (hbox); have GW1061 := am__ ((by rw [hg]; exact (by first | exact HK.out.1 | exact (show Kept w _ (fun k_ => (P1_5_ k_) ∨ k_ = g) from by repeat (first | (with_reducible first | exact HK.out | apply Kept.alloc | apply Kept.drewN | apply Kept.drew | refine Kept.setCell ?_ (.inl (.inr rfl)) _ | refine Kept.setCell ?_ (.inr GW1060.out) _) | exact HK.out)).1) : w.heap.size ≤ gb1061)); replace HK := am__ (Kept.below (S := (fun k_ => (P1_5_ k_) ∨ k_ = g)) (by repeat (first | (with_reducible first | exact HK.out | apply Kept.alloc | apply Kept.drewN | apply Kept.drew | refine Kept.setCell ?_ (.inl (.inr rfl)) _ | refine Kept.setCell ?_ (.inr GW1060.out) _) | exact HK.out)) hb); have GE1061 := am__ ((bsz__ hg b0_l__ : w0.heap.size ≤ gb1061)); replace HB := am__ (below_step (b0_l__) hb); have NB1060_1061 := am__ ((nl__ hg BK1060.out : gb1060 ≠ gb1061)); have NB1061_1060 := am__ ((ng__ hg BK1060.out : gb1061 ≠ gb1060)); replace BK1060 := am__ (blb__ BK1060.out hb); have NB0_1061 := am__ ((nlt__ hg (IsS104.lt (show IsS104 w0 _ g s0_0 s0_1 from hhi0__iss104)) : g ≠ gb1061)); have NB1061_0 := am__ ((ngt__ hg (IsS104.lt (show IsS104 w0 _ g s0_0 s0_1 from hhi0__iss104)) : gb1061 ≠ g)); replace HI0 := am__ (IsS104.below (hhi0__iss104) hb); clear hb hbox hg) | ((with_reducible refine gate_callee (f := 71) rfl ?_); refine gl__ (some 6) Try.func71 #[.pointer (some ⟨g, 0, none⟩), .int .i64 6] ?_; (with_reducible refine (spec_l1Rd_pick.calls k g s0_0 s0_1 6 t1062 t1063 w0 _ hhi0__iss104 b0_l__ A3.out).mono ?_); rintro e w9 ⟨rfl, hi, hb, hk⟩; refine ⟨_, rfl, ?_⟩; replace HO1_5 := am__ (Kd.R_mono (Kd.R_keep (IsS104.apart (show IsS104 w0 _ g s0_0 s0_1 from hhi0__iss104) (rr__ HO1_5.out) (by decide)) hk h2__) h1__); replace BK1060 := am__ (kbl__ hk BK1060.out NB1060_0.out); replace BK1061 := am__ (kbl__ hk BK1061.out NB1061_0.out); replace HK := am__ (Kept.of_keep (S := (fun k_ => (P1_5_ k_) ∨ k_ = g)) (by repeat (first | (with_reducible first | exact HK.out | apply Kept.alloc | apply Kept.drewN | apply Kept.drew | refine Kept.setCell ?_ (.inl (.inr rfl)) _ | refine Kept.setCell ?_ (.inr GW1060.out) _ | refine Kept.setCell ?_ (.inr GW1061.out) _) | exact HK.out)) hk (.inl (.inr rfl))); replace HB := am__ (hb); replace HI0 := am__ (hi); clear hi hb hk) | ((with_reducible refine gate_callee (f := 71) rfl ?_); refine gl__ (some 12) Try.func71 #[.pointer (some ⟨g, 0, none⟩), .int .i64 10] ?_; (with_reducible refine (spec_l1Rd_pick.calls k g s0_0 t1063 10 t1064 t1065 w0 _ hhi0__iss104 b0_l__ A5.out).mono ?_); rintro e w10 ⟨rfl, hi, hb, hk⟩; refine ⟨_, rfl, ?_⟩; replace HO1_5 := am__ (Kd.R_mono (Kd.R_keep (IsS104.apart (show IsS104 w0 _ g s0_0 t1063 from hhi0__iss104) (rr__ HO1_5.out) (by decide)) hk h2__) h1__); replace BK1060 := am__ (kbl__ hk BK1060.out NB1060_0.out); replace BK1061 := am__ (kbl__ hk BK1061.out NB1061_0.out); replace HK := am__ (Kept.of_keep (S := (fun k_ => (P1_5_ k_) ∨ k_ = g)) (by repeat (first | (with_reducible first | exact HK.out | apply Kept.alloc | apply Kept.drewN | apply Kept.drew | refine Kept.setCell ?_ (.inl (.inr rfl)) _ | refine Kept.setCell ?_ (.inr GW1060.out) _ | refine Kept.setCell ?_ (.inr GW1061.out) _) | exact HK.out)) hk (.inl (.inr rfl))); replace HB := am__ (hb); replace HI0 := am__ (hi); clear hi hb hk; have hnb11 := NB1060_1061.out; have hnc11 := NB1061_1060.out; have hnb12 := NB1060_0.out; have hnc12 := NB0_1060.out; obtain ⟨hcz13_0, hcz13_1, hcz13_2, hcz13_3, hcz13_4, hcz13_5, hfz13_0, hfz13_1, hfz13_2, hfz13_3, hfz13_4, hfz13_5⟩ := bk6__ BK1060.out; have hnb14 := NB1061_0.out; have hnc14 := NB0_1061.out; obtain ⟨hcz15_0, hcz15_1, hcz15_2, hcz15_3, hcz15_4, hcz15_5, hfz15_0, hfz15_1, hfz15_2, hfz15_3, hfz15_4, hfz15_5⟩ := bk6__ BK1061.out))
  refine bodyPost_ret (results_cell_row rfl _ _ gb1061 63 #[.int .i64 (wrap64 (t1064 - 1)), .string a1_1, .string a1_2, .int .i64 a1_3, .string a1_4, .slice Ao6 l1_5.length co6] (0, 0) _ rfl (bpu__ BK1061.out) Try.underlying63 rfl (by kernel_rfl)) rfl ?_
  exact ⟨_, by first | rfl | (simp [errW_none, errW_some] <;> rfl) | (simp [*, errW_none, errW_some] <;> rfl), by refine rps__ ?_; exact Kd.R_mono (Kd.R_far (p := ⟨gb1061, 5, none⟩) (Kd.R_far (p := ⟨gb1061, 4, none⟩) (Kd.R_far (p := ⟨gb1061, 3, none⟩) (Kd.R_far (p := ⟨gb1061, 2, none⟩) (Kd.R_far (p := ⟨gb1061, 1, none⟩) (Kd.R_far (p := ⟨gb1061, 0, none⟩) (Kd.R_far (p := ⟨gb1060, 0, none⟩) (Kd.R_types (Kd.R_types HO1_5.out BK1060.out (by decide)) BK1061.out (by decide)) (fun _ hk => hk.1.2) (.int .i64 (wrap64 (t1064 - 1)))) h2__ (.int .i64 (wrap64 (t1064 - 1)))) h2__ (.string a1_1)) h2__ (.string a1_2)) h2__ (.int .i64 a1_3)) h2__ (.string a1_4)) h2__ (.slice Ao6 l1_5.length co6)) (fun _ hk => hk.1.1), hhi0__iss104, by repeat (first | (with_reducible first | exact HB.out | apply below_alloc | apply pw_below_drewN | apply below_drew1 | refine below_set ?_ (IsS104.ge HI0.out) | refine below_set ?_ GE1060.out | refine below_set ?_ GE1061.out) | exact HB.out), by repeat (first | (with_reducible first | exact HK.out | apply Kept.alloc | apply Kept.drewN | apply Kept.drew | refine Kept.setCell ?_ (.inl (.inr rfl)) _ | refine Kept.setCell ?_ (.inr GW1060.out) _ | refine Kept.setCell ?_ (.inr GW1061.out) _) | exact HK.out)⟩
 ·rw [if_neg c4] at H
  have c4b0 : (t1062 == 0) = false := beq_eq_false_iff_ne.mpr c4
  have c4b1 : (t1062 != 0) = true := bne_iff_ne.mpr c4
  by_cases c16 : t1062 = 1
  ·rw [if_pos c16] at H
   have c16b0 : (t1062 == 1) = true := beq_iff_eq.mpr c16
   have c16b1 : (t1062 != 1) = false := bne_eq_false_iff_eq.mpr c16
   clear c16
   obtain ⟨y1066, hy1066⟩ : ∃ y_ : List Int, y_ = (([0, (-1), 100001, 1000000000, 1000000001, 4294967297] : List Int)) := ⟨_, rfl⟩
   replace H : ((spec_l1Rd_pick.f k s0_0 t1063 6).bind fun bt1069 => (if 0 ≤ bt1069.1 then (if bt1069.1 < (y1066.length : Int) then (some (a1_0, a1_1, a1_2, rd y1066 bt1069.1, a1_4, l1_5, bt1069.2)) else (none)) else (none))) = some (r1, r2, r3, r4, r5, r6, r7) := by first | (rw [hy1066]; with_reducible exact H) | (have H2_ := (Option.bind_some _ _).symm.trans H; rw [hy1066]; with_reducible exact H2_) | (have H2_ := (Option.bind_some _ _).symm.trans H; with_reducible exact H2_) | with_reducible exact H | (rw [hy1066]; exact H) | exact H
   have Ny1066 := Aside0.mk hy1066
   clear hy1066
   replace H := Option.bind_eq_some_iff.mp H
   obtain ⟨⟨t1069, t1070⟩, A170, H⟩ := H
   replace H : (if 0 ≤ t1069 then (if t1069 < (y1066.length : Int) then (some (a1_0, a1_1, a1_2, rd y1066 t1069, a1_4, l1_5, t1070)) else (none)) else (none)) = some (r1, r2, r3, r4, r5, r6, r7) := H
   have A17 := Aside0.mk A170
   clear A170
   by_cases c18 : 0 ≤ t1069
   ·rw [if_pos c18] at H
    have c18b0 : decide (0 ≤ t1069) = true := decide_eq_true c18
    clear c18
    by_cases c19 : t1069 < (y1066.length : Int)
    ·rw [if_pos c19] at H
     have c19b0 : decide (t1069 < (y1066.length : Int)) = true := decide_eq_true c19
     clear c19
     simp only [Option.some.injEq, Prod.mk.injEq] at H
     obtain ⟨rfl, rfl, rfl, rfl, rfl, rfl, rfl⟩ := H
     obtain ⟨Ao20, co20, eo20⟩ := Kd.R_slice HO1_5.out
     subst eo20
     go_enter Try.func82, Try.ntmps82
     go_wp2_with (first | ((with_reducible refine gate_dst (N := 3) rfl ?_); refine be__ 3 #[.int .i64 a1_0, .string a1_1, .string a1_2, .int .i64 a1_3, .string a1_4, .slice Ao20 l1_5.length co20] 63 ?_; intro gb1060 hg w21 hbox hb; replace HO1_5 := am__ (Kd.R_below (rr__ HO1_5.out) hb); have BK1060 := am__ (hbox); have GW1060 := am__ ((by rw [hg]; exact (by first | exact HK.out.1 | exact (show Kept w _ (fun k_ => (P1_5_ k_) ∨ k_ = g) from by repeat (first | (with_reducible first | exact HK.out | apply Kept.alloc | apply Kept.drewN | apply Kept.drew | refine Kept.setCell ?_ (.inl (.inr rfl)) _) | exact HK.out)).1) : w.heap.size ≤ gb1060)); replace HK := am__ (Kept.below (S := (fun k_ => (P1_5_ k_) ∨ k_ = g)) (by repeat (first | (with_reducible first | exact HK.out | apply Kept.alloc | apply Kept.drewN | apply Kept.drew | refine Kept.setCell ?_ (.inl (.inr rfl)) _) | exact HK.out)) hb); have GE1060 := am__ ((bsz__ hg b0_l__ : w0.heap.size ≤ gb1060)); replace HB := am__ (below_step (b0_l__) hb); have NB0_1060 := am__ ((nlt__ hg (IsS104.lt (show IsS104 w0 _ g s0_0 s0_1 from hhi0__iss104)) : g ≠ gb1060)); have NB1060_0 := am__ ((ngt__ hg (IsS104.lt (show IsS104 w0 _ g s0_0 s0_1 from hhi0__iss104)) : gb1060 ≠ g)); replace HI0 := am__ (IsS104.below (hhi0__iss104) hb); clear hb hbox hg) | ((with_reducible refine gate_dst (N := 4) rfl ?_); refine be__ 4 #[.int .i64 0, .string (⟨#[]⟩ : ByteArray), .string (⟨#[]⟩ : ByteArray), .int .i64 0, .string (⟨#[]⟩ : ByteArray), .slice none 0 0] 63 ?_; intro gb1061 hg w22 hbox hb; replace HO1_5 := am__ (Kd.R_below (rr__ HO1_5.out) hb); have BK1061 := am__ (hbox); have GW1061 := am__ ((by rw [hg]; exact (by first | exact HK.out.1 | exact (show Kept w _ (fun k_ => (P1_5_ k_) ∨ k_ = g) from by repeat (first | (with_reducible first | exact HK.out | apply Kept.alloc | apply Kept.drewN | apply Kept.drew | refine Kept.setCell ?_ (.inl (.inr rfl)) _ | refine Kept.setCell ?_ (.inr GW1060.out) _) | exact HK.out)).1) : w.heap.size ≤ gb1061)); replace HK := am__ (Kept.below (S := (fun k_ => (P1_5_ k_) ∨ k_ = g)) (by repeat (first | (with_reducible first | exact HK.out | apply Kept.alloc | apply Kept.drewN | apply Kept.drew | refine Kept.setCell ?_ (.inl (.inr rfl)) _ | refine Kept.setCell ?_ (.inr GW1060.out) _) | exact HK.out)) hb); have GE1061 := am__ ((bsz__ hg b0_l__ : w0.heap.size ≤ gb1061)); replace HB := am__ (below_step (b0_l__) hb); have NB1060_1061 := am__ ((nl__ hg BK1060.out : gb1060 ≠ gb1061)); have NB1061_1060 := am__ ((ng__ hg BK1060.out : gb1061 ≠ gb1060)); replace BK1060 := am__ (blb__ BK1060.out hb); have NB0_1061 := am__ ((nlt__ hg (IsS104.lt (show IsS104 w0 _ g s0_0 s0_1 from hhi0__iss104)) : g ≠ gb1061)); have NB1061_0 := am__ ((ngt__ hg (IsS104.lt (show IsS104 w0 _ g s0_0 s0_1 from hhi0__iss104)) : gb1061 ≠ g)); replace HI0 := am__ (IsS104.below (hhi0__iss104) hb); clear hb hbox hg) | ((with_reducible refine gate_callee (f := 71) rfl ?_); refine gl__ (some 6) Try.func71 #[.pointer (some ⟨g, 0, none⟩), .int .i64 6] ?_; (with_reducible refine (spec_l1Rd_pick.calls k g s0_0 s0_1 6 t1062 t1063 w0 _ hhi0__iss104 b0_l__ A3.out).mono ?_); rintro e w23 ⟨rfl, hi, hb, hk⟩; refine ⟨_, rfl, ?_⟩; replace HO1_5 := am__ (Kd.R_mono (Kd.R_keep (IsS104.apart (show IsS104 w0 _ g s0_0 s0_1 from hhi0__iss104) (rr__ HO1_5.out) (by decide)) hk h2__) h1__); replace BK1060 := am__ (kbl__ hk BK1060.out NB1060_0.out); replace BK1061 := am__ (kbl__ hk BK1061.out NB1061_0.out); replace HK := am__ (Kept.of_keep (S := (fun k_ => (P1_5_ k_) ∨ k_ = g)) (by repeat (first | (with_reducible first | exact HK.out | apply Kept.alloc | apply Kept.drewN | apply Kept.drew | refine Kept.setCell ?_ (.inl (.inr rfl)) _ | refine Kept.setCell ?_ (.inr GW1060.out) _ | refine Kept.setCell ?_ (.inr GW1061.out) _) | exact HK.out)) hk (.inl (.inr rfl))); replace HB := am__ (hb); replace HI0 := am__ (hi); clear hi hb hk) | ((with_reducible refine gate_dst (N := 17) rfl ?_); refine Kd.R_lit (Kd.int .i64) _ 3 ?hg (N := 17) ?hd (xs := ([0, (-1), 100001, 1000000000, 1000000001, 4294967297] : List Int)) (inner := [.int .i64 0, .int .i64 (-1), .int .i64 100001, .int .i64 1000000000, .int .i64 1000000001, .int .i64 4294967297]) (ok := fun _ => True) (okp := fun _ => True) ?hr ?hp (fun _ hk => hk) trivial (Below.refl _ _) (Nat.le_refl _) (by simp) ?_; (case hd => rfl); (case hg => rfl); (case hr => first | (go_simp; done) | (go_simp; rfl)); (case hp => exact (Reps.one (show Kd.M (Kd.int .i64) _ _ _ 0 [.int .i64 0] from rfl) (Reps.one (show Kd.M (Kd.int .i64) _ _ _ (-1) [.int .i64 (-1)] from rfl) (Reps.one (show Kd.M (Kd.int .i64) _ _ _ 100001 [.int .i64 100001] from rfl) (Reps.one (show Kd.M (Kd.int .i64) _ _ _ 1000000000 [.int .i64 1000000000] from rfl) (Reps.one (show Kd.M (Kd.int .i64) _ _ _ 1000000001 [.int .i64 1000000001] from rfl) (Reps.one (show Kd.M (Kd.int .i64) _ _ _ 4294967297 [.int .i64 4294967297] from rfl) (Reps.none _ _)))))))); intro v1067 w24 ho25 hb hg_ hnew_; clear hg_ hnew_; (first | rw [← Ny1066.out] at ho25 | (simp only [Int.reduceToNat] at ho25; rw [← Ny1066.out] at ho25)); replace HO1_5 := am__ (Kd.R_below (rr__ HO1_5.out) hb); have HO1068 := am__ (Kd.R_lower (Kd.R_newM (M := fun k_ => (P1_5_ k_ ∨ w.heap.size ≤ k_)) ho25 (by first | exact HK.out.1 | exact (show Kept w _ (fun k_ => (P1_5_ k_) ∨ k_ = g) from by repeat (first | (with_reducible first | exact HK.out | apply Kept.alloc | apply Kept.drewN | apply Kept.drew | refine Kept.setCell ?_ (.inl (.inr rfl)) _ | refine Kept.setCell ?_ (.inr GW1060.out) _ | refine Kept.setCell ?_ (.inr GW1061.out) _) | exact HK.out)).1) (fun k_ h_ => .inr h_)) (below_size (b0_l__))); replace BK1060 := am__ (blb__ BK1060.out hb); replace BK1061 := am__ (blb__ BK1061.out hb); replace HK := am__ (Kept.below (S := (fun k_ => (P1_5_ k_) ∨ k_ = g)) (by repeat (first | (with_reducible first | exact HK.out | apply Kept.alloc | apply Kept.drewN | apply Kept.drew | refine Kept.setCell ?_ (.inl (.inr rfl)) _ | refine Kept.setCell ?_ (.inr GW1060.out) _ | refine Kept.setCell ?_ (.inr GW1061.out) _) | exact HK.out)) hb); replace HB := am__ (below_step (b0_l__) hb); replace HI0 := am__ (IsS104.below (hhi0__iss104) hb); clear hb ho25) | ((with_reducible refine gate_callee (f := 71) rfl ?_); refine gl__ (some 19) Try.func71 #[.pointer (some ⟨g, 0, none⟩), .int .i64 6] ?_; (with_reducible refine (spec_l1Rd_pick.calls k g s0_0 t1063 6 t1069 t1070 w0 _ hhi0__iss104 b0_l__ A17.out).mono ?_); rintro e w26 ⟨rfl, hi, hb, hk⟩; refine ⟨_, rfl, ?_⟩; replace HO1_5 := am__ (Kd.R_mono (Kd.R_keep (IsS104.apart (show IsS104 w0 _ g s0_0 t1063 from hhi0__iss104) (rr__ HO1_5.out) (by decide)) hk h2__) h1__); replace BK1060 := am__ (kbl__ hk BK1060.out NB1060_0.out); replace BK1061 := am__ (kbl__ hk BK1061.out NB1061_0.out); replace HO1068 := am__ (Kd.R_mono (Kd.R_keep (IsS104.apart (show IsS104 w0 _ g s0_0 t1063 from hhi0__iss104) (rr__ HO1068.out) (by decide)) hk h2__) h1__); replace HK := am__ (Kept.of_keep (S := (fun k_ => (P1_5_ k_) ∨ k_ = g)) (by repeat (first | (with_reducible first | exact HK.out | apply Kept.alloc | apply Kept.drewN | apply Kept.drew | refine Kept.setCell ?_ (.inl (.inr rfl)) _ | refine Kept.setCell ?_ (.inr GW1060.out) _ | refine Kept.setCell ?_ (.inr GW1061.out) _) | exact HK.out)) hk (.inl (.inr rfl))); replace HB := am__ (hb); replace HI0 := am__ (hi); clear hi hb hk; obtain ⟨Ao27, co27, eo27⟩ := Kd.R_slice HO1068.out; subst eo27; have p1071 : 0 ≤ (t1069 : Int) := of_decide_eq_true (by first | (with_reducible assumption) | assumption); have q1071 : t1069 < (y1066.length : Int) := of_decide_eq_true (by first | (with_reducible assumption) | assumption); obtain ⟨ad1071, e1071, hx1071_0⟩ := Kd.at_int (Kd.R_reads' HO1068.out).2.2 t1069 p1071 q1071; cases e1071; replace p1071 := eq_true p1071; replace q1071 := eq_true q1071; have hnb28 := NB1060_1061.out; have hnc28 := NB1061_1060.out; have hnb29 := NB1060_0.out; have hnc29 := NB0_1060.out; obtain ⟨hcz30_0, hcz30_1, hcz30_2, hcz30_3, hcz30_4, hcz30_5, hfz30_0, hfz30_1, hfz30_2, hfz30_3, hfz30_4, hfz30_5⟩ := bk6__ BK1060.out; have hnb31 := NB1061_0.out; have hnc31 := NB0_1061.out; obtain ⟨hcz32_0, hcz32_1, hcz32_2, hcz32_3, hcz32_4, hcz32_5, hfz32_0, hfz32_1, hfz32_2, hfz32_3, hfz32_4, hfz32_5⟩ := bk6__ BK1061.out))
     refine bodyPost_ret (results_cell_row rfl _ _ gb1061 63 #[.int .i64 a1_0, .string a1_1, .string a1_2, .int .i64 (rd y1066 t1069), .string a1_4, .slice Ao20 l1_5.length co20] (0, 0) _ rfl (bpu__ BK1061.out) Try.underlying63 rfl (by kernel_rfl)) rfl ?_
     exact ⟨_, by first | rfl | (simp [errW_none, errW_some] <;> rfl) | (simp [*, errW_none, errW_some] <;> rfl), by refine rps__ ?_; exact Kd.R_mono (Kd.R_far (p := ⟨gb1061, 5, none⟩) (Kd.R_far (p := ⟨gb1061, 4, none⟩) (Kd.R_far (p := ⟨gb1061, 3, none⟩) (Kd.R_far (p := ⟨gb1061, 2, none⟩) (Kd.R_far (p := ⟨gb1061, 1, none⟩) (Kd.R_far (p := ⟨gb1061, 0, none⟩) (Kd.R_far (p := ⟨gb1060, 3, none⟩) (Kd.R_types (Kd.R_types HO1_5.out BK1060.out (by decide)) BK1061.out (by decide)) (fun _ hk => hk.1.2) (.int .i64 (rd y1066 t1069))) h2__ (.int .i64 a1_0)) h2__ (.string a1_1)) h2__ (.string a1_2)) h2__ (.int .i64 (rd y1066 t1069))) h2__ (.string a1_4)) h2__ (.slice Ao20 l1_5.length co20)) (fun _ hk => hk.1.1), hhi0__iss104, by repeat (first | (with_reducible first | exact HB.out | apply below_alloc | apply pw_below_drewN | apply below_drew1 | refine below_set ?_ (IsS104.ge HI0.out) | refine below_set ?_ GE1060.out | refine below_set ?_ GE1061.out) | exact HB.out), by repeat (first | (with_reducible first | exact HK.out | apply Kept.alloc | apply Kept.drewN | apply Kept.drew | refine Kept.setCell ?_ (.inl (.inr rfl)) _ | refine Kept.setCell ?_ (.inr GW1060.out) _ | refine Kept.setCell ?_ (.inr GW1061.out) _) | exact HK.out)⟩
    ·rw [if_neg c19] at H
     exact absurd H (by simp)
   ·rw [if_neg c18] at H
    exact absurd H (by simp)
  ·rw [if_neg c16] at H
   have c16b0 : (t1062 == 1) = false := beq_eq_false_iff_ne.mpr c16
   have c16b1 : (t1062 != 1) = true := bne_iff_ne.mpr c16
   by_cases c33 : t1062 = 2
   ·rw [if_pos c33] at H
    have c33b0 : (t1062 == 2) = true := beq_iff_eq.mpr c33
    have c33b1 : (t1062 != 2) = false := bne_eq_false_iff_eq.mpr c33
    clear c33
    replace H := Option.bind_eq_some_iff.mp H
    obtain ⟨t1072, A340, H⟩ := H
    replace H : ((some (([(⟨#[]⟩ : ByteArray), (⟨#[97, 32, 98]⟩ : ByteArray), t1072] : List ByteArray) : List ByteArray)).bind fun y1073 => ((spec_l1Rd_pick.f k s0_0 t1063 3).bind fun bt1076 => (if 0 ≤ bt1076.1 then (if bt1076.1 < (y1073.length : Int) then (some (a1_0, a1_1, rdOf ByteArray.empty y1073 bt1076.1, a1_3, a1_4, l1_5, bt1076.2)) else (none)) else (none)))) = some (r1, r2, r3, r4, r5, r6, r7) := H
    have A34 := Aside0.mk A340
    clear A340
    obtain ⟨y1073, hy1073⟩ : ∃ y_ : List ByteArray, y_ = (([(⟨#[]⟩ : ByteArray), (⟨#[97, 32, 98]⟩ : ByteArray), t1072] : List ByteArray)) := ⟨_, rfl⟩
    replace H : ((spec_l1Rd_pick.f k s0_0 t1063 3).bind fun bt1076 => (if 0 ≤ bt1076.1 then (if bt1076.1 < (y1073.length : Int) then (some (a1_0, a1_1, rdOf ByteArray.empty y1073 bt1076.1, a1_3, a1_4, l1_5, bt1076.2)) else (none)) else (none))) = some (r1, r2, r3, r4, r5, r6, r7) := by first | (rw [hy1073]; with_reducible exact H) | (have H2_ := (Option.bind_some _ _).symm.trans H; rw [hy1073]; with_reducible exact H2_) | (have H2_ := (Option.bind_some _ _).symm.trans H; with_reducible exact H2_) | with_reducible exact H | (rw [hy1073]; exact H) | exact H
    have Ny1073 := Aside0.mk hy1073
    clear hy1073
    replace H := Option.bind_eq_some_iff.mp H
    obtain ⟨⟨t1076, t1077⟩, A350, H⟩ := H
    replace H : (if 0 ≤ t1076 then (if t1076 < (y1073.length : Int) then (some (a1_0, a1_1, rdOf ByteArray.empty y1073 t1076, a1_3, a1_4, l1_5, t1077)) else (none)) else (none)) = some (r1, r2, r3, r4, r5, r6, r7) := H
    have A35 := Aside0.mk A350
    clear A350
    by_cases c36 : 0 ≤ t1076
    ·rw [if_pos c36] at H
     have c36b0 : decide (0 ≤ t1076) = true := decide_eq_true c36
     clear c36
     by_cases c37 : t1076 < (y1073.length : Int)
     ·rw [if_pos c37] at H
      have c37b0 : decide (t1076 < (y1073.length : Int)) = true := decide_eq_true c37
      clear c37
      simp only [Option.some.injEq, Prod.mk.injEq] at H
      obtain ⟨rfl, rfl, rfl, rfl, rfl, rfl, rfl⟩ := H
      obtain ⟨Ao38, co38, eo38⟩ := Kd.R_slice HO1_5.out
      subst eo38
      go_enter Try.func82, Try.ntmps82
      go_wp2_with (first | ((with_reducible refine gate_dst (N := 3) rfl ?_); refine be__ 3 #[.int .i64 a1_0, .string a1_1, .string a1_2, .int .i64 a1_3, .string a1_4, .slice Ao38 l1_5.length co38] 63 ?_; intro gb1060 hg w39 hbox hb; replace HO1_5 := am__ (Kd.R_below (rr__ HO1_5.out) hb); have BK1060 := am__ (hbox); have GW1060 := am__ ((by rw [hg]; exact (by first | exact HK.out.1 | exact (show Kept w _ (fun k_ => (P1_5_ k_) ∨ k_ = g) from by repeat (first | (with_reducible first | exact HK.out | apply Kept.alloc | apply Kept.drewN | apply Kept.drew | refine Kept.setCell ?_ (.inl (.inr rfl)) _) | exact HK.out)).1) : w.heap.size ≤ gb1060)); replace HK := am__ (Kept.below (S := (fun k_ => (P1_5_ k_) ∨ k_ = g)) (by repeat (first | (with_reducible first | exact HK.out | apply Kept.alloc | apply Kept.drewN | apply Kept.drew | refine Kept.setCell ?_ (.inl (.inr rfl)) _) | exact HK.out)) hb); have GE1060 := am__ ((bsz__ hg b0_l__ : w0.heap.size ≤ gb1060)); replace HB := am__ (below_step (b0_l__) hb); have NB0_1060 := am__ ((nlt__ hg (IsS104.lt (show IsS104 w0 _ g s0_0 s0_1 from hhi0__iss104)) : g ≠ gb1060)); have NB1060_0 := am__ ((ngt__ hg (IsS104.lt (show IsS104 w0 _ g s0_0 s0_1 from hhi0__iss104)) : gb1060 ≠ g)); replace HI0 := am__ (IsS104.below (hhi0__iss104) hb); clear hb hbox hg) | ((with_reducible refine gate_dst (N := 4) rfl ?_); refine be__ 4 #[.int .i64 0, .string (⟨#[]⟩ : ByteArray), .string (⟨#[]⟩ : ByteArray), .int .i64 0, .string (⟨#[]⟩ : ByteArray), .slice none 0 0] 63 ?_; intro gb1061 hg w40 hbox hb; replace HO1_5 := am__ (Kd.R_below (rr__ HO1_5.out) hb); have BK1061 := am__ (hbox); have GW1061 := am__ ((by rw [hg]; exact (by first | exact HK.out.1 | exact (show Kept w _ (fun k_ => (P1_5_ k_) ∨ k_ = g) from by repeat (first | (with_reducible first | exact HK.out | apply Kept.alloc | apply Kept.drewN | apply Kept.drew | refine Kept.setCell ?_ (.inl (.inr rfl)) _ | refine Kept.setCell ?_ (.inr GW1060.out) _) | exact HK.out)).1) : w.heap.size ≤ gb1061)); replace HK := am__ (Kept.below (S := (fun k_ => (P1_5_ k_) ∨ k_ = g)) (by repeat (first | (with_reducible first | exact HK.out | apply Kept.alloc | apply Kept.drewN | apply Kept.drew | refine Kept.setCell ?_ (.inl (.inr rfl)) _ | refine Kept.setCell ?_ (.inr GW1060.out) _) | exact HK.out)) hb); have GE1061 := am__ ((bsz__ hg b0_l__ : w0.heap.size ≤ gb1061)); replace HB := am__ (below_step (b0_l__) hb); have NB1060_1061 := am__ ((nl__ hg BK1060.out : gb1060 ≠ gb1061)); have NB1061_1060 := am__ ((ng__ hg BK1060.out : gb1061 ≠ gb1060)); replace BK1060 := am__ (blb__ BK1060.out hb); have NB0_1061 := am__ ((nlt__ hg (IsS104.lt (show IsS104 w0 _ g s0_0 s0_1 from hhi0__iss104)) : g ≠ gb1061)); have NB1061_0 := am__ ((ngt__ hg (IsS104.lt (show IsS104 w0 _ g s0_0 s0_1 from hhi0__iss104)) : gb1061 ≠ g)); replace HI0 := am__ (IsS104.below (hhi0__iss104) hb); clear hb hbox hg) | ((with_reducible refine gate_callee (f := 71) rfl ?_); refine gl__ (some 6) Try.func71 #[.pointer (some ⟨g, 0, none⟩), .int .i64 6] ?_; (with_reducible refine (spec_l1Rd_pick.calls k g s0_0 s0_1 6 t1062 t1063 w0 _ hhi0__iss104 b0_l__ A3.out).mono ?_); rintro e w41 ⟨rfl, hi, hb, hk⟩; refine ⟨_, rfl, ?_⟩; replace HO1_5 := am__ (Kd.R_mono (Kd.R_keep (IsS104.apart (show IsS104 w0 _ g s0_0 s0_1 from hhi0__iss104) (rr__ HO1_5.out) (by decide)) hk h2__) h1__); replace BK1060 := am__ (kbl__ hk BK1060.out NB1060_0.out); replace BK1061 := am__ (kbl__ hk BK1061.out NB1061_0.out); replace HK := am__ (Kept.of_keep (S := (fun k_ => (P1_5_ k_) ∨ k_ = g)) (by repeat (first | (with_reducible first | exact HK.out | apply Kept.alloc | apply Kept.drewN | apply Kept.drew | refine Kept.setCell ?_ (.inl (.inr rfl)) _ | refine Kept.setCell ?_ (.inr GW1060.out) _ | refine Kept.setCell ?_ (.inr GW1061.out) _) | exact HK.out)) hk (.inl (.inr rfl))); replace HB := am__ (hb); replace HI0 := am__ (hi); clear hi hb hk) | ((with_reducible refine gate_callee (f := 72) rfl ?_); refine gl__ (some 25) Try.func72 #[.string (⟨#[110]⟩ : ByteArray), .int .i64 41] ?_; (with_reducible refine (spec_l1Many.calls k (⟨#[110]⟩ : ByteArray) 41 t1072 _ A34.out).mono ?_); rintro e w' ⟨rfl, ⟨nd, rfl⟩⟩; refine ⟨_, rfl, ?_⟩; (try (rw [drewN_self w41]; generalize hq_ : World.drewN w41 _ = w41; have n0_ : Aside0 (Kd.R Kd.string 9 w41 w0.heap.size (fun k_ => (P1_5_ k_ ∨ w.heap.size ≤ k_)) (.slice Ao38 l1_5.length co38) l1_5) := ⟨by rw [← hq_]; exact (rr__ HO1_5.out)⟩; have n1_ : Aside0 (w41.heap[gb1060]? = some (.cells #[.int .i64 a1_0, .string a1_1, .string a1_2, .int .i64 a1_3, .string a1_4, .slice Ao38 l1_5.length co38] 63 (0, 0))) := ⟨by rw [← hq_]; exact (blk__ BK1060.out)⟩; have n2_ : Aside0 (w41.heap[gb1061]? = some (.cells #[.int .i64 0, .string (⟨#[]⟩ : ByteArray), .string (⟨#[]⟩ : ByteArray), .int .i64 0, .string (⟨#[]⟩ : ByteArray), .slice none 0 0] 63 (0, 0))) := ⟨by rw [← hq_]; exact (blk__ BK1061.out)⟩; have n3_ : Aside0 (IsS104 w0 w41 g s0_0 t1063) := ⟨by rw [← hq_]; exact (hhi0__iss104)⟩; have n4_ : Aside0 (Kept w w41 (fun k_ => (P1_5_ k_) ∨ k_ = g)) := ⟨by rw [← hq_]; exact (by repeat (first | (with_reducible first | exact HK.out | apply Kept.alloc | apply Kept.drewN | apply Kept.drew | refine Kept.setCell ?_ (.inl (.inr rfl)) _ | refine Kept.setCell ?_ (.inr GW1060.out) _ | refine Kept.setCell ?_ (.inr GW1061.out) _) | exact HK.out))⟩; have n5_ : Aside0 (Below w0.heap.size w0 w41) := ⟨by rw [← hq_]; exact (b0_l__)⟩; clear HO1_5 BK1060 BK1061 HI0 HK HB hq_; have HO1_5 := n0_; have BK1060 := n1_; have BK1061 := n2_; have HI0 := n3_; have HK := n4_; have HB := n5_; clear n0_ n1_ n2_ n3_ n4_ n5_))) | ((with_reducible refine gate_dst (N := 26) rfl ?_); refine Kd.R_lit Kd.string _ 9 ?hg (N := 26) ?hd (xs := ([(⟨#[]⟩ : ByteArray), (⟨#[97, 32, 98]⟩ : ByteArray), t1072] : List ByteArray)) (inner := [.string (⟨#[]⟩ : ByteArray), .string (⟨#[97, 32, 98]⟩ : ByteArray), .string t1072]) (ok := fun _ => True) (okp := fun _ => True) ?hr ?hp (fun _ hk => hk) trivial (Below.refl _ _) (Nat.le_refl _) (by simp) ?_; (case hd => rfl); (case hg => rfl); (case hr => first | (go_simp; done) | (go_simp; rfl)); (case hp => exact (Reps.one (show Kd.M Kd.string _ _ _ (⟨#[]⟩ : ByteArray) [.string (⟨#[]⟩ : ByteArray)] from rfl) (Reps.one (show Kd.M Kd.string _ _ _ (⟨#[97, 32, 98]⟩ : ByteArray) [.string (⟨#[97, 32, 98]⟩ : ByteArray)] from rfl) (Reps.one (show Kd.M Kd.string _ _ _ t1072 [.string t1072] from rfl) (Reps.none _ _))))); intro v1074 w42 ho43 hb hg_ hnew_; clear hg_ hnew_; (first | rw [← Ny1073.out] at ho43 | (simp only [Int.reduceToNat] at ho43; rw [← Ny1073.out] at ho43)); have HO1075 := am__ (Kd.R_lower (Kd.R_new' (Kd.R_newM (M := fun k_ => (P1_5_ k_ ∨ w.heap.size ≤ k_)) ho43 (by first | exact HK.out.1 | exact (show Kept w _ (fun k_ => (P1_5_ k_) ∨ k_ = g) from by repeat (first | (with_reducible first | exact HK.out | apply Kept.alloc | apply Kept.drewN | apply Kept.drew | refine Kept.setCell ?_ (.inl (.inr rfl)) _ | refine Kept.setCell ?_ (.inr GW1060.out) _ | refine Kept.setCell ?_ (.inr GW1061.out) _) | exact HK.out)).1) (fun k_ h_ => .inr h_)) (Kd.R_lt (rr__ HO1_5.out))) (below_size (b0_l__))); replace HO1_5 := am__ (Kd.R_elder' (rr__ HO1_5.out) (Kd.R_base ho43) hb); replace BK1060 := am__ (blb__ BK1060.out hb); replace BK1061 := am__ (blb__ BK1061.out hb); replace HK := am__ (Kept.below (S := (fun k_ => (P1_5_ k_) ∨ k_ = g)) (by repeat (first | (with_reducible first | exact HK.out | apply Kept.alloc | apply Kept.drewN | apply Kept.drew | refine Kept.setCell ?_ (.inl (.inr rfl)) _ | refine Kept.setCell ?_ (.inr GW1060.out) _ | refine Kept.setCell ?_ (.inr GW1061.out) _) | exact HK.out)) hb); replace HB := am__ (below_step (b0_l__) hb); replace HI0 := am__ (IsS104.below (hhi0__iss104) hb); clear hb ho43) | ((with_reducible refine gate_callee (f := 71) rfl ?_); refine gl__ (some 28) Try.func71 #[.pointer (some ⟨g, 0, none⟩), .int .i64 3] ?_; (with_reducible refine (spec_l1Rd_pick.calls k g s0_0 t1063 3 t1076 t1077 w0 _ hhi0__iss104 b0_l__ A35.out).mono ?_); rintro e w44 ⟨rfl, hi, hb, hk⟩; refine ⟨_, rfl, ?_⟩; replace HO1_5 := am__ (Kd.R_mono (Kd.R_keep (IsS104.apart (show IsS104 w0 _ g s0_0 t1063 from hhi0__iss104) (rr__ HO1_5.out) (by decide)) hk h2__) h1__); replace BK1060 := am__ (kbl__ hk BK1060.out NB1060_0.out); replace BK1061 := am__ (kbl__ hk BK1061.out NB1061_0.out); replace HO1075 := am__ (Kd.R_mono (Kd.R_keep (IsS104.apart (show IsS104 w0 _ g s0_0 t1063 from hhi0__iss104) (rr__ HO1075.out) (by decide)) hk h2__) h1__); replace HK := am__ (Kept.of_keep (S := (fun k_ => (P1_5_ k_) ∨ k_ = g)) (by repeat (first | (with_reducible first | exact HK.out | apply Kept.alloc | apply Kept.drewN | apply Kept.drew | refine Kept.setCell ?_ (.inl (.inr rfl)) _ | refine Kept.setCell ?_ (.inr GW1060.out) _ | refine Kept.setCell ?_ (.inr GW1061.out) _) | exact HK.out)) hk (.inl (.inr rfl))); replace HB := am__ (hb); replace HI0 := am__ (hi); clear hi hb hk; obtain ⟨Ao45, co45, eo45⟩ := Kd.R_slice HO1075.out; subst eo45; have p1078 : 0 ≤ (t1076 : Int) := of_decide_eq_true (by first | (with_reducible assumption) | assumption); have q1078 : t1076 < (y1073.length : Int) := of_decide_eq_true (by first | (with_reducible assumption) | assumption); obtain ⟨ad1078, e1078, hx1078_0⟩ := Kd.at_string (Kd.R_reads' HO1075.out).2.2 t1076 p1078 q1078; cases e1078; replace p1078 := eq_true p1078; replace q1078 := eq_true q1078; have hnb46 := NB1060_1061.out; have hnc46 := NB1061_1060.out; have hnb47 := NB1060_0.out; have hnc47 := NB0_1060.out; obtain ⟨hcz48_0, hcz48_1, hcz48_2, hcz48_3, hcz48_4, hcz48_5, hfz48_0, hfz48_1, hfz48_2, hfz48_3, hfz48_4, hfz48_5⟩ := bk6__ BK1060.out; have hnb49 := NB1061_0.out; have hnc49 := NB0_1061.out; obtain ⟨hcz50_0, hcz50_1, hcz50_2, hcz50_3, hcz50_4, hcz50_5, hfz50_0, hfz50_1, hfz50_2, hfz50_3, hfz50_4, hfz50_5⟩ := bk6__ BK1061.out))
      refine bodyPost_ret (results_cell_row rfl _ _ gb1061 63 #[.int .i64 a1_0, .string a1_1, .string (rdOf ByteArray.empty y1073 t1076), .int .i64 a1_3, .string a1_4, .slice Ao38 l1_5.length co38] (0, 0) _ rfl (bpu__ BK1061.out) Try.underlying63 rfl (by kernel_rfl)) rfl ?_
      exact ⟨_, by first | rfl | (simp [errW_none, errW_some] <;> rfl) | (simp [*, errW_none, errW_some] <;> rfl), by refine rps__ ?_; exact Kd.R_mono (Kd.R_far (p := ⟨gb1061, 5, none⟩) (Kd.R_far (p := ⟨gb1061, 4, none⟩) (Kd.R_far (p := ⟨gb1061, 3, none⟩) (Kd.R_far (p := ⟨gb1061, 2, none⟩) (Kd.R_far (p := ⟨gb1061, 1, none⟩) (Kd.R_far (p := ⟨gb1061, 0, none⟩) (Kd.R_far (p := ⟨gb1060, 2, none⟩) (Kd.R_types (Kd.R_types HO1_5.out BK1060.out (by decide)) BK1061.out (by decide)) (fun _ hk => hk.1.2) (.string (rdOf ByteArray.empty y1073 t1076))) h2__ (.int .i64 a1_0)) h2__ (.string a1_1)) h2__ (.string (rdOf ByteArray.empty y1073 t1076))) h2__ (.int .i64 a1_3)) h2__ (.string a1_4)) h2__ (.slice Ao38 l1_5.length co38)) (fun _ hk => hk.1.1.1), hhi0__iss104, by repeat (first | (with_reducible first | exact HB.out | apply below_alloc | apply pw_below_drewN | apply below_drew1 | refine below_set ?_ (IsS104.ge HI0.out) | refine below_set ?_ GE1060.out | refine below_set ?_ GE1061.out) | exact HB.out), by repeat (first | (with_reducible first | exact HK.out | apply Kept.alloc | apply Kept.drewN | apply Kept.drew | refine Kept.setCell ?_ (.inl (.inr rfl)) _ | refine Kept.setCell ?_ (.inr GW1060.out) _ | refine Kept.setCell ?_ (.inr GW1061.out) _) | exact HK.out)⟩
     ·rw [if_neg c37] at H
      exact absurd H (by simp)
    ·rw [if_neg c36] at H
     exact absurd H (by simp)
   ·rw [if_neg c33] at H
    have c33b0 : (t1062 == 2) = false := beq_eq_false_iff_ne.mpr c33
    have c33b1 : (t1062 != 2) = true := bne_iff_ne.mpr c33
    by_cases c51 : t1062 = 3
    ·rw [if_pos c51] at H
     have c51b0 : (t1062 == 3) = true := beq_iff_eq.mpr c51
     have c51b1 : (t1062 != 3) = false := bne_eq_false_iff_eq.mpr c51
     clear c51
     by_cases c52 : a1_1.size + 1 ≤ 9223372036854775807
     ·rw [if_pos c52] at H
      have c52b0 := eq_true c52
      have c52b1 : decide (a1_1.size + 1 ≤ 9223372036854775807) = true := decide_eq_true c52
      try have c52b2 : (9223372036854775807 < a1_1.size + 1) = False := eq_false (Nat.not_lt.2 c52)
      simp only [Option.some.injEq, Prod.mk.injEq] at H
      obtain ⟨rfl, rfl, rfl, rfl, rfl, rfl, rfl⟩ := H
      obtain ⟨Ao53, co53, eo53⟩ := Kd.R_slice HO1_5.out
      subst eo53
      go_enter Try.func82, Try.ntmps82
      go_wp2_with (first | ((with_reducible refine gate_dst (N := 3) rfl ?_); refine be__ 3 #[.int .i64 a1_0, .string a1_1, .string a1_2, .int .i64 a1_3, .string a1_4, .slice Ao53 l1_5.length co53] 63 ?_; intro gb1060 hg w54 hbox hb; replace HO1_5 := am__ (Kd.R_below (rr__ HO1_5.out) hb); have BK1060 := am__ (hbox); have GW1060 := am__ ((by rw [hg]; exact (by first | exact HK.out.1 | exact (show Kept w _ (fun k_ => (P1_5_ k_) ∨ k_ = g) from by repeat (first | (with_reducible first | exact HK.out | apply Kept.alloc | apply Kept.drewN | apply Kept.drew | refine Kept.setCell ?_ (.inl (.inr rfl)) _) | exact HK.out)).1) : w.heap.size ≤ gb1060)); replace HK := am__ (Kept.below (S := (fun k_ => (P1_5_ k_) ∨ k_ = g)) (by repeat (first | (with_reducible first | exact HK.out | apply Kept.alloc | apply Kept.drewN | apply Kept.drew | refine Kept.setCell ?_ (.inl (.inr rfl)) _) | exact HK.out)) hb); have GE1060 := am__ ((bsz__ hg b0_l__ : w0.heap.size ≤ gb1060)); replace HB := am__ (below_step (b0_l__) hb); have NB0_1060 := am__ ((nlt__ hg (IsS104.lt (show IsS104 w0 _ g s0_0 s0_1 from hhi0__iss104)) : g ≠ gb1060)); have NB1060_0 := am__ ((ngt__ hg (IsS104.lt (show IsS104 w0 _ g s0_0 s0_1 from hhi0__iss104)) : gb1060 ≠ g)); replace HI0 := am__ (IsS104.below (hhi0__iss104) hb); clear hb hbox hg) | ((with_reducible refine gate_dst (N := 4) rfl ?_); refine be__ 4 #[.int .i64 0, .string (⟨#[]⟩ : ByteArray), .string (⟨#[]⟩ : ByteArray), .int .i64 0, .string (⟨#[]⟩ : ByteArray), .slice none 0 0] 63 ?_; intro gb1061 hg w55 hbox hb; replace HO1_5 := am__ (Kd.R_below (rr__ HO1_5.out) hb); have BK1061 := am__ (hbox); have GW1061 := am__ ((by rw [hg]; exact (by first | exact HK.out.1 | exact (show Kept w _ (fun k_ => (P1_5_ k_) ∨ k_ = g) from by repeat (first | (with_reducible first | exact HK.out | apply Kept.alloc | apply Kept.drewN | apply Kept.drew | refine Kept.setCell ?_ (.inl (.inr rfl)) _ | refine Kept.setCell ?_ (.inr GW1060.out) _) | exact HK.out)).1) : w.heap.size ≤ gb1061)); replace HK := am__ (Kept.below (S := (fun k_ => (P1_5_ k_) ∨ k_ = g)) (by repeat (first | (with_reducible first | exact HK.out | apply Kept.alloc | apply Kept.drewN | apply Kept.drew | refine Kept.setCell ?_ (.inl (.inr rfl)) _ | refine Kept.setCell ?_ (.inr GW1060.out) _) | exact HK.out)) hb); have GE1061 := am__ ((bsz__ hg b0_l__ : w0.heap.size ≤ gb1061)); replace HB := am__ (below_step (b0_l__) hb); have NB1060_1061 := am__ ((nl__ hg BK1060.out : gb1060 ≠ gb1061)); have NB1061_1060 := am__ ((ng__ hg BK1060.out : gb1061 ≠ gb1060)); replace BK1060 := am__ (blb__ BK1060.out hb); have NB0_1061 := am__ ((nlt__ hg (IsS104.lt (show IsS104 w0 _ g s0_0 s0_1 from hhi0__iss104)) : g ≠ gb1061)); have NB1061_0 := am__ ((ngt__ hg (IsS104.lt (show IsS104 w0 _ g s0_0 s0_1 from hhi0__iss104)) : gb1061 ≠ g)); replace HI0 := am__ (IsS104.below (hhi0__iss104) hb); clear hb hbox hg) | ((with_reducible refine gate_callee (f := 71) rfl ?_); refine gl__ (some 6) Try.func71 #[.pointer (some ⟨g, 0, none⟩), .int .i64 6] ?_; (with_reducible refine (spec_l1Rd_pick.calls k g s0_0 s0_1 6 t1062 t1063 w0 _ hhi0__iss104 b0_l__ A3.out).mono ?_); rintro e w56 ⟨rfl, hi, hb, hk⟩; refine ⟨_, rfl, ?_⟩; replace HO1_5 := am__ (Kd.R_mono (Kd.R_keep (IsS104.apart (show IsS104 w0 _ g s0_0 s0_1 from hhi0__iss104) (rr__ HO1_5.out) (by decide)) hk h2__) h1__); replace BK1060 := am__ (kbl__ hk BK1060.out NB1060_0.out); replace BK1061 := am__ (kbl__ hk BK1061.out NB1061_0.out); replace HK := am__ (Kept.of_keep (S := (fun k_ => (P1_5_ k_) ∨ k_ = g)) (by repeat (first | (with_reducible first | exact HK.out | apply Kept.alloc | apply Kept.drewN | apply Kept.drew | refine Kept.setCell ?_ (.inl (.inr rfl)) _ | refine Kept.setCell ?_ (.inr GW1060.out) _ | refine Kept.setCell ?_ (.inr GW1061.out) _) | exact HK.out)) hk (.inl (.inr rfl))); replace HB := am__ (hb); replace HI0 := am__ (hi); clear hi hb hk; have hnb57 := NB1060_1061.out; have hnc57 := NB1061_1060.out; have hnb58 := NB1060_0.out; have hnc58 := NB0_1060.out; obtain ⟨hcz59_0, hcz59_1, hcz59_2, hcz59_3, hcz59_4, hcz59_5, hfz59_0, hfz59_1, hfz59_2, hfz59_3, hfz59_4, hfz59_5⟩ := bk6__ BK1060.out; have hnb60 := NB1061_0.out; have hnc60 := NB0_1061.out; obtain ⟨hcz61_0, hcz61_1, hcz61_2, hcz61_3, hcz61_4, hcz61_5, hfz61_0, hfz61_1, hfz61_2, hfz61_3, hfz61_4, hfz61_5⟩ := bk6__ BK1061.out))
      refine bodyPost_ret (results_cell_row rfl _ _ gb1061 63 #[.int .i64 a1_0, .string (a1_1 ++ (⟨#[120]⟩ : ByteArray)), .string a1_2, .int .i64 a1_3, .string a1_4, .slice Ao53 l1_5.length co53] (0, 0) _ rfl (bpu__ BK1061.out) Try.underlying63 rfl (by kernel_rfl)) rfl ?_
      exact ⟨_, by first | rfl | (simp [errW_none, errW_some] <;> rfl) | (simp [*, errW_none, errW_some] <;> rfl), by refine rps__ ?_; exact Kd.R_mono (Kd.R_far (p := ⟨gb1061, 5, none⟩) (Kd.R_far (p := ⟨gb1061, 4, none⟩) (Kd.R_far (p := ⟨gb1061, 3, none⟩) (Kd.R_far (p := ⟨gb1061, 2, none⟩) (Kd.R_far (p := ⟨gb1061, 1, none⟩) (Kd.R_far (p := ⟨gb1061, 0, none⟩) (Kd.R_far (p := ⟨gb1060, 1, none⟩) (Kd.R_types (Kd.R_types HO1_5.out BK1060.out (by decide)) BK1061.out (by decide)) (fun _ hk => hk.1.2) (.string (a1_1 ++ (⟨#[120]⟩ : ByteArray)))) h2__ (.int .i64 a1_0)) h2__ (.string (a1_1 ++ (⟨#[120]⟩ : ByteArray)))) h2__ (.string a1_2)) h2__ (.int .i64 a1_3)) h2__ (.string a1_4)) h2__ (.slice Ao53 l1_5.length co53)) (fun _ hk => hk.1.1), hhi0__iss104, by repeat (first | (with_reducible first | exact HB.out | apply below_alloc | apply pw_below_drewN | apply below_drew1 | refine below_set ?_ (IsS104.ge HI0.out) | refine below_set ?_ GE1060.out | refine below_set ?_ GE1061.out) | exact HB.out), by repeat (first | (with_reducible first | exact HK.out | apply Kept.alloc | apply Kept.drewN | apply Kept.drew | refine Kept.setCell ?_ (.inl (.inr rfl)) _ | refine Kept.setCell ?_ (.inr GW1060.out) _ | refine Kept.setCell ?_ (.inr GW1061.out) _) | exact HK.out)⟩
     ·rw [if_neg c52] at H
      exact absurd H (by simp)
    ·rw [if_neg c51] at H
     have c51b0 : (t1062 == 3) = false := beq_eq_false_iff_ne.mpr c51
     have c51b1 : (t1062 != 3) = true := bne_iff_ne.mpr c51
     by_cases c62 : t1062 = 4
     ·rw [if_pos c62] at H
      have c62b0 : (t1062 == 4) = true := beq_iff_eq.mpr c62
      have c62b1 : (t1062 != 4) = false := bne_eq_false_iff_eq.mpr c62
      clear c62
      replace H := Option.bind_eq_some_iff.mp H
      obtain ⟨⟨t1079, t1080, t1083⟩, A630, H⟩ := H
      replace H : (some (a1_0, a1_1, a1_2, a1_3, t1079, t1080, t1083)) = some (r1, r2, r3, r4, r5, r6, r7) := H
      have A63 := Aside0.mk A630
      clear A630
      simp only [Option.some.injEq, Prod.mk.injEq] at H
      obtain ⟨rfl, rfl, rfl, rfl, rfl, rfl, rfl⟩ := H
      obtain ⟨Ao64, co64, eo64⟩ := Kd.R_slice HO1_5.out
      subst eo64
      go_enter Try.func82, Try.ntmps82
      go_wp2_with (first | ((with_reducible refine gate_dst (N := 3) rfl ?_); refine be__ 3 #[.int .i64 a1_0, .string a1_1, .string a1_2, .int .i64 a1_3, .string a1_4, .slice Ao64 l1_5.length co64] 63 ?_; intro gb1060 hg w65 hbox hb; replace HO1_5 := am__ (Kd.R_below (rr__ HO1_5.out) hb); have BK1060 := am__ (hbox); have GW1060 := am__ ((by rw [hg]; exact (by first | exact HK.out.1 | exact (show Kept w _ (fun k_ => (P1_5_ k_) ∨ k_ = g) from by repeat (first | (with_reducible first | exact HK.out | apply Kept.alloc | apply Kept.drewN | apply Kept.drew | refine Kept.setCell ?_ (.inl (.inr rfl)) _) | exact HK.out)).1) : w.heap.size ≤ gb1060)); replace HK := am__ (Kept.below (S := (fun k_ => (P1_5_ k_) ∨ k_ = g)) (by repeat (first | (with_reducible first | exact HK.out | apply Kept.alloc | apply Kept.drewN | apply Kept.drew | refine Kept.setCell ?_ (.inl (.inr rfl)) _) | exact HK.out)) hb); have GE1060 := am__ ((bsz__ hg b0_l__ : w0.heap.size ≤ gb1060)); replace HB := am__ (below_step (b0_l__) hb); have NB0_1060 := am__ ((nlt__ hg (IsS104.lt (show IsS104 w0 _ g s0_0 s0_1 from hhi0__iss104)) : g ≠ gb1060)); have NB1060_0 := am__ ((ngt__ hg (IsS104.lt (show IsS104 w0 _ g s0_0 s0_1 from hhi0__iss104)) : gb1060 ≠ g)); replace HI0 := am__ (IsS104.below (hhi0__iss104) hb); clear hb hbox hg) | ((with_reducible refine gate_dst (N := 4) rfl ?_); refine be__ 4 #[.int .i64 0, .string (⟨#[]⟩ : ByteArray), .string (⟨#[]⟩ : ByteArray), .int .i64 0, .string (⟨#[]⟩ : ByteArray), .slice none 0 0] 63 ?_; intro gb1061 hg w66 hbox hb; replace HO1_5 := am__ (Kd.R_below (rr__ HO1_5.out) hb); have BK1061 := am__ (hbox); have GW1061 := am__ ((by rw [hg]; exact (by first | exact HK.out.1 | exact (show Kept w _ (fun k_ => (P1_5_ k_) ∨ k_ = g) from by repeat (first | (with_reducible first | exact HK.out | apply Kept.alloc | apply Kept.drewN | apply Kept.drew | refine Kept.setCell ?_ (.inl (.inr rfl)) _ | refine Kept.setCell ?_ (.inr GW1060.out) _) | exact HK.out)).1) : w.heap.size ≤ gb1061)); replace HK := am__ (Kept.below (S := (fun k_ => (P1_5_ k_) ∨ k_ = g)) (by repeat (first | (with_reducible first | exact HK.out | apply Kept.alloc | apply Kept.drewN | apply Kept.drew | refine Kept.setCell ?_ (.inl (.inr rfl)) _ | refine Kept.setCell ?_ (.inr GW1060.out) _) | exact HK.out)) hb); have GE1061 := am__ ((bsz__ hg b0_l__ : w0.heap.size ≤ gb1061)); replace HB := am__ (below_step (b0_l__) hb); have NB1060_1061 := am__ ((nl__ hg BK1060.out : gb1060 ≠ gb1061)); have NB1061_1060 := am__ ((ng__ hg BK1060.out : gb1061 ≠ gb1060)); replace BK1060 := am__ (blb__ BK1060.out hb); have NB0_1061 := am__ ((nlt__ hg (IsS104.lt (show IsS104 w0 _ g s0_0 s0_1 from hhi0__iss104)) : g ≠ gb1061)); have NB1061_0 := am__ ((ngt__ hg (IsS104.lt (show IsS104 w0 _ g s0_0 s0_1 from hhi0__iss104)) : gb1061 ≠ g)); replace HI0 := am__ (IsS104.below (hhi0__iss104) hb); clear hb hbox hg) | ((with_reducible refine gate_callee (f := 71) rfl ?_); refine gl__ (some 6) Try.func71 #[.pointer (some ⟨g, 0, none⟩), .int .i64 6] ?_; (with_reducible refine (spec_l1Rd_pick.calls k g s0_0 s0_1 6 t1062 t1063 w0 _ hhi0__iss104 b0_l__ A3.out).mono ?_); rintro e w67 ⟨rfl, hi, hb, hk⟩; refine ⟨_, rfl, ?_⟩; replace HO1_5 := am__ (Kd.R_mono (Kd.R_keep (IsS104.apart (show IsS104 w0 _ g s0_0 s0_1 from hhi0__iss104) (rr__ HO1_5.out) (by decide)) hk h2__) h1__); replace BK1060 := am__ (kbl__ hk BK1060.out NB1060_0.out); replace BK1061 := am__ (kbl__ hk BK1061.out NB1061_0.out); replace HK := am__ (Kept.of_keep (S := (fun k_ => (P1_5_ k_) ∨ k_ = g)) (by repeat (first | (with_reducible first | exact HK.out | apply Kept.alloc | apply Kept.drewN | apply Kept.drew | refine Kept.setCell ?_ (.inl (.inr rfl)) _ | refine Kept.setCell ?_ (.inr GW1060.out) _ | refine Kept.setCell ?_ (.inr GW1061.out) _) | exact HK.out)) hk (.inl (.inr rfl))); replace HB := am__ (hb); replace HI0 := am__ (hi); clear hi hb hk; have hnb68 := NB1060_1061.out; have hnc68 := NB1061_1060.out; have hnb69 := NB1060_0.out; have hnc69 := NB0_1060.out; obtain ⟨hcz70_0, hcz70_1, hcz70_2, hcz70_3, hcz70_4, hcz70_5, hfz70_0, hfz70_1, hfz70_2, hfz70_3, hfz70_4, hfz70_5⟩ := bk6__ BK1060.out) | ((with_reducible refine gate_callee (f := 80) rfl ?_); refine gl__ (some 43) Try.func80 #[.pointer (some ⟨g, 0, none⟩), .agg #[.string a1_4, .slice Ao64 l1_5.length co64]] ?_; (with_reducible refine (spec_l1SpoilThing.calls k g s0_0 t1063 a1_4 _ _ l1_5 t1079 t1080 t1083 w0 _ hhi0__iss104 b0_l__ ?side3 ?side4 ?side5 A63.out).mono ?_); (case side3 => repeat (first | exact (Kd.R_reads' HO1_5.out).2.2 | (with_reducible refine Kd.C_alloc ?_ _) | (with_reducible refine Kd.C_drewN ?_ _) | (with_reducible refine Kd.C_drew ?_))); (case side4 => exact (Kd.R_reads' HO1_5.out).2.1); (case side5 => exact far_slice (IsS104.own_ne HI0.out HO1_5.out (by decide))); rintro e w71 ⟨v1081, rfl, ho0, hi, hb, hk⟩; refine ⟨_, rfl, ?_⟩; replace BK1060 := am__ (kbl__ hk BK1060.out NB1060_0.out); replace BK1061 := am__ (kbl__ hk BK1061.out NB1061_0.out); have HO1082 := am__ (Kd.R_lower (Kd.R_new' (Kd.R_newM (M := fun k_ => (P1_5_ k_ ∨ w.heap.size ≤ k_)) ho0 (by first | exact HK.out.1 | exact (show Kept w _ (fun k_ => (P1_5_ k_) ∨ k_ = g) from by repeat (first | (with_reducible first | exact HK.out | apply Kept.alloc | apply Kept.drewN | apply Kept.drew | refine Kept.setCell ?_ (.inl (.inr rfl)) _ | refine Kept.setCell ?_ (.inr GW1060.out) _ | refine Kept.setCell ?_ (.inr GW1061.out) _) | exact HK.out)).1) (fun k_ h_ => .inr h_)) (Kd.R_lt (rr__ HO1_5.out))) (below_size (b0_l__))); replace HO1_5 := am__ (Kd.R_mono (Kd.R_told (Kd.R_oldK (IsS104.apart (show IsS104 w0 _ g s0_0 t1063 from hhi0__iss104) (rr__ HO1_5.out) (by decide)) hk) (Kd.R_base ho0)) h1__); replace HK := am__ (Kept.of_keep (S := (fun k_ => (P1_5_ k_) ∨ k_ = g)) (by repeat (first | (with_reducible first | exact HK.out | apply Kept.alloc | apply Kept.drewN | apply Kept.drew | refine Kept.setCell ?_ (.inl (.inr rfl)) _ | refine Kept.setCell ?_ (.inr GW1060.out) _ | refine Kept.setCell ?_ (.inr GW1061.out) _) | exact HK.out)) hk (.inl (.inr rfl))); replace HB := am__ (hb); replace HI0 := am__ (hi); clear hi hb hk; (try clear ho0); obtain ⟨hcz72_0, hcz72_1, hcz72_2, hcz72_3, hcz72_4, hcz72_5, hfz72_0, hfz72_1, hfz72_2, hfz72_3, hfz72_4, hfz72_5⟩ := bk6__ BK1060.out; obtain ⟨Ao73, co73, eo73⟩ := Kd.R_slice HO1082.out; subst eo73; have hnb74 := NB1061_0.out; have hnc74 := NB0_1061.out; obtain ⟨hcz75_0, hcz75_1, hcz75_2, hcz75_3, hcz75_4, hcz75_5, hfz75_0, hfz75_1, hfz75_2, hfz75_3, hfz75_4, hfz75_5⟩ := bk6__ BK1061.out))
      refine bodyPost_ret (results_cell_row rfl _ _ gb1061 63 #[.int .i64 a1_0, .string a1_1, .string a1_2, .int .i64 a1_3, .string t1079, .slice Ao73 t1080.length co73] (0, 0) _ rfl (bpu__ BK1061.out) Try.underlying63 rfl (by kernel_rfl)) rfl ?_
      exact ⟨_, by first | rfl | (simp [errW_none, errW_some] <;> rfl) | (simp [*, errW_none, errW_some] <;> rfl), by refine rps__ ?_; exact Kd.R_mono (Kd.R_far (p := ⟨gb1061, 5, none⟩) (Kd.R_far (p := ⟨gb1061, 4, none⟩) (Kd.R_far (p := ⟨gb1061, 3, none⟩) (Kd.R_far (p := ⟨gb1061, 2, none⟩) (Kd.R_far (p := ⟨gb1061, 1, none⟩) (Kd.R_far (p := ⟨gb1061, 0, none⟩) (Kd.R_far (p := ⟨gb1060, 5, none⟩) (Kd.R_far (p := ⟨gb1060, 4, none⟩) (Kd.R_types (Kd.R_types HO1082.out BK1060.out (by decide)) BK1061.out (by decide)) (fun _ hk => hk.1.2) (.string t1079)) (fun _ hk => hk.1.2) (.slice Ao73 t1080.length co73)) h2__ (.int .i64 a1_0)) h2__ (.string a1_1)) h2__ (.string a1_2)) h2__ (.int .i64 a1_3)) h2__ (.string t1079)) h2__ (.slice Ao73 t1080.length co73)) (fun _ hk => hk.1.1.1.1), hhi0__iss104, by repeat (first | (with_reducible first | exact HB.out | apply below_alloc | apply pw_below_drewN | apply below_drew1 | refine below_set ?_ (IsS104.ge HI0.out) | refine below_set ?_ GE1060.out | refine below_set ?_ GE1061.out) | exact HB.out), by repeat (first | (with_reducible first | exact HK.out | apply Kept.alloc | apply Kept.drewN | apply Kept.drew | refine Kept.setCell ?_ (.inl (.inr rfl)) _ | refine Kept.setCell ?_ (.inr GW1060.out) _ | refine Kept.setCell ?_ (.inr GW1061.out) _) | exact HK.out)⟩
     ·rw [if_neg c62] at H
      have c62b0 : (t1062 == 4) = false := beq_eq_false_iff_ne.mpr c62
      have c62b1 : (t1062 != 4) = true := bne_iff_ne.mpr c62
      simp only [Option.some.injEq, Prod.mk.injEq] at H
      obtain ⟨rfl, rfl, rfl, rfl, rfl, rfl, rfl⟩ := H
      obtain ⟨Ao76, co76, eo76⟩ := Kd.R_slice HO1_5.out
      subst eo76
      go_enter Try.func82, Try.ntmps82
      go_wp2_with (first | ((with_reducible refine gate_dst (N := 3) rfl ?_); refine be__ 3 #[.int .i64 a1_0, .string a1_1, .string a1_2, .int .i64 a1_3, .string a1_4, .slice Ao76 l1_5.length co76] 63 ?_; intro gb1060 hg w77 hbox hb; replace HO1_5 := am__ (Kd.R_below (rr__ HO1_5.out) hb); have BK1060 := am__ (hbox); have GW1060 := am__ ((by rw [hg]; exact (by first | exact HK.out.1 | exact (show Kept w _ (fun k_ => (P1_5_ k_) ∨ k_ = g) from by repeat (first | (with_reducible first | exact HK.out | apply Kept.alloc | apply Kept.drewN | apply Kept.drew | refine Kept.setCell ?_ (.inl (.inr rfl)) _) | exact HK.out)).1) : w.heap.size ≤ gb1060)); replace HK := am__ (Kept.below (S := (fun k_ => (P1_5_ k_) ∨ k_ = g)) (by repeat (first | (with_reducible first | exact HK.out | apply Kept.alloc | apply Kept.drewN | apply Kept.drew | refine Kept.setCell ?_ (.inl (.inr rfl)) _) | exact HK.out)) hb); have GE1060 := am__ ((bsz__ hg b0_l__ : w0.heap.size ≤ gb1060)); replace HB := am__ (below_step (b0_l__) hb); have NB0_1060 := am__ ((nlt__ hg (IsS104.lt (show IsS104 w0 _ g s0_0 s0_1 from hhi0__iss104)) : g ≠ gb1060)); have NB1060_0 := am__ ((ngt__ hg (IsS104.lt (show IsS104 w0 _ g s0_0 s0_1 from hhi0__iss104)) : gb1060 ≠ g)); replace HI0 := am__ (IsS104.below (hhi0__iss104) hb); clear hb hbox hg) | ((with_reducible refine gate_dst (N := 4) rfl ?_); refine be__ 4 #[.int .i64 0, .string (⟨#[]⟩ : ByteArray), .string (⟨#[]⟩ : ByteArray), .int .i64 0, .string (⟨#[]⟩ : ByteArray), .slice none 0 0] 63 ?_; intro gb1061 hg w78 hbox hb; replace HO1_5 := am__ (Kd.R_below (rr__ HO1_5.out) hb); have BK1061 := am__ (hbox); have GW1061 := am__ ((by rw [hg]; exact (by first | exact HK.out.1 | exact (show Kept w _ (fun k_ => (P1_5_ k_) ∨ k_ = g) from by repeat (first | (with_reducible first | exact HK.out | apply Kept.alloc | apply Kept.drewN | apply Kept.drew | refine Kept.setCell ?_ (.inl (.inr rfl)) _ | refine Kept.setCell ?_ (.inr GW1060.out) _) | exact HK.out)).1) : w.heap.size ≤ gb1061)); replace HK := am__ (Kept.below (S := (fun k_ => (P1_5_ k_) ∨ k_ = g)) (by repeat (first | (with_reducible first | exact HK.out | apply Kept.alloc | apply Kept.drewN | apply Kept.drew | refine Kept.setCell ?_ (.inl (.inr rfl)) _ | refine Kept.setCell ?_ (.inr GW1060.out) _) | exact HK.out)) hb); have GE1061 := am__ ((bsz__ hg b0_l__ : w0.heap.size ≤ gb1061)); replace HB := am__ (below_step (b0_l__) hb); have NB1060_1061 := am__ ((nl__ hg BK1060.out : gb1060 ≠ gb1061)); have NB1061_1060 := am__ ((ng__ hg BK1060.out : gb1061 ≠ gb1060)); replace BK1060 := am__ (blb__ BK1060.out hb); have NB0_1061 := am__ ((nlt__ hg (IsS104.lt (show IsS104 w0 _ g s0_0 s0_1 from hhi0__iss104)) : g ≠ gb1061)); have NB1061_0 := am__ ((ngt__ hg (IsS104.lt (show IsS104 w0 _ g s0_0 s0_1 from hhi0__iss104)) : gb1061 ≠ g)); replace HI0 := am__ (IsS104.below (hhi0__iss104) hb); clear hb hbox hg) | ((with_reducible refine gate_callee (f := 71) rfl ?_); refine gl__ (some 6) Try.func71 #[.pointer (some ⟨g, 0, none⟩), .int .i64 6] ?_; (with_reducible refine (spec_l1Rd_pick.calls k g s0_0 s0_1 6 t1062 t1063 w0 _ hhi0__iss104 b0_l__ A3.out).mono ?_); rintro e w79 ⟨rfl, hi, hb, hk⟩; refine ⟨_, rfl, ?_⟩; replace HO1_5 := am__ (Kd.R_mono (Kd.R_keep (IsS104.apart (show IsS104 w0 _ g s0_0 s0_1 from hhi0__iss104) (rr__ HO1_5.out) (by decide)) hk h2__) h1__); replace BK1060 := am__ (kbl__ hk BK1060.out NB1060_0.out); replace BK1061 := am__ (kbl__ hk BK1061.out NB1061_0.out); replace HK := am__ (Kept.of_keep (S := (fun k_ => (P1_5_ k_) ∨ k_ = g)) (by repeat (first | (with_reducible first | exact HK.out | apply Kept.alloc | apply Kept.drewN | apply Kept.drew | refine Kept.setCell ?_ (.inl (.inr rfl)) _ | refine Kept.setCell ?_ (.inr GW1060.out) _ | refine Kept.setCell ?_ (.inr GW1061.out) _) | exact HK.out)) hk (.inl (.inr rfl))); replace HB := am__ (hb); replace HI0 := am__ (hi); clear hi hb hk; have hnb80 := NB1060_1061.out; have hnc80 := NB1061_1060.out; have hnb81 := NB1060_0.out; have hnc81 := NB0_1060.out; obtain ⟨hcz82_0, hcz82_1, hcz82_2, hcz82_3, hcz82_4, hcz82_5, hfz82_0, hfz82_1, hfz82_2, hfz82_3, hfz82_4, hfz82_5⟩ := bk6__ BK1060.out; have hnb83 := NB1061_0.out; have hnc83 := NB0_1061.out; obtain ⟨hcz84_0, hcz84_1, hcz84_2, hcz84_3, hcz84_4, hcz84_5, hfz84_0, hfz84_1, hfz84_2, hfz84_3, hfz84_4, hfz84_5⟩ := bk6__ BK1061.out))
      refine bodyPost_ret (results_cell_row rfl _ _ gb1061 63 #[.int .i64 a1_0, .string a1_1, .string a1_2, .int .i64 a1_3, .string (⟨#[116]⟩ : ByteArray), .slice Ao76 l1_5.length co76] (0, 0) _ rfl (bpu__ BK1061.out) Try.underlying63 rfl (by kernel_rfl)) rfl ?_
      exact ⟨_, by first | rfl | (simp [errW_none, errW_some] <;> rfl) | (simp [*, errW_none, errW_some] <;> rfl), by refine rps__ ?_; exact Kd.R_mono (Kd.R_far (p := ⟨gb1061, 5, none⟩) (Kd.R_far (p := ⟨gb1061, 4, none⟩) (Kd.R_far (p := ⟨gb1061, 3, none⟩) (Kd.R_far (p := ⟨gb1061, 2, none⟩) (Kd.R_far (p := ⟨gb1061, 1, none⟩) (Kd.R_far (p := ⟨gb1061, 0, none⟩) (Kd.R_far (p := ⟨gb1060, 4, none⟩) (Kd.R_types (Kd.R_types HO1_5.out BK1060.out (by decide)) BK1061.out (by decide)) (fun _ hk => hk.1.2) (.string (⟨#[116]⟩ : ByteArray))) h2__ (.int .i64 a1_0)) h2__ (.string a1_1)) h2__ (.string a1_2)) h2__ (.int .i64 a1_3)) h2__ (.string (⟨#[116]⟩ : ByteArray))) h2__ (.slice Ao76 l1_5.length co76)) (fun _ hk => hk.1.1), hhi0__iss104, by repeat (first | (with_reducible first | exact HB.out | apply below_alloc | apply pw_below_drewN | apply below_drew1 | refine below_set ?_ (IsS104.ge HI0.out) | refine below_set ?_ GE1060.out | refine below_set ?_ GE1061.out) | exact HB.out), by repeat (first | (with_reducible first | exact HK.out | apply Kept.alloc | apply Kept.drewN | apply Kept.drew | refine Kept.setCell ?_ (.inl (.inr rfl)) _ | refine Kept.setCell ?_ (.inr GW1060.out) _ | refine Kept.setCell ?_ (.inr GW1061.out) _) | exact HK.out)⟩
end Go.Proofs.Ytpnblgbkjbpeoaa.P

namespace Go.Proofs.Ytpnblgbkjbpeoaa.P
open Go.RowKit Go.Proofs.YtpnblgbkjbpeoaaW.PrintWords Go.Proofs.YtpnblgbkjbpeoaaW.PrintLast Go.Proofs.YtpnblgbkjbpeoaaW.PrintMore
attribute [local go_sem] max2_int min2_int max_two min_two max_three min_three max_four min_four   -- for this text's walks alone
set_option linter.unusedVariables false
set_option linter.unusedSimpArgs false
/-! ### spec_DrawFormEntry: function 52 -/
def spec_DrawFormEntry.j0 : Nat → Int → List Int → Int → Int → ByteArray → ByteArray → Int → ByteArray → List ByteArray → Option (Int × ByteArray × ByteArray × Int × ByteArray × List ByteArray × Int)
 | 0, _, _, _, _, _, _, _, _, _ => none
 | k + 1, x5, x1088000, x1088001, x1100000, x1100001, x1100002, x1100003, x1100004, x1100005 => (spec_l1Rd_pick.f k x1088000 x1088001 16).bind fun bt1111 => (if bt1111.1 = 0 then ((spec_l1Rd_pick.f k x1088000 bt1111.2 10).bind fun bt1113 => (some (x1100000, x1100001, x1100002, x1100003, x1100004, x1100005, bt1113.1))) else (some (x1100000, x1100001, x1100002, x1100003, x1100004, x1100005, x5)))
def spec_DrawFormEntry.f (k : Nat) (l0 : List Int) : Option (Int × ByteArray × ByteArray × Int × ByteArray × List ByteArray × Int) := (spec_l1Open.f l0).bind fun bt1085 => ((spec_l1DrawWidth.f k bt1085.1 bt1085.2).bind fun bt1088 => ((spec_l3Draw.f k bt1085.1 bt1088.2 bt1088.1).bind fun bt1090 => ((spec_l1Rd_pick.f k bt1085.1 bt1090.2.2.2.2.2.2 3).bind fun bt1100 => (if bt1100.1 = 0 then ((spec_l3Spoil.f k bt1085.1 bt1100.2 bt1090.1 bt1090.2.1 bt1090.2.2.1 bt1090.2.2.2.1 bt1090.2.2.2.2.1 bt1090.2.2.2.2.2.1).bind fun bt1102 => (spec_DrawFormEntry.j0 k bt1088.1 bt1085.1 bt1102.2.2.2.2.2.2 bt1102.1 bt1102.2.1 bt1102.2.2.1 bt1102.2.2.2.1 bt1102.2.2.2.2.1 bt1102.2.2.2.2.2.1)) else (spec_DrawFormEntry.j0 k bt1088.1 bt1085.1 bt1100.2 bt1090.1 bt1090.2.1 bt1090.2.2.1 bt1090.2.2.2.1 bt1090.2.2.2.2.1 bt1090.2.2.2.2.2.1)))))
set_option maxHeartbeats 8000000 in
set_option maxRecDepth 100000 in
theorem spec_DrawFormEntry.calls (k : Nat) (A0 : Option Addr) (c0 : Nat) (l0 : List Int) (r1 : Int) (r2 : ByteArray) (r3 : ByteArray) (r4 : Int) (r5 : ByteArray) (r6 : List ByteArray) (r7 : Int) (w : World) (hr0 : Kd.C (Kd.int .u8) w A0 l0.length l0) (hc0 : l0.length ≤ c0) (h : spec_DrawFormEntry.f k l0 = some (r1, r2, r3, r4, r5, r6, r7)) :
  Calls Try.prog 52 #[.slice A0 l0.length c0] w fun e w' => ∃ v5_ : Value, e = .returned (.tuple #[.agg #[.int .i64 r1, .string r2, .string r3, .int .i64 r4, .string r5, v5_], .int .i64 r7]) ∧ Kd.R Kd.string 9 w' w.heap.size (fun _ => True) v5_ r6 ∧ Below w.heap.size w w' := by
 have hu63 := Try.underlying63
 have HR0 := Aside0.mk hr0
 have HC0 := Aside0.mk hc0
 clear hr0 hc0
 have HB := am__ (Below.refl w.heap.size w)
 have H : ((spec_l1Open.f l0).bind fun bt1085 => ((spec_l1DrawWidth.f k bt1085.1 bt1085.2).bind fun bt1088 => ((spec_l3Draw.f k bt1085.1 bt1088.2 bt1088.1).bind fun bt1090 => ((spec_l1Rd_pick.f k bt1085.1 bt1090.2.2.2.2.2.2 3).bind fun bt1100 => (if bt1100.1 = 0 then ((spec_l3Spoil.f k bt1085.1 bt1100.2 bt1090.1 bt1090.2.1 bt1090.2.2.1 bt1090.2.2.2.1 bt1090.2.2.2.2.1 bt1090.2.2.2.2.2.1).bind fun bt1102 => (spec_DrawFormEntry.j0 k bt1088.1 bt1085.1 bt1102.2.2.2.2.2.2 bt1102.1 bt1102.2.1 bt1102.2.2.1 bt1102.2.2.2.1 bt1102.2.2.2.2.1 bt1102.2.2.2.2.2.1)) else (spec_DrawFormEntry.j0 k bt1088.1 bt1085.1 bt1100.2 bt1090.1 bt1090.2.1 bt1090.2.2.1 bt1090.2.2.2.1 bt1090.2.2.2.2.1 bt1090.2.2.2.2.2.1)))))) = some (r1, r2, r3, r4, r5, r6, r7) := h
 clear h
 replace H := Option.bind_eq_some_iff.mp H
 obtain ⟨⟨t1085, t1086⟩, A20, H⟩ := H
 replace H : ((spec_l1DrawWidth.f k t1085 t1086).bind fun bt1088 => ((spec_l3Draw.f k t1085 bt1088.2 bt1088.1).bind fun bt1090 => ((spec_l1Rd_pick.f k t1085 bt1090.2.2.2.2.2.2 3).bind fun bt1100 => (if bt1100.1 = 0 then ((spec_l3Spoil.f k t1085 bt1100.2 bt1090.1 bt1090.2.1 bt1090.2.2.1 bt1090.2.2.2.1 bt1090.2.2.2.2.1 bt1090.2.2.2.2.2.1).bind fun bt1102 => (spec_DrawFormEntry.j0 k bt1088.1 t1085 bt1102.2.2.2.2.2.2 bt1102.1 bt1102.2.1 bt1102.2.2.1 bt1102.2.2.2.1 bt1102.2.2.2.2.1 bt1102.2.2.2.2.2.1)) else (spec_DrawFormEntry.j0 k bt1088.1 t1085 bt1100.2 bt1090.1 bt1090.2.1 bt1090.2.2.1 bt1090.2.2.2.1 bt1090.2.2.2.2.1 bt1090.2.2.2.2.2.1))))) = some (r1, r2, r3, r4, r5, r6, r7) := H
 have A2 := Aside0.mk A20
 clear A20
 replace H := Option.bind_eq_some_iff.mp H
 obtain ⟨⟨t1088, t1089⟩, A30, H⟩ := H
 replace H : ((spec_l3Draw.f k t1085 t1089 t1088).bind fun bt1090 => ((spec_l1Rd_pick.f k t1085 bt1090.2.2.2.2.2.2 3).bind fun bt1100 => (if bt1100.1 = 0 then ((spec_l3Spoil.f k t1085 bt1100.2 bt1090.1 bt1090.2.1 bt1090.2.2.1 bt1090.2.2.2.1 bt1090.2.2.2.2.1 bt1090.2.2.2.2.2.1).bind fun bt1102 => (spec_DrawFormEntry.j0 k t1088 t1085 bt1102.2.2.2.2.2.2 bt1102.1 bt1102.2.1 bt1102.2.2.1 bt1102.2.2.2.1 bt1102.2.2.2.2.1 bt1102.2.2.2.2.2.1)) else (spec_DrawFormEntry.j0 k t1088 t1085 bt1100.2 bt1090.1 bt1090.2.1 bt1090.2.2.1 bt1090.2.2.2.1 bt1090.2.2.2.2.1 bt1090.2.2.2.2.2.1)))) = some (r1, r2, r3, r4, r5, r6, r7) := H
 have A3 := Aside0.mk A30
 clear A30
 replace H := Option.bind_eq_some_iff.mp H
 obtain ⟨⟨t1090, t1091, t1092, t1093, t1094, t1095, t1098⟩, A40, H⟩ := H
 replace H : ((spec_l1Rd_pick.f k t1085 t1098 3).bind fun bt1100 => (if bt1100.1 = 0 then ((spec_l3Spoil.f k t1085 bt1100.2 t1090 t1091 t1092 t1093 t1094 t1095).bind fun bt1102 => (spec_DrawFormEntry.j0 k t1088 t1085 bt1102.2.2.2.2.2.2 bt1102.1 bt1102.2.1 bt1102.2.2.1 bt1102.2.2.2.1 bt1102.2.2.2.2.1 bt1102.2.2.2.2.2.1)) else (spec_DrawFormEntry.j0 k t1088 t1085 bt1100.2 t1090 t1091 t1092 t1093 t1094 t1095))) = some (r1, r2, r3, r4, r5, r6, r7) := H
 have A4 := Aside0.mk A40
 clear A40
 replace H := Option.bind_eq_some_iff.mp H
 obtain ⟨⟨t1100, t1101⟩, A50, H⟩ := H
 replace H : (if t1100 = 0 then ((spec_l3Spoil.f k t1085 t1101 t1090 t1091 t1092 t1093 t1094 t1095).bind fun bt1102 => (spec_DrawFormEntry.j0 k t1088 t1085 bt1102.2.2.2.2.2.2 bt1102.1 bt1102.2.1 bt1102.2.2.1 bt1102.2.2.2.1 bt1102.2.2.2.2.1 bt1102.2.2.2.2.2.1)) else (spec_DrawFormEntry.j0 k t1088 t1085 t1101 t1090 t1091 t1092 t1093 t1094 t1095)) = some (r1, r2, r3, r4, r5, r6, r7) := H
 have A5 := Aside0.mk A50
 clear A50
 have HC6 := Aside0.mk H
 clear H
 go_enter Try.func52, Try.ntmps52
 go_upto_if 16 with (first | ((with_reducible refine gate_dst (N := 2) rfl ?_); refine be__ 2 #[.int .i64 0, .string (⟨#[]⟩ : ByteArray), .string (⟨#[]⟩ : ByteArray), .int .i64 0, .string (⟨#[]⟩ : ByteArray), .slice none 0 0] 63 ?_; intro gb1084 hg w7 hbox hb; have BK1084 := am__ (hbox); have GW1084 := am__ ((bsz__ hg bel__ : w.heap.size ≤ gb1084)); have GE1084 := am__ ((bsz__ hg bel__ : w.heap.size ≤ gb1084)); replace HB := am__ (below_step (bel__) hb); clear hb hbox hg) | ((with_reducible refine gate_callee (f := 69) rfl ?_); refine gl__ (some 8) Try.func69 #[.slice A0 l0.length c0] ?_; (with_reducible refine (spec_l1Open.calls _ _ l0 t1085 t1086 w _ bel__ HR0.out HC0.out A2.out).mono ?_); rintro e w8 ⟨g1087, rfl, hi, hb, hb2⟩; refine ⟨_, rfl, ?_⟩; replace HB := am__ (hb); have HI1087 := am__ (hi); have NB1087_1084 := am__ (IsS104.ne_blk hi (blb__ BK1084.out hb2) (by decide)); have NB1084_1087 := am__ (Ne.symm (IsS104.ne_blk hi (blb__ BK1084.out hb2) (by decide))); replace BK1084 := am__ (blb__ BK1084.out hb2); clear hi hb hb2) | ((with_reducible refine gate_callee (f := 78) rfl ?_); refine gl__ (some 10) Try.func78 #[.pointer (some ⟨g1087, 0, none⟩)] ?_; (with_reducible refine (spec_l1DrawWidth.calls k g1087 t1085 t1086 t1088 t1089 w _ hhi1087__iss104 b1087_l__ A3.out).mono ?_); rintro e w9 ⟨rfl, hi, hb, hk⟩; refine ⟨_, rfl, ?_⟩; replace BK1084 := am__ (kbl__ hk BK1084.out NB1084_1087.out); replace HB := am__ (hb); replace HI1087 := am__ (hi); clear hi hb hk) | ((with_reducible refine gate_callee (f := 81) rfl ?_); refine gl__ (some 13) Try.func81 #[.pointer (some ⟨g1087, 0, none⟩), .int .i64 t1088] ?_; (with_reducible refine (spec_l3Draw.calls k g1087 t1085 t1089 t1088 t1090 t1091 t1092 t1093 t1094 t1095 t1098 w _ hhi1087__iss104 b1087_l__ A4.out).mono ?_); rintro e w10 ⟨v1096, rfl, ho0, hi, hb, hk⟩; refine ⟨_, rfl, ?_⟩; replace BK1084 := am__ (kbl__ hk BK1084.out NB1084_1087.out); have HO1097 := am__ (Kd.R_lower ho0 (below_size (b1087_l__))); replace HB := am__ (hb); replace HI1087 := am__ (hi); clear hi hb hk; (try clear ho0)) | ((with_reducible refine gate_dst (N := 6) rfl ?_); refine be__ 6 #[.int .i64 0, .string (⟨#[]⟩ : ByteArray), .string (⟨#[]⟩ : ByteArray), .int .i64 0, .string (⟨#[]⟩ : ByteArray), .slice none 0 0] 63 ?_; intro gb1099 hg w11 hbox hb; replace HO1097 := am__ (Kd.R_below (rr__ HO1097.out) hb); have BK1099 := am__ (hbox); have GW1099 := am__ ((bsz__ hg b1087_l__ : w.heap.size ≤ gb1099)); have GE1099 := am__ ((bsz__ hg b1087_l__ : w.heap.size ≤ gb1099)); replace HB := am__ (below_step (b1087_l__) hb); have NB1084_1099 := am__ ((nlt__ hg (blk_lt (g := gb1084) (o := .cells #[.int .i64 0, .string (⟨#[]⟩ : ByteArray), .string (⟨#[]⟩ : ByteArray), .int .i64 0, .string (⟨#[]⟩ : ByteArray), .slice none 0 0] 63 (0, 0)) (blk__ BK1084.out)) : gb1084 ≠ gb1099)); have NB1099_1084 := am__ ((ngt__ hg (blk_lt (g := gb1084) (o := .cells #[.int .i64 0, .string (⟨#[]⟩ : ByteArray), .string (⟨#[]⟩ : ByteArray), .int .i64 0, .string (⟨#[]⟩ : ByteArray), .slice none 0 0] 63 (0, 0)) (blk__ BK1084.out)) : gb1099 ≠ gb1084)); replace BK1084 := am__ (blb__ BK1084.out hb); have NB1087_1099 := am__ ((nlt__ hg (IsS104.lt (show IsS104 w _ g1087 t1085 t1098 from hhi1087__iss104)) : g1087 ≠ gb1099)); have NB1099_1087 := am__ ((ngt__ hg (IsS104.lt (show IsS104 w _ g1087 t1085 t1098 from hhi1087__iss104)) : gb1099 ≠ g1087)); replace HI1087 := am__ (IsS104.below (hhi1087__iss104) hb); clear hb hbox hg; have hnb12 := NB1099_1084.out; have hnc12 := NB1084_1099.out; have hnb13 := NB1099_1087.out; have hnc13 := NB1087_1099.out; obtain ⟨hcz14_0, hcz14_1, hcz14_2, hcz14_3, hcz14_4, hcz14_5, hfz14_0, hfz14_1, hfz14_2, hfz14_3, hfz14_4, hfz14_5⟩ := bk6__ BK1099.out; obtain ⟨Ao15, co15, eo15⟩ := Kd.R_slice HO1097.out; subst eo15) | ((with_reducible refine gate_callee (f := 71) rfl ?_); refine gl__ (some 15) Try.func71 #[.pointer (some ⟨g1087, 0, none⟩), .int .i64 3] ?_; (with_reducible refine (spec_l1Rd_pick.calls k g1087 t1085 t1098 3 t1100 t1101 w _ hhi1087__iss104 b1087_l__ A5.out).mono ?_); rintro e w16 ⟨rfl, hi, hb, hk⟩; refine ⟨_, rfl, ?_⟩; replace BK1084 := am__ (KeepBut.blk hk (g' := gb1084) (o := .cells #[.int .i64 0, .string (⟨#[]⟩ : ByteArray), .string (⟨#[]⟩ : ByteArray), .int .i64 0, .string (⟨#[]⟩ : ByteArray), .slice none 0 0] 63 (0, 0)) (blf6__ BK1084.out) NB1084_1087.out (by simp)); replace HO1097 := am__ (Kd.R_mono (Kd.R_keep (IsS104.apart (show IsS104 w _ g1087 t1085 t1098 from hhi1087__iss104) (by refine rps__ ?_; exact (Kd.R_mono (Kd.R_far (p := ⟨gb1099, 5, none⟩) (Kd.R_far (p := ⟨gb1099, 4, none⟩) (Kd.R_far (p := ⟨gb1099, 3, none⟩) (Kd.R_far (p := ⟨gb1099, 2, none⟩) (Kd.R_far (p := ⟨gb1099, 1, none⟩) (Kd.R_far (p := ⟨gb1099, 0, none⟩) (Kd.R_types HO1097.out BK1099.out (by decide)) h2__ (.int .i64 t1090)) h2__ (.string t1091)) h2__ (.string t1092)) h2__ (.int .i64 t1093)) h2__ (.string t1094)) h2__ (.slice Ao15 t1095.length co15)) h1__)) (by decide)) hk h2__) h1__); replace BK1099 := am__ (KeepBut.blk hk (g' := gb1099) (o := .cells #[.int .i64 t1090, .string t1091, .string t1092, .int .i64 t1093, .string t1094, .slice Ao15 t1095.length co15] 63 (0, 0)) (bpu__ BK1099.out) NB1099_1087.out (by simp)); replace HB := am__ (hb); replace HI1087 := am__ (hi); clear hi hb hk))
 (try simp only [Act.put, List.setIfInBounds_toArray, List.set_cons_zero, List.set_cons_succ])
 go_cut [] (fun wc => ∃ (kq : Nat) (x1088001_5 : Int) (x1100000_5 : Int) (x1100001_5 : ByteArray) (x1100002_5 : ByteArray) (x1100003_5 : Int) (x1100004_5 : ByteArray) (x1100005_5 : List ByteArray) (u1100005 : Value), Aside0 (spec_DrawFormEntry.j0 kq t1088 t1085 x1088001_5 x1100000_5 x1100001_5 x1100002_5 x1100003_5 x1100004_5 x1100005_5 = some (r1, r2, r3, r4, r5, r6, r7)) ∧ Aside0 (kq ≤ k) ∧ Aside0 (Kd.R Kd.string 9 wc w.heap.size (fun _ => True) u1100005 x1100005_5) ∧ Aside0 (wc.heap[gb1084]? = some (.cells #[.int .i64 0, .string (⟨#[]⟩ : ByteArray), .string (⟨#[]⟩ : ByteArray), .int .i64 0, .string (⟨#[]⟩ : ByteArray), (.slice none 0 0)] 63 (0, 0))) ∧ Aside0 (wc.heap[gb1099]? = some (.cells #[.int .i64 x1100000_5, .string x1100001_5, .string x1100002_5, .int .i64 x1100003_5, .string x1100004_5, u1100005] 63 (0, 0))) ∧ Aside0 (IsS104 w wc g1087 t1085 x1088001_5) ∧ Aside0 (Below w.heap.size w wc))
 case first =>
  have H := HC6.out
  clear HC6
  by_cases c17 : t1100 = 0
  ·rw [if_pos c17] at H
   have c17b0 : (t1100 == 0) = true := beq_iff_eq.mpr c17
   have c17b1 : (t1100 != 0) = false := bne_eq_false_iff_eq.mpr c17
   clear c17
   (first | rw [c17b0] | (simp only [i64_w, i32_w]; rw [c17b0]) | skip)
   replace H := Option.bind_eq_some_iff.mp H
   obtain ⟨⟨t1102, t1103, t1104, t1105, t1106, t1107, t1110⟩, A180, H⟩ := H
   replace H : (spec_DrawFormEntry.j0 k t1088 t1085 t1110 t1102 t1103 t1104 t1105 t1106 t1107) = some (r1, r2, r3, r4, r5, r6, r7) := H
   have A18 := Aside0.mk A180
   clear A180
   have H' := Aside0.mk H
   clear H
   have hnb19 := NB1099_1084.out
   have hnc19 := NB1084_1099.out
   have hnb20 := NB1099_1087.out
   have hnc20 := NB1087_1099.out
   have hcz21_0 : w16.cell? ⟨gb1099, 0, none⟩ = some (.int .i64 t1090) := (blk_cell BK1099.out 0).trans rfl
   have hcz21_1 : w16.cell? ⟨gb1099, 1, none⟩ = some (.string t1091) := (blk_cell BK1099.out 1).trans rfl
   have hcz21_2 : w16.cell? ⟨gb1099, 2, none⟩ = some (.string t1092) := (blk_cell BK1099.out 2).trans rfl
   have hcz21_3 : w16.cell? ⟨gb1099, 3, none⟩ = some (.int .i64 t1093) := (blk_cell BK1099.out 3).trans rfl
   have hcz21_4 : w16.cell? ⟨gb1099, 4, none⟩ = some (.string t1094) := (blk_cell BK1099.out 4).trans rfl
   have hcz21_5 : w16.cell? ⟨gb1099, 5, none⟩ = some (.slice Ao15 t1095.length co15) := (blk_cell BK1099.out 5).trans rfl
   have hfz21_0 := blk_frozen BK1099.out 0
   have hfz21_1 := blk_frozen BK1099.out 1
   have hfz21_2 := blk_frozen BK1099.out 2
   have hfz21_3 := blk_frozen BK1099.out 3
   have hfz21_4 := blk_frozen BK1099.out 4
   have hfz21_5 := blk_frozen BK1099.out 5
   go_wp2_with (first | ((with_reducible refine gate_callee (f := 82) rfl ?_); refine gl__ (some 19) Try.func82 #[.pointer (some ⟨g1087, 0, none⟩), .agg #[.int .i64 t1090, .string t1091, .string t1092, .int .i64 t1093, .string t1094, .slice Ao15 t1095.length co15]] ?_; (with_reducible refine (spec_l3Spoil.calls k g1087 t1085 t1101 t1090 t1091 t1092 t1093 t1094 (fun k_ => some k_ = (ob__ Ao15 t1095.length co15)) (.slice Ao15 t1095.length co15) t1095 t1102 t1103 t1104 t1105 t1106 t1107 t1110 w _ hhi1087__iss104 b1087_l__ ?side3 A18.out).mono ?_); (case side3 => exact Kd.R_tight rfl HO1097.out); rintro e w22 ⟨v1108, rfl, ho0, hi, hb, hkp⟩; refine ⟨_, rfl, ?_⟩; have n0_ := am__ (blk_kept (blk__ BK1084.out) hkp (fun hs_ => Or.elim hs_ (fun hs_ => (fun e_ => (Kd.R_ne HO1097.out BK1084.out (by decide)) e_) hs_) (fun e_ => NB1084_1087.out e_))); have n1_ := am__ (hi); have n2_ := am__ (blk_kept (blk__ BK1099.out) hkp (fun hs_ => Or.elim hs_ (fun hs_ => (fun e_ => (Kd.R_ne HO1097.out BK1099.out (by decide)) e_) hs_) (fun e_ => NB1099_1087.out e_))); have n3_ := am__ (Kd.R_mono (ok' := fun k_ => True) ho0 (fun k_ hk_ => trivial)); have n4_ := am__ (hb); clear BK1084; clear HI1087; clear BK1099; clear HB; clear HO1097; have BK1084 := n0_; have HI1087 := n1_; have BK1099 := n2_; have HO1109 := n3_; have HB := n4_; clear n0_ n1_ n2_ n3_ n4_; (try clear hb); (try clear hkp); (try clear ho0); obtain ⟨hcz23_0, hcz23_1, hcz23_2, hcz23_3, hcz23_4, hcz23_5, hfz23_0, hfz23_1, hfz23_2, hfz23_3, hfz23_4, hfz23_5⟩ := bk6__ BK1099.out; obtain ⟨Ao24, co24, eo24⟩ := Kd.R_slice HO1109.out; subst eo24))
   go_meet
   case rel => exact ⟨_, (t1110), (t1102), (t1103), (t1104), (t1105), (t1106), (t1107), (.slice Ao24 t1107.length co24), H', ⟨by first | omega | exact Nat.le_refl _⟩, ⟨by refine rps__ ?_; exact Kd.R_mono (Kd.R_far (p := ⟨gb1099, 5, none⟩) (Kd.R_far (p := ⟨gb1099, 4, none⟩) (Kd.R_far (p := ⟨gb1099, 3, none⟩) (Kd.R_far (p := ⟨gb1099, 2, none⟩) (Kd.R_far (p := ⟨gb1099, 1, none⟩) (Kd.R_far (p := ⟨gb1099, 0, none⟩) (Kd.R_types HO1109.out BK1099.out (by decide)) h2__ (.int .i64 t1102)) h2__ (.string t1103)) h2__ (.string t1104)) h2__ (.int .i64 t1105)) h2__ (.string t1106)) h2__ (.slice Ao24 t1107.length co24)) (fun _ hk => trivial)⟩, ⟨blf6__ BK1084.out⟩, ⟨bpu__ BK1099.out⟩, ⟨hhi1087__iss104⟩, ⟨b1087_l__⟩⟩
  ·rw [if_neg c17] at H
   have c17b0 : (t1100 == 0) = false := beq_eq_false_iff_ne.mpr c17
   have c17b1 : (t1100 != 0) = true := bne_iff_ne.mpr c17
   (first | rw [c17b0] | (simp only [i64_w, i32_w]; rw [c17b0]) | skip)
   have H' := Aside0.mk H
   clear H
   go_wp2
   go_meet
   case rel => exact ⟨_, (t1101), (t1090), (t1091), (t1092), (t1093), (t1094), (t1095), (.slice Ao15 t1095.length co15), H', ⟨by first | omega | exact Nat.le_refl _⟩, ⟨rr__ HO1097.out⟩, ⟨blk__ BK1084.out⟩, ⟨blk__ BK1099.out⟩, ⟨hhi1087__iss104⟩, ⟨b1087_l__⟩⟩
 case rest =>
  clear HC6
  try clear c1
  try clear c2
  try clear p2
  try clear c5
  try clear c6
  try clear c7
  try clear c8
  try clear c12
  try clear c13
  try clear c17
  try clear c17b0
  try clear c17b1
  try clear c19
  try clear c20
  try clear hcz14_0 hcz14_1 hcz14_2 hcz14_3 hcz14_4 hcz14_5 hfz14_0 hfz14_1 hfz14_2 hfz14_3 hfz14_4 hfz14_5
  try clear hcz21_0 hcz21_1 hcz21_2 hcz21_3 hcz21_4 hcz21_5 hfz21_0 hfz21_1 hfz21_2 hfz21_3 hfz21_4 hfz21_5
  try clear hcz23_0 hcz23_1 hcz23_2 hcz23_3 hcz23_4 hcz23_5 hfz23_0 hfz23_1 hfz23_2 hfz23_3 hfz23_4 hfz23_5
  obtain ⟨kq, x1088001_5, x1100000_5, x1100001_5, x1100002_5, x1100003_5, x1100004_5, x1100005_5, u1100005, HA, HJ5, HO_1100005, BK1084, BK1099, HI1087, HB⟩ := hcut
  cases kq with
  | zero => exact absurd HA.out (by simp [spec_DrawFormEntry.j0])
  | succ kj5 =>
   have H := HA.out
   clear HA
   simp only [spec_DrawFormEntry.j0] at H
   replace H := Option.bind_eq_some_iff.mp H
   obtain ⟨⟨t1111, t1112⟩, A250, H⟩ := H
   replace H : (if t1111 = 0 then ((spec_l1Rd_pick.f kj5 t1085 t1112 10).bind fun bt1113 => (some (x1100000_5, x1100001_5, x1100002_5, x1100003_5, x1100004_5, x1100005_5, bt1113.1))) else (some (x1100000_5, x1100001_5, x1100002_5, x1100003_5, x1100004_5, x1100005_5, t1088))) = some (r1, r2, r3, r4, r5, r6, r7) := H
   have A25 := Aside0.mk A250
   clear A250
   by_cases c26 : t1111 = 0
   ·rw [if_pos c26] at H
    have c26b0 : (t1111 == 0) = true := beq_iff_eq.mpr c26
    have c26b1 : (t1111 != 0) = false := bne_eq_false_iff_eq.mpr c26
    clear c26
    replace H := Option.bind_eq_some_iff.mp H
    obtain ⟨⟨t1113, t1114⟩, A270, H⟩ := H
    replace H : (some (x1100000_5, x1100001_5, x1100002_5, x1100003_5, x1100004_5, x1100005_5, t1113)) = some (r1, r2, r3, r4, r5, r6, r7) := H
    have A27 := Aside0.mk A270
    clear A270
    simp only [Option.some.injEq, Prod.mk.injEq] at H
    obtain ⟨rfl, rfl, rfl, rfl, rfl, rfl, rfl⟩ := H
    go_wp2_with (first | ((with_reducible refine gate_callee (f := 71) rfl ?_); refine gl__ (some 21) Try.func71 #[.pointer (some ⟨g1087, 0, none⟩), .int .i64 16] ?_; (with_reducible refine (spec_l1Rd_pick.calls kj5 g1087 t1085 x1088001_5 16 t1111 t1112 w _ hhi1087__iss104 b1087_l__ A25.out).mono ?_); rintro e w28 ⟨rfl, hi, hb, hk⟩; refine ⟨_, rfl, ?_⟩; replace HO_1100005 := am__ (Kd.R_mono (Kd.R_keep (IsS104.apart (show IsS104 w _ g1087 t1085 x1088001_5 from hhi1087__iss104) (rr__ HO_1100005.out) (by decide)) hk h2__) h1__); replace BK1084 := am__ (kbl__ hk BK1084.out NB1084_1087.out); replace BK1099 := am__ (kbl__ hk BK1099.out NB1099_1087.out); replace HB := am__ (hb); replace HI1087 := am__ (hi); clear hi hb hk) | ((with_reducible refine gate_callee (f := 71) rfl ?_); refine gl__ (some 24) Try.func71 #[.pointer (some ⟨g1087, 0, none⟩), .int .i64 10] ?_; (with_reducible refine (spec_l1Rd_pick.calls kj5 g1087 t1085 t1112 10 t1113 t1114 w _ hhi1087__iss104 b1087_l__ A27.out).mono ?_); rintro e w29 ⟨rfl, hi, hb, hk⟩; refine ⟨_, rfl, ?_⟩; replace HO_1100005 := am__ (Kd.R_mono (Kd.R_keep (IsS104.apart (show IsS104 w _ g1087 t1085 t1112 from hhi1087__iss104) (rr__ HO_1100005.out) (by decide)) hk h2__) h1__); replace BK1084 := am__ (kbl__ hk BK1084.out NB1084_1087.out); replace BK1099 := am__ (kbl__ hk BK1099.out NB1099_1087.out); replace HB := am__ (hb); replace HI1087 := am__ (hi); clear hi hb hk; have hnb30 := NB1099_1084.out; have hnc30 := NB1084_1099.out; have hnb31 := NB1099_1087.out; have hnc31 := NB1087_1099.out; obtain ⟨hcz32_0, hcz32_1, hcz32_2, hcz32_3, hcz32_4, hcz32_5, hfz32_0, hfz32_1, hfz32_2, hfz32_3, hfz32_4, hfz32_5⟩ := bk6__ BK1099.out; have hnb33 := NB1084_1087.out; have hnc33 := NB1087_1084.out; obtain ⟨hcz34_0, hcz34_1, hcz34_2, hcz34_3, hcz34_4, hcz34_5, hfz34_0, hfz34_1, hfz34_2, hfz34_3, hfz34_4, hfz34_5⟩ := bk6__ BK1084.out; obtain ⟨Ao35, co35, eo35⟩ := Kd.R_slice HO_1100005.out; subst eo35))
    refine bodyPost_ret (results_ct rfl _ _ gb1084 63 #[.int .i64 x1100000_5, .string x1100001_5, .string x1100002_5, .int .i64 x1100003_5, .string x1100004_5, .slice Ao35 x1100005_5.length co35] (0, 0) _ rfl (bpu__ BK1084.out) Try.underlying63 rfl (by kernel_rfl)) rfl ?_
    exact ⟨_, by first | rfl | (simp [errW_none, errW_some] <;> rfl) | (simp [*, errW_none, errW_some] <;> rfl), by refine rps__ ?_; exact Kd.R_mono (Kd.R_far (p := ⟨gb1084, 5, none⟩) (Kd.R_far (p := ⟨gb1084, 4, none⟩) (Kd.R_far (p := ⟨gb1084, 3, none⟩) (Kd.R_far (p := ⟨gb1084, 2, none⟩) (Kd.R_far (p := ⟨gb1084, 1, none⟩) (Kd.R_far (p := ⟨gb1084, 0, none⟩) (Kd.R_types HO_1100005.out BK1084.out (by decide)) h2__ (.int .i64 x1100000_5)) h2__ (.string x1100001_5)) h2__ (.string x1100002_5)) h2__ (.int .i64 x1100003_5)) h2__ (.string x1100004_5)) h2__ (.slice Ao35 x1100005_5.length co35)) (fun _ hk => trivial), by repeat (first | (with_reducible first | exact HB.out | apply below_alloc | apply pw_below_drewN | apply below_drew1 | refine below_set ?_ (IsS104.ge HI1087.out) | refine below_set ?_ GE1084.out | refine below_set ?_ GE1099.out) | exact HB.out)⟩
   ·rw [if_neg c26] at H
    have c26b0 : (t1111 == 0) = false := beq_eq_false_iff_ne.mpr c26
    have c26b1 : (t1111 != 0) = true := bne_iff_ne.mpr c26
    simp only [Option.some.injEq, Prod.mk.injEq] at H
    obtain ⟨rfl, rfl, rfl, rfl, rfl, rfl, rfl⟩ := H
    go_wp2_with (first | ((with_reducible refine gate_callee (f := 71) rfl ?_); refine gl__ (some 21) Try.func71 #[.pointer (some ⟨g1087, 0, none⟩), .int .i64 16] ?_; (with_reducible refine (spec_l1Rd_pick.calls kj5 g1087 t1085 x1088001_5 16 t1111 t1112 w _ hhi1087__iss104 b1087_l__ A25.out).mono ?_); rintro e w36 ⟨rfl, hi, hb, hk⟩; refine ⟨_, rfl, ?_⟩; replace HO_1100005 := am__ (Kd.R_mono (Kd.R_keep (IsS104.apart (show IsS104 w _ g1087 t1085 x1088001_5 from hhi1087__iss104) (rr__ HO_1100005.out) (by decide)) hk h2__) h1__); replace BK1084 := am__ (kbl__ hk BK1084.out NB1084_1087.out); replace BK1099 := am__ (kbl__ hk BK1099.out NB1099_1087.out); replace HB := am__ (hb); replace HI1087 := am__ (hi); clear hi hb hk; have hnb37 := NB1099_1084.out; have hnc37 := NB1084_1099.out; have hnb38 := NB1099_1087.out; have hnc38 := NB1087_1099.out; obtain ⟨hcz39_0, hcz39_1, hcz39_2, hcz39_3, hcz39_4, hcz39_5, hfz39_0, hfz39_1, hfz39_2, hfz39_3, hfz39_4, hfz39_5⟩ := bk6__ BK1099.out; have hnb40 := NB1084_1087.out; have hnc40 := NB1087_1084.out; obtain ⟨hcz41_0, hcz41_1, hcz41_2, hcz41_3, hcz41_4, hcz41_5, hfz41_0, hfz41_1, hfz41_2, hfz41_3, hfz41_4, hfz41_5⟩ := bk6__ BK1084.out; obtain ⟨Ao42, co42, eo42⟩ := Kd.R_slice HO_1100005.out; subst eo42))
    refine bodyPost_ret (results_ct rfl _ _ gb1084 63 #[.int .i64 x1100000_5, .string x1100001_5, .string x1100002_5, .int .i64 x1100003_5, .string x1100004_5, .slice Ao42 x1100005_5.length co42] (0, 0) _ rfl (bpu__ BK1084.out) Try.underlying63 rfl (by kernel_rfl)) rfl ?_
    exact ⟨_, by first | rfl | (simp [errW_none, errW_some] <;> rfl) | (simp [*, errW_none, errW_some] <;> rfl), by refine rps__ ?_; exact Kd.R_mono (Kd.R_far (p := ⟨gb1084, 5, none⟩) (Kd.R_far (p := ⟨gb1084, 4, none⟩) (Kd.R_far (p := ⟨gb1084, 3, none⟩) (Kd.R_far (p := ⟨gb1084, 2, none⟩) (Kd.R_far (p := ⟨gb1084, 1, none⟩) (Kd.R_far (p := ⟨gb1084, 0, none⟩) (Kd.R_types HO_1100005.out BK1084.out (by decide)) h2__ (.int .i64 x1100000_5)) h2__ (.string x1100001_5)) h2__ (.string x1100002_5)) h2__ (.int .i64 x1100003_5)) h2__ (.string x1100004_5)) h2__ (.slice Ao42 x1100005_5.length co42)) (fun _ hk => trivial), by repeat (first | (with_reducible first | exact HB.out | apply below_alloc | apply pw_below_drewN | apply below_drew1 | refine below_set ?_ (IsS104.ge HI1087.out) | refine below_set ?_ GE1084.out | refine below_set ?_ GE1099.out) | exact HB.out)⟩
end Go.Proofs.Ytpnblgbkjbpeoaa.P

namespace Go.Proofs.Ytpnblgbkjbpeoaa.P
open Go.RowKit Go.Proofs.YtpnblgbkjbpeoaaW.PrintWords Go.Proofs.YtpnblgbkjbpeoaaW.PrintLast Go.Proofs.YtpnblgbkjbpeoaaW.PrintMore
attribute [local go_sem] max2_int min2_int max_two min_two max_three min_three max_four min_four   -- for this text's walks alone
set_option linter.unusedVariables false
set_option linter.unusedSimpArgs false
/-! ### laws_wList: function 41 -/
def laws_wList.l0 : Nat → List ByteArray → List ByteArray → Int → Option (Bool)
 | 0, _, _, _ => none
 | k + 1, x0, x1, x5 => if x5 < (x0.length : Int) then (if 0 ≤ x5 then (if x5 < (x1.length : Int) then (if (rdOf ByteArray.empty x0 x5).toList = (rdOf ByteArray.empty x1 x5).toList then (laws_wList.l0 k x0 x1 (wrap64 (x5 + 1))) else (some false)) else (none)) else (none)) else (some true)
def laws_wList.f (k : Nat) (l0 : List ByteArray) (l1 : List ByteArray) : Option (Bool) := if (l0.length : Int) = (l1.length : Int) then (laws_wList.l0 k l0 l1 0) else (some false)
set_option maxHeartbeats 8000000 in
set_option maxRecDepth 100000 in
theorem laws_wList.calls (k : Nat) (A0 : Option Addr) (c0 : Nat) (l0 : List ByteArray) (A1 : Option Addr) (c1 : Nat) (l1 : List ByteArray) (r : Bool) (w : World) (hr0 : Kd.C Kd.string w A0 l0.length l0) (hc0 : l0.length ≤ c0) (hr1 : Kd.C Kd.string w A1 l1.length l1) (hc1 : l1.length ≤ c1) (h : laws_wList.f k l0 l1 = some r) :
  Calls Try.prog 41 #[.slice A0 l0.length c0, .slice A1 l1.length c1] w fun e w' => e = .returned (.bool r) ∧ Drawn0 w w' := by
 have HR0 := Aside0.mk hr0
 have HC0 := Aside0.mk hc0
 clear hr0 hc0
 have HR1 := Aside0.mk hr1
 have HC1 := Aside0.mk hc1
 clear hr1 hc1
 have H : (if (l0.length : Int) = (l1.length : Int) then (laws_wList.l0 k l0 l1 0) else (some false)) = some r := h
 clear h
 by_cases c3 : (l0.length : Int) = (l1.length : Int)
 ·rw [if_pos c3] at H
  have c3b0 : ((l0.length : Int) == (l1.length : Int)) = true := beq_iff_eq.mpr c3
  have c3b1 : ((l0.length : Int) != (l1.length : Int)) = false := bne_eq_false_iff_eq.mpr c3
  have c3b2 : (l0.length == l1.length) = true := by first | simpa using c3 | (simp at c3 ⊢; omega)
  clear c3
  have H' := Aside0.mk H
  clear H
  go_enter Try.func41, Try.ntmps41
  go_wp2
  repeat (go_quiet (fail); try go_wp2)
  go_loopg [5] k (fun kq v5 w' => ∃ (x5_1 : Int), v5 = .int .i64 x5_1 ∧ Aside0 (laws_wList.l0 kq l0 l1 x5_1 = some r) ∧ Aside0 (kq ≤ k) ∧ Drawn0 w w')
  case atStart => exact ⟨(0), (rf__), H', ⟨Nat.le_refl _⟩, by repeat (first | exact Drawn0.refl _ | apply Drawn0.step)⟩
  case round =>
   clear H'
   try clear c1
   try clear p2
   try clear c3
   try clear c3b0
   try clear c3b1
   try clear c3b2
   obtain ⟨x5_1, rfl, HA, HK1, ⟨m1, rfl⟩⟩ := hrel
   cases gk with
   | zero => exact absurd HA.out (by simp [laws_wList.l0])
   | succ k1 =>
    have H := HA.out
    clear HA
    simp only [laws_wList.l0] at H
    by_cases c4 : x5_1 < (l0.length : Int)
    ·rw [if_pos c4] at H
     have c4b0 : decide (x5_1 < (l0.length : Int)) = true := decide_eq_true c4
     clear c4
     by_cases c5 : 0 ≤ x5_1
     ·rw [if_pos c5] at H
      have c5b0 : decide (0 ≤ x5_1) = true := decide_eq_true c5
      clear c5
      by_cases c6 : x5_1 < (l1.length : Int)
      ·rw [if_pos c6] at H
       have c6b0 : decide (x5_1 < (l1.length : Int)) = true := decide_eq_true c6
       clear c6
       by_cases c7 : (rdOf ByteArray.empty l0 x5_1).toList = (rdOf ByteArray.empty l1 x5_1).toList
       ·rw [if_pos c7] at H
        have c7b0 : ((rdOf ByteArray.empty l0 x5_1).toList == (rdOf ByteArray.empty l1 x5_1).toList) = true := beq_iff_eq.mpr c7
        have c7b1 : ((rdOf ByteArray.empty l0 x5_1).toList != (rdOf ByteArray.empty l1 x5_1).toList) = false := bne_eq_false_iff_eq.mpr c7
        clear c7
        have H' := Aside0.mk H
        clear H
        have p675 : 0 ≤ (x5_1 : Int) := of_decide_eq_true (by first | (with_reducible assumption) | assumption)
        have q675 : x5_1 < (l0.length : Int) := of_decide_eq_true (by first | (with_reducible assumption) | assumption)
        obtain ⟨ad675, e675, hx675_0⟩ := Kd.at_string HR0.out x5_1 p675 q675
        cases e675
        replace p675 := eq_true p675
        replace q675 := eq_true q675
        have p676 : 0 ≤ (x5_1 : Int) := of_decide_eq_true (by first | (with_reducible assumption) | assumption)
        have q676 : x5_1 < (l1.length : Int) := of_decide_eq_true (by first | (with_reducible assumption) | assumption)
        obtain ⟨ad676, e676, hx676_0⟩ := Kd.at_string HR1.out x5_1 p676 q676
        cases e676
        replace p676 := eq_true p676
        replace q676 := eq_true q676
        go_wp2
        repeat (go_quiet (fail); try go_wp2)
        go_roundg k1
        case measure => have := HK1.out; omega
        case rel => exact ⟨(wrap64 (x5_1 + 1)), (rf__), H', ⟨by have := HK1.out; omega⟩, by repeat (first | exact Drawn0.refl _ | apply Drawn0.step)⟩
       ·rw [if_neg c7] at H
        have c7b0 : ((rdOf ByteArray.empty l0 x5_1).toList == (rdOf ByteArray.empty l1 x5_1).toList) = false := beq_eq_false_iff_ne.mpr c7
        have c7b1 : ((rdOf ByteArray.empty l0 x5_1).toList != (rdOf ByteArray.empty l1 x5_1).toList) = true := bne_iff_ne.mpr c7
        obtain rfl := Option.some.inj H
        have p675 : 0 ≤ (x5_1 : Int) := of_decide_eq_true (by first | (with_reducible assumption) | assumption)
        have q675 : x5_1 < (l0.length : Int) := of_decide_eq_true (by first | (with_reducible assumption) | assumption)
        obtain ⟨ad675, e675, hx675_0⟩ := Kd.at_string HR0.out x5_1 p675 q675
        cases e675
        replace p675 := eq_true p675
        replace q675 := eq_true q675
        have p676 : 0 ≤ (x5_1 : Int) := of_decide_eq_true (by first | (with_reducible assumption) | assumption)
        have q676 : x5_1 < (l1.length : Int) := of_decide_eq_true (by first | (with_reducible assumption) | assumption)
        obtain ⟨ad676, e676, hx676_0⟩ := Kd.at_string HR1.out x5_1 p676 q676
        cases e676
        replace p676 := eq_true p676
        replace q676 := eq_true q676
        go_wp2
        repeat (go_quiet (fail); try go_wp2)
        go_ret
        exact ⟨by first | rfl | (simp; done) | (simp [*]; done), by repeat (first | exact Drawn0.refl _ | apply Drawn0.step)⟩
      ·rw [if_neg c6] at H
       exact absurd H (by simp)
     ·rw [if_neg c5] at H
      exact absurd H (by simp)
    ·rw [if_neg c4] at H
     have c4b0 : decide (x5_1 < (l0.length : Int)) = false := decide_eq_false c4
     clear c4
     obtain rfl := Option.some.inj H
     go_wp2
     repeat (go_quiet (fail); try go_wp2)
     go_ret
     exact ⟨by first | rfl | (simp; done) | (simp [*]; done), by repeat (first | exact Drawn0.refl _ | apply Drawn0.step)⟩
 ·rw [if_neg c3] at H
  have c3b0 : ((l0.length : Int) == (l1.length : Int)) = false := beq_eq_false_iff_ne.mpr c3
  have c3b1 : ((l0.length : Int) != (l1.length : Int)) = true := bne_iff_ne.mpr c3
  have c3b2 : (l0.length == l1.length) = false := by first | simpa using c3 | (simp at c3 ⊢; omega)
  obtain rfl := Option.some.inj H
  go_enter Try.func41, Try.ntmps41
  go_wp2
  repeat (go_quiet (fail); try go_wp2)
  go_ret
  exact ⟨by first | rfl | (simp; done) | (simp [*]; done), by repeat (first | exact Drawn0.refl _ | apply Drawn0.step)⟩
end Go.Proofs.Ytpnblgbkjbpeoaa.P

namespace Go.Proofs.Ytpnblgbkjbpeoaa.P
open Go.RowKit Go.Proofs.YtpnblgbkjbpeoaaW.PrintWords Go.Proofs.YtpnblgbkjbpeoaaW.PrintLast Go.Proofs.YtpnblgbkjbpeoaaW.PrintMore
attribute [local go_sem] max2_int min2_int max_two min_two max_three min_three max_four min_four   -- for this text's walks alone
set_option linter.unusedVariables false
set_option linter.unusedSimpArgs false
/-! ### laws_wThing: function 53 -/
def laws_wThing.f (k : Nat) (a0_0 : ByteArray) (l0_1 : List ByteArray) (a1_0 : ByteArray) (l1_1 : List ByteArray) : Option (Bool) := if a0_0.toList = a1_0.toList then ((laws_wList.f k l0_1 l1_1).bind fun t1117 => (some t1117)) else (some false)
set_option maxHeartbeats 8000000 in
set_option maxRecDepth 100000 in
theorem laws_wThing.calls (k : Nat) (a0_0 : ByteArray) (A0_1 : Option Addr) (c0_1 : Nat) (l0_1 : List ByteArray) (a1_0 : ByteArray) (A1_1 : Option Addr) (c1_1 : Nat) (l1_1 : List ByteArray) (r : Bool) (w : World) (hr0_1 : Kd.C Kd.string w A0_1 l0_1.length l0_1) (hc0_1 : l0_1.length ≤ c0_1) (hr1_1 : Kd.C Kd.string w A1_1 l1_1.length l1_1) (hc1_1 : l1_1.length ≤ c1_1) (h : laws_wThing.f k a0_0 l0_1 a1_0 l1_1 = some r) :
  Calls Try.prog 53 #[.agg #[.string a0_0, .slice A0_1 l0_1.length c0_1], .agg #[.string a1_0, .slice A1_1 l1_1.length c1_1]] w fun e w' => e = .returned (.bool r) ∧ Below w.heap.size w w' := by
 have hu38 := Try.underlying38
 have HR0_1 := Aside0.mk hr0_1
 have HC0_1 := Aside0.mk hc0_1
 clear hr0_1 hc0_1
 have HR1_1 := Aside0.mk hr1_1
 have HC1_1 := Aside0.mk hc1_1
 clear hr1_1 hc1_1
 have HB := am__ (Below.refl w.heap.size w)
 have H : (if a0_0.toList = a1_0.toList then ((laws_wList.f k l0_1 l1_1).bind fun t1117 => (some t1117)) else (some false)) = some r := h
 clear h
 by_cases c3 : a0_0.toList = a1_0.toList
 ·rw [if_pos c3] at H
  have c3b0 : (a0_0.toList == a1_0.toList) = true := beq_iff_eq.mpr c3
  have c3b1 : (a0_0.toList != a1_0.toList) = false := bne_eq_false_iff_eq.mpr c3
  clear c3
  replace H := Option.bind_eq_some_iff.mp H
  obtain ⟨t1117, A40, H⟩ := H
  replace H : (some t1117) = some r := H
  have A4 := Aside0.mk A40
  clear A40
  obtain rfl := Option.some.inj H
  go_enter Try.func53, Try.ntmps53
  go_wp2_with (first | ((with_reducible refine gate_dst (N := 2) rfl ?_); refine be__ 2 #[.string a0_0, .slice A0_1 l0_1.length c0_1] 38 ?_; intro gb1115 hg w5 hbox hb; have BK1115 := am__ (hbox); have GW1115 := am__ ((bsz__ hg bel__ : w.heap.size ≤ gb1115)); have GE1115 := am__ ((bsz__ hg bel__ : w.heap.size ≤ gb1115)); replace HB := am__ (below_step (bel__) hb); clear hb hbox hg) | ((with_reducible refine gate_dst (N := 3) rfl ?_); refine be__ 3 #[.string a1_0, .slice A1_1 l1_1.length c1_1] 38 ?_; intro gb1116 hg w6 hbox hb; have BK1116 := am__ (hbox); have GW1116 := am__ ((bsz__ hg bel__ : w.heap.size ≤ gb1116)); have GE1116 := am__ ((bsz__ hg bel__ : w.heap.size ≤ gb1116)); replace HB := am__ (below_step (bel__) hb); have NB1115_1116 := am__ ((nl__ hg BK1115.out : gb1115 ≠ gb1116)); have NB1116_1115 := am__ ((ng__ hg BK1115.out : gb1116 ≠ gb1115)); replace BK1115 := am__ (blb__ BK1115.out hb); clear hb hbox hg; have hnb7 := NB1115_1116.out; have hnc7 := NB1116_1115.out; obtain ⟨hcz8_0, hcz8_1, hfz8_0, hfz8_1⟩ := bk2__ BK1115.out; obtain ⟨hcz9_0, hcz9_1, hfz9_0, hfz9_1⟩ := bk2__ BK1116.out) | (go_at_call 41; (with_reducible refine (laws_wList.calls k _ _ l0_1 _ _ l1_1 t1117 _ ?side1 HC0_1.out ?side3 HC1_1.out A4.out).mono ?_); (case side1 => repeat (first | exact (Kd.C_below HR0_1.out HB.out) | (with_reducible refine Kd.C_alloc ?_ _) | (with_reducible refine Kd.C_drewN ?_ _) | (with_reducible refine Kd.C_drew ?_))); (case side3 => repeat (first | exact (Kd.C_below HR1_1.out HB.out) | (with_reducible refine Kd.C_alloc ?_ _) | (with_reducible refine Kd.C_drewN ?_ _) | (with_reducible refine Kd.C_drew ?_))); rintro e w' ⟨rfl, ⟨nd, rfl⟩⟩))
  go_ret
  exact ⟨by first | rfl | (simp [errW_none, errW_some] <;> rfl) | (simp [*, errW_none, errW_some] <;> rfl), bel__⟩
 ·rw [if_neg c3] at H
  have c3b0 : (a0_0.toList == a1_0.toList) = false := beq_eq_false_iff_ne.mpr c3
  have c3b1 : (a0_0.toList != a1_0.toList) = true := bne_iff_ne.mpr c3
  obtain rfl := Option.some.inj H
  go_enter Try.func53, Try.ntmps53
  go_wp2_with (first | ((with_reducible refine gate_dst (N := 2) rfl ?_); refine be__ 2 #[.string a0_0, .slice A0_1 l0_1.length c0_1] 38 ?_; intro gb1115 hg w10 hbox hb; have BK1115 := am__ (hbox); have GW1115 := am__ ((bsz__ hg bel__ : w.heap.size ≤ gb1115)); have GE1115 := am__ ((bsz__ hg bel__ : w.heap.size ≤ gb1115)); replace HB := am__ (below_step (bel__) hb); clear hb hbox hg) | ((with_reducible refine gate_dst (N := 3) rfl ?_); refine be__ 3 #[.string a1_0, .slice A1_1 l1_1.length c1_1] 38 ?_; intro gb1116 hg w11 hbox hb; have BK1116 := am__ (hbox); have GW1116 := am__ ((bsz__ hg bel__ : w.heap.size ≤ gb1116)); have GE1116 := am__ ((bsz__ hg bel__ : w.heap.size ≤ gb1116)); replace HB := am__ (below_step (bel__) hb); have NB1115_1116 := am__ ((nl__ hg BK1115.out : gb1115 ≠ gb1116)); have NB1116_1115 := am__ ((ng__ hg BK1115.out : gb1116 ≠ gb1115)); replace BK1115 := am__ (blb__ BK1115.out hb); clear hb hbox hg; have hnb12 := NB1115_1116.out; have hnc12 := NB1116_1115.out; obtain ⟨hcz13_0, hcz13_1, hfz13_0, hfz13_1⟩ := bk2__ BK1115.out; obtain ⟨hcz14_0, hcz14_1, hfz14_0, hfz14_1⟩ := bk2__ BK1116.out))
  go_ret
  exact ⟨by first | rfl | (simp [errW_none, errW_some] <;> rfl) | (simp [*, errW_none, errW_some] <;> rfl), bel__⟩
end Go.Proofs.Ytpnblgbkjbpeoaa.P
