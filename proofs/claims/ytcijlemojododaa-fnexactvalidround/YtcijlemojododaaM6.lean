/- Part 6 of the proof of FnExactValidRound: what it leans on. -/
import Derived.Test.YtcijlemojododaaM1
import Derived.Test.YtcijlemojododaaM2
import Derived.Test.YtcijlemojododaaM3
import Derived.Test.YtcijlemojododaaM4
import Derived.Test.YtcijlemojododaaM5

namespace Go.Proofs.Ytcijlemojododaa.P
open Go.RowKit Go.Proofs.YtcijlemojododaaW.PrintWords Go.Proofs.YtcijlemojododaaW.PrintLast Go.Proofs.YtcijlemojododaaW.PrintMore
attribute [local go_sem] max2_int min2_int max_two min_two max_three min_three max_four min_four   -- for this text's walks alone
set_option linter.unusedVariables false
set_option linter.unusedSimpArgs false
/-! ### spec_ValidState: function 11 -/
mutual
def spec_ValidState.j0 : Nat → Bool → Int → Int → Int → Int → List (S91) → List (S82) → List (S85) → Option (Bool)
 | 0, _, _, _, _, _, _, _, _ => none
 | k + 1, x27, x175000, x175001, x175002, x175003, x175004, x175005, x175006 => if x27 = true then (some false) else (if (x175004.length : Int) > 600 then (spec_ValidState.j1 k true x175000 x175001 x175002 x175003 x175004 x175005 x175006) else (if (x175005.length : Int) > 100 then (spec_ValidState.j1 k true x175000 x175001 x175002 x175003 x175004 x175005 x175006) else (if (x175006.length : Int) > 200 then (spec_ValidState.j1 k true x175000 x175001 x175002 x175003 x175004 x175005 x175006) else ((spec_l4ThingsOk.f k x175000 x175001 x175002 x175003 x175004 x175005 x175006).bind fun t179 => (spec_ValidState.j1 k (!t179) x175000 x175001 x175002 x175003 x175004 x175005 x175006)))))
def spec_ValidState.j1 : Nat → Bool → Int → Int → Int → Int → List (S91) → List (S82) → List (S85) → Option (Bool)
 | 0, _, _, _, _, _, _, _, _ => none
 | k + 1, x48, x175000, x175001, x175002, x175003, x175004, x175005, x175006 => if x48 = true then (some false) else (spec_ValidState.l0 k 0 x175000 x175001 x175002 x175003 x175004 x175005 x175006)
def spec_ValidState.l0 : Nat → Int → Int → Int → Int → Int → List (S91) → List (S82) → List (S85) → Option (Bool)
 | 0, _, _, _, _, _, _, _, _ => none
 | k + 1, x3, x175000, x175001, x175002, x175003, x175004, x175005, x175006 => if x3 < (x175005.length : Int) then (if 0 ≤ x3 then ((spec_l3NameOk.f k ((rd_T82 x175005 x3).f0)).bind fun t181 => (if t181 = true then (if x3 > 0 then (if 0 ≤ (wrap64 (x3 - 1)) then (if (wrap64 (x3 - 1)) < (x175005.length : Int) then (if ((Op.bytesLess (((rd_T82 x175005 (wrap64 (x3 - 1))).f0).toList) (((rd_T82 x175005 x3).f0).toList)) = true) then ((spec_l4Find.f k x175000 x175001 x175002 x175003 x175004 x175005 x175006 ((rd_T82 x175005 x3).f1)).bind fun t185 => (spec_ValidState.j3 k x3 (decide (t185 < 0)) x175000 x175001 x175002 x175003 x175004 x175005 x175006)) else (spec_ValidState.j3 k x3 true x175000 x175001 x175002 x175003 x175004 x175005 x175006)) else (none)) else (none)) else ((spec_l4Find.f k x175000 x175001 x175002 x175003 x175004 x175005 x175006 ((rd_T82 x175005 x3).f1)).bind fun t187 => (spec_ValidState.j3 k x3 (decide (t187 < 0)) x175000 x175001 x175002 x175003 x175004 x175005 x175006))) else (spec_ValidState.j3 k x3 true x175000 x175001 x175002 x175003 x175004 x175005 x175006))) else (none)) else (spec_ValidState.l1 k 0 x175000 x175001 x175002 x175003 x175004 x175005 x175006)
def spec_ValidState.j3 : Nat → Int → Bool → Int → Int → Int → Int → List (S91) → List (S82) → List (S85) → Option (Bool)
 | 0, _, _, _, _, _, _, _, _, _ => none
 | k + 1, x3, x94, x175000, x175001, x175002, x175003, x175004, x175005, x175006 => if x94 = true then (some false) else (spec_ValidState.l0 k (wrap64 (x3 + 1)) x175000 x175001 x175002 x175003 x175004 x175005 x175006)
def spec_ValidState.l1 : Nat → Int → Int → Int → Int → Int → List (S91) → List (S82) → List (S85) → Option (Bool)
 | 0, _, _, _, _, _, _, _, _ => none
 | k + 1, x4, x175000, x175001, x175002, x175003, x175004, x175005, x175006 => if x4 < (x175006.length : Int) then (if 0 ≤ x4 then ((spec_l4Range.f ((rd_T85 x175006 x4).f0) 1 x175002).bind fun t190 => (if t190 = true then (if x4 > 0 then (if 0 ≤ (wrap64 (x4 - 1)) then (if (wrap64 (x4 - 1)) < (x175006.length : Int) then (if ((rd_T85 x175006 (wrap64 (x4 - 1))).f0) ≥ ((rd_T85 x175006 x4).f0) then (spec_ValidState.j5 k x4 true x175000 x175001 x175002 x175003 x175004 x175005 x175006) else ((spec_l4Find.f k x175000 x175001 x175002 x175003 x175004 x175005 x175006 ((rd_T85 x175006 x4).f1)).bind fun t192 => (if t192 < 0 then (spec_ValidState.j5 k x4 true x175000 x175001 x175002 x175003 x175004 x175005 x175006) else (if ((rd_T85 x175006 x4).f2) ≤ x175001 then (spec_ValidState.j5 k x4 true x175000 x175001 x175002 x175003 x175004 x175005 x175006) else (spec_ValidState.j5 k x4 (decide (((rd_T85 x175006 x4).f2) > (wrap64 (x175001 + 100000)))) x175000 x175001 x175002 x175003 x175004 x175005 x175006))))) else (none)) else (none)) else ((spec_l4Find.f k x175000 x175001 x175002 x175003 x175004 x175005 x175006 ((rd_T85 x175006 x4).f1)).bind fun t193 => (if t193 < 0 then (spec_ValidState.j5 k x4 true x175000 x175001 x175002 x175003 x175004 x175005 x175006) else (if ((rd_T85 x175006 x4).f2) ≤ x175001 then (spec_ValidState.j5 k x4 true x175000 x175001 x175002 x175003 x175004 x175005 x175006) else (spec_ValidState.j5 k x4 (decide (((rd_T85 x175006 x4).f2) > (wrap64 (x175001 + 100000)))) x175000 x175001 x175002 x175003 x175004 x175005 x175006))))) else (spec_ValidState.j5 k x4 true x175000 x175001 x175002 x175003 x175004 x175005 x175006))) else (none)) else (some true)
def spec_ValidState.j5 : Nat → Int → Bool → Int → Int → Int → Int → List (S91) → List (S82) → List (S85) → Option (Bool)
 | 0, _, _, _, _, _, _, _, _, _ => none
 | k + 1, x4, x150, x175000, x175001, x175002, x175003, x175004, x175005, x175006 => if x150 = true then (some false) else (spec_ValidState.l1 k (wrap64 (x4 + 1)) x175000 x175001 x175002 x175003 x175004 x175005 x175006)
end
def spec_ValidState.f (k : Nat) (a0_0 : Int) (a0_1 : Int) (a0_2 : Int) (a0_3 : Int) (l0_4 : List (S91)) (l0_5 : List (S82)) (l0_6 : List (S85)) : Option (Bool) := (spec_l1Width.f a0_0).bind fun t175 => (if t175 = true then ((spec_l4Range.f a0_1 0 1000000000).bind fun t176 => (if t176 = true then ((spec_l4Range.f a0_2 0 1000000000).bind fun t177 => (if t177 = true then ((spec_l4Range.f a0_3 0 1000000000).bind fun t178 => (spec_ValidState.j0 k (!t178) a0_0 a0_1 a0_2 a0_3 l0_4 l0_5 l0_6)) else (spec_ValidState.j0 k true a0_0 a0_1 a0_2 a0_3 l0_4 l0_5 l0_6))) else (spec_ValidState.j0 k true a0_0 a0_1 a0_2 a0_3 l0_4 l0_5 l0_6))) else (spec_ValidState.j0 k true a0_0 a0_1 a0_2 a0_3 l0_4 l0_5 l0_6))
def spec_ValidState.T8 : Bool × List (List Nat × List Nat) := (true, [([], []), ([0], [0]), ([], []), ([1, 2], [1, 2]), ([3], [3]), ([4], [4]), ([5], [5]), ([6], [6]), ([7, 6], [7]), ([8], [8]), ([9, 8], [8, 9]), ([10, 8, 8], [8, 10]), ([11], [11]), ([12, 11], [11, 12]), ([11], [11]), ([14, 11], [11, 14]), ([13, 15, 11], [11, 13, 15]), ([16, 11], [11, 16]), ([17, 11], [11, 17]), ([11], [11]), ([19, 11], [11, 19]), ([11], [11]), ([20, 21, 11], [11, 20, 21]), ([22, 11], [11, 22]), ([23, 11], [11, 23]), ([18, 24, 11], [11, 18, 24]), ([11, 25, 8], [8, 11, 25]), ([8, 26], [8, 26]), ([27, 11], [27]), ([28], [28]), ([28], [28]), ([30, 28], [28, 30]), ([28], [28]), ([31, 32, 28], [28, 31, 32]), ([33, 28], [28, 33]), ([34, 28], [28, 34]), ([29, 35, 28, 28], [28, 29, 35]), ([36, 28], [28, 36]), ([28, 37], [28, 37])])
def spec_ValidState.B8 : List Nat := [0, 1, 0, 7, 15, 31, 63, 127, 255, 511, 1023, 2047, 4095, 8191, 4095, 20479, 65535, 131071, 262143, 4095, 528383, 4095, 3674111, 7868415, 16257023, 33554431, 67108863, 134217727, 268435455, 536870911, 536870911, 1610612735, 536870911, 8053063679, 16642998271, 33822867455, 68719476735, 137438953471, 274877906943]
theorem spec_ValidState.tab8 : rtab .any (opsOf Try.f11 8) = spec_ValidState.T8 := by kernel_rfl
theorem spec_ValidState.bits8 : waitsOk spec_ValidState.T8.2 spec_ValidState.B8 = true := by kernel_rfl
def spec_ValidState.T14 : Bool × List (List Nat × List Nat) := (true, [([], []), ([0], [0]), ([], []), ([2], [2]), ([1, 3], [1, 3]), ([4], [4]), ([5, 4], [5]), ([6], [6]), ([7, 6], [6, 7]), ([8, 6, 6], [6, 8]), ([9], [9]), ([10, 9], [9, 10]), ([9], [9]), ([12, 9], [9, 12]), ([11, 13, 9], [9, 11, 13]), ([14, 9], [9, 14]), ([15, 9], [9, 15]), ([9], [9]), ([17, 9], [9, 17]), ([16, 18, 9], [9, 16, 18]), ([9, 19, 6], [6, 9, 19]), ([6, 20], [6, 20]), ([21, 9], [21]), ([22], [22]), ([22], [22]), ([24, 22], [22, 24]), ([23, 25, 22, 22], [22, 23, 25]), ([26, 22], [22, 26]), ([22, 27], [22, 27]), ([28, 26], [28]), ([29], [29]), ([30, 29], [29, 30]), ([29], [29]), ([32, 29], [29, 32]), ([31, 33, 29], [29, 31, 33]), ([29, 34], [29, 34]), ([35, 29], [35]), ([36], [36]), ([37, 36], [36, 37]), ([36], [36]), ([39, 36], [36, 39]), ([40, 36], [36, 40]), ([38, 41, 36], [36, 38, 41]), ([36, 42], [36, 42])])
def spec_ValidState.B14 : List Nat := [0, 1, 0, 4, 15, 31, 63, 127, 255, 511, 1023, 2047, 1023, 5119, 16383, 32767, 65535, 1023, 132095, 524287, 1048575, 2097151, 4194303, 8388607, 8388607, 25165823, 67108863, 134217727, 268435455, 536870911, 1073741823, 2147483647, 1073741823, 5368709119, 17179869183, 34359738367, 68719476735, 137438953471, 274877906943, 137438953471, 687194767359, 1786706395135, 4398046511103, 8796093022207]
theorem spec_ValidState.tab14 : rtab .any (opsOf Try.f11 14) = spec_ValidState.T14 := by kernel_rfl
theorem spec_ValidState.bits14 : waitsOk spec_ValidState.T14.2 spec_ValidState.B14 = true := by kernel_rfl
set_option maxHeartbeats 8000000 in
set_option maxRecDepth 100000 in
theorem spec_ValidState.calls (k : Nat) (a0_0 : Int) (a0_1 : Int) (a0_2 : Int) (a0_3 : Int) (A0_4 : Option Addr) (c0_4 : Nat) (l0_4 : List (S91)) (A0_5 : Option Addr) (c0_5 : Nat) (l0_5 : List (S82)) (A0_6 : Option Addr) (c0_6 : Nat) (l0_6 : List (S85)) (r : Bool) (w : World) (hr0_4 : Kd.C k91 w A0_4 l0_4.length l0_4) (hc0_4 : l0_4.length ≤ c0_4) (hr0_5 : Kd.C k82 w A0_5 l0_5.length l0_5) (hc0_5 : l0_5.length ≤ c0_5) (hr0_6 : Kd.C k85 w A0_6 l0_6.length l0_6) (hc0_6 : l0_6.length ≤ c0_6) (h : spec_ValidState.f k a0_0 a0_1 a0_2 a0_3 l0_4 l0_5 l0_6 = some r) :
  Calls Try.prog 11 #[.agg #[.int .i64 a0_0, .int .i64 a0_1, .int .i64 a0_2, .int .i64 a0_3, .slice A0_4 l0_4.length c0_4, .slice A0_5 l0_5.length c0_5, .slice A0_6 l0_6.length c0_6]] w fun e w' => e = .returned (.bool r) ∧ Below w.heap.size w w' := by
 have hu33 := Try.underlying33
 have hu85 := Try.underlying85
 have HR0_4 := Aside0.mk hr0_4
 have HC0_4 := Aside0.mk hc0_4
 clear hr0_4 hc0_4
 have HR0_5 := Aside0.mk hr0_5
 have HC0_5 := Aside0.mk hc0_5
 clear hr0_5 hc0_5
 have HR0_6 := Aside0.mk hr0_6
 have HC0_6 := Aside0.mk hc0_6
 clear hr0_6 hc0_6
 have HB := am__ (Below.refl w.heap.size w)
 have H : ((spec_l1Width.f a0_0).bind fun t175 => (if t175 = true then ((spec_l4Range.f a0_1 0 1000000000).bind fun t176 => (if t176 = true then ((spec_l4Range.f a0_2 0 1000000000).bind fun t177 => (if t177 = true then ((spec_l4Range.f a0_3 0 1000000000).bind fun t178 => (spec_ValidState.j0 k (!t178) a0_0 a0_1 a0_2 a0_3 l0_4 l0_5 l0_6)) else (spec_ValidState.j0 k true a0_0 a0_1 a0_2 a0_3 l0_4 l0_5 l0_6))) else (spec_ValidState.j0 k true a0_0 a0_1 a0_2 a0_3 l0_4 l0_5 l0_6))) else (spec_ValidState.j0 k true a0_0 a0_1 a0_2 a0_3 l0_4 l0_5 l0_6))) = some r := h
 clear h
 have HC2 := Aside0.mk H
 clear H
 go_enter Try.func11, Try.ntmps11
 go_upto_region 1 with (first | ((with_reducible refine gate_dst (N := 1) rfl ?_); (try (refine gate_guard (by rfl) ?_; dsimp only)); refine be__ 1 #[.int .i64 a0_0, .int .i64 a0_1, .int .i64 a0_2, .int .i64 a0_3, .slice A0_4 l0_4.length c0_4, .slice A0_5 l0_5.length c0_5, .slice A0_6 l0_6.length c0_6] 33 ?_; intro gb174 hg w3 hbox hb; have BK174 := am__ (hbox); have GW174 := am__ ((bsz__ hg bel__ : w.heap.size ≤ gb174)); have GE174 := am__ ((bsz__ hg bel__ : w.heap.size ≤ gb174)); replace HB := am__ (below_step (bel__) hb); clear hb hbox hg))
 (try simp only [Act.put, List.setIfInBounds_toArray, List.set_cons_zero, List.set_cons_succ])
 go_cut [27] (fun v27 wc => ∃ (kq : Nat) (x27_1 : Bool), v27 = .bool x27_1 ∧ Aside0 (spec_ValidState.j0 kq x27_1 a0_0 a0_1 a0_2 a0_3 l0_4 l0_5 l0_6 = some r) ∧ Aside0 (kq ≤ k) ∧ Aside0 (wc.heap[gb174]? = some (.cells #[.int .i64 a0_0, .int .i64 a0_1, .int .i64 a0_2, .int .i64 a0_3, (.slice A0_4 l0_4.length c0_4), (.slice A0_5 l0_5.length c0_5), (.slice A0_6 l0_6.length c0_6)] 33 (0, 0))) ∧ Aside0 (Below w.heap.size w wc))
 case first =>
  as_aux_lemma =>
  have H := HC2.out
  clear HC2
  replace H := Option.bind_eq_some_iff.mp H
  obtain ⟨t175, A40, H⟩ := H
  have A4 := Aside0.mk A40
  clear A40
  by_cases c5 : t175 = true
  ·as_aux_lemma =>
   subst c5
   rw [if_pos rfl] at H
   replace H := Option.bind_eq_some_iff.mp H
   obtain ⟨t176, A60, H⟩ := H
   have A6 := Aside0.mk A60
   clear A60
   by_cases c7 : t176 = true
   ·subst c7
    rw [if_pos rfl] at H
    replace H := Option.bind_eq_some_iff.mp H
    obtain ⟨t177, A80, H⟩ := H
    have A8 := Aside0.mk A80
    clear A80
    by_cases c9 : t177 = true
    ·subst c9
     rw [if_pos rfl] at H
     replace H := Option.bind_eq_some_iff.mp H
     obtain ⟨t178, A100, H⟩ := H
     have A10 := Aside0.mk A100
     clear A100
     have H' := Aside0.mk H
     clear H
     obtain ⟨hcz11_0, hcz11_1, hcz11_2, hcz11_3, hcz11_4, hcz11_5, hcz11_6, hfz11_0, hfz11_1, hfz11_2, hfz11_3, hfz11_4, hfz11_5, hfz11_6⟩ := bk7__ BK174.out
     go_wp2_with (first | ((with_reducible refine gate_callee (f := 45) rfl ?_); refine gl__ (some 8) Try.func45 #[.int .i64 a0_0] ?_; (with_reducible refine (spec_l1Width.calls a0_0 true _ A4.out).mono ?_); rintro e w' ⟨rfl, ⟨nd, rfl⟩⟩; refine ⟨_, rfl, ?_⟩) | (go_at_call 46; (with_reducible refine (spec_l4Range.calls a0_1 0 1000000000 true _ A6.out).mono ?_); rintro e w' ⟨rfl, ⟨nd, rfl⟩⟩) | (go_at_call 46; (with_reducible refine (spec_l4Range.calls a0_2 0 1000000000 true _ A8.out).mono ?_); rintro e w' ⟨rfl, ⟨nd, rfl⟩⟩) | (go_at_call 46; (with_reducible refine (spec_l4Range.calls a0_3 0 1000000000 t178 _ A10.out).mono ?_); rintro e w' ⟨rfl, ⟨nd, rfl⟩⟩))
     go_meet
     case rel => exact ⟨_, (!t178), (rf__), H', ⟨by first | omega | exact Nat.le_refl _⟩, ⟨blk__ BK174.out⟩, ⟨bel__⟩⟩
    ·replace c9 := Bool.eq_false_iff.mpr c9
     subst c9
     have H1 : (spec_ValidState.j0 k true a0_0 a0_1 a0_2 a0_3 l0_4 l0_5 l0_6) = some r := by rw [if_neg (show ¬ (false = true) by decide)] at H; exact H
     clear H
     have H := H1
     clear H1
     have H' := Aside0.mk H
     clear H
     obtain ⟨hcz12_0, hcz12_1, hcz12_2, hcz12_3, hcz12_4, hcz12_5, hcz12_6, hfz12_0, hfz12_1, hfz12_2, hfz12_3, hfz12_4, hfz12_5, hfz12_6⟩ := bk7__ BK174.out
     go_wp2_with (first | ((with_reducible refine gate_callee (f := 45) rfl ?_); refine gl__ (some 8) Try.func45 #[.int .i64 a0_0] ?_; (with_reducible refine (spec_l1Width.calls a0_0 true _ A4.out).mono ?_); rintro e w' ⟨rfl, ⟨nd, rfl⟩⟩; refine ⟨_, rfl, ?_⟩) | (go_at_call 46; (with_reducible refine (spec_l4Range.calls a0_1 0 1000000000 true _ A6.out).mono ?_); rintro e w' ⟨rfl, ⟨nd, rfl⟩⟩) | (go_at_call 46; (with_reducible refine (spec_l4Range.calls a0_2 0 1000000000 false _ A8.out).mono ?_); rintro e w' ⟨rfl, ⟨nd, rfl⟩⟩))
     go_meet
     case rel => exact ⟨_, (true), (rf__), H', ⟨by first | omega | exact Nat.le_refl _⟩, ⟨blk__ BK174.out⟩, ⟨bel__⟩⟩
   ·replace c7 := Bool.eq_false_iff.mpr c7
    subst c7
    have H1 : (spec_ValidState.j0 k true a0_0 a0_1 a0_2 a0_3 l0_4 l0_5 l0_6) = some r := by rw [if_neg (show ¬ (false = true) by decide)] at H; exact H
    clear H
    have H := H1
    clear H1
    have H' := Aside0.mk H
    clear H
    obtain ⟨hcz13_0, hcz13_1, hcz13_2, hcz13_3, hcz13_4, hcz13_5, hcz13_6, hfz13_0, hfz13_1, hfz13_2, hfz13_3, hfz13_4, hfz13_5, hfz13_6⟩ := bk7__ BK174.out
    go_wp2_with (first | ((with_reducible refine gate_callee (f := 45) rfl ?_); refine gl__ (some 8) Try.func45 #[.int .i64 a0_0] ?_; (with_reducible refine (spec_l1Width.calls a0_0 true _ A4.out).mono ?_); rintro e w' ⟨rfl, ⟨nd, rfl⟩⟩; refine ⟨_, rfl, ?_⟩) | (go_at_call 46; (with_reducible refine (spec_l4Range.calls a0_1 0 1000000000 false _ A6.out).mono ?_); rintro e w' ⟨rfl, ⟨nd, rfl⟩⟩))
    go_meet
    case rel => exact ⟨_, (true), (rf__), H', ⟨by first | omega | exact Nat.le_refl _⟩, ⟨blk__ BK174.out⟩, ⟨bel__⟩⟩
  ·replace c5 := Bool.eq_false_iff.mpr c5
   subst c5
   have H1 : (spec_ValidState.j0 k true a0_0 a0_1 a0_2 a0_3 l0_4 l0_5 l0_6) = some r := by rw [if_neg (show ¬ (false = true) by decide)] at H; exact H
   clear H
   have H := H1
   clear H1
   have H' := Aside0.mk H
   clear H
   obtain ⟨hcz14_0, hcz14_1, hcz14_2, hcz14_3, hcz14_4, hcz14_5, hcz14_6, hfz14_0, hfz14_1, hfz14_2, hfz14_3, hfz14_4, hfz14_5, hfz14_6⟩ := bk7__ BK174.out
   go_wp2_with (first | ((with_reducible refine gate_callee (f := 45) rfl ?_); refine gl__ (some 8) Try.func45 #[.int .i64 a0_0] ?_; (with_reducible refine (spec_l1Width.calls a0_0 false _ A4.out).mono ?_); rintro e w' ⟨rfl, ⟨nd, rfl⟩⟩; refine ⟨_, rfl, ?_⟩))
   go_meet
   case rel => exact ⟨_, (true), (rf__), H', ⟨by first | omega | exact Nat.le_refl _⟩, ⟨blk__ BK174.out⟩, ⟨bel__⟩⟩
 case rest =>
  as_aux_lemma =>
  clear HC2
  try clear c1
  try clear p2
  try clear c4
  try clear c5
  try clear c7
  try clear c9
  try clear c11
  try clear hcz11_0 hcz11_1 hcz11_2 hcz11_3 hcz11_4 hcz11_5 hcz11_6 hfz11_0 hfz11_1 hfz11_2 hfz11_3 hfz11_4 hfz11_5 hfz11_6
  try clear hcz12_0 hcz12_1 hcz12_2 hcz12_3 hcz12_4 hcz12_5 hcz12_6 hfz12_0 hfz12_1 hfz12_2 hfz12_3 hfz12_4 hfz12_5 hfz12_6
  try clear hcz13_0 hcz13_1 hcz13_2 hcz13_3 hcz13_4 hcz13_5 hcz13_6 hfz13_0 hfz13_1 hfz13_2 hfz13_3 hfz13_4 hfz13_5 hfz13_6
  try clear hcz14_0 hcz14_1 hcz14_2 hcz14_3 hcz14_4 hcz14_5 hcz14_6 hfz14_0 hfz14_1 hfz14_2 hfz14_3 hfz14_4 hfz14_5 hfz14_6
  obtain ⟨kq, x27_1, rfl, HA, HJ1, BK174, HB⟩ := hcut
  cases kq with
  | zero => exact absurd HA.out (by simp [spec_ValidState.j0])
  | succ kj1 =>
   have H := HA.out
   clear HA
   simp only [spec_ValidState.j0] at H
   by_cases c15 : x27_1 = true
   ·subst c15
    rw [if_pos rfl] at H
    obtain rfl := Option.some.inj H
    go_wp2
    go_ret
    exact ⟨ee__, bel__⟩
   ·as_aux_lemma =>
    replace c15 := Bool.eq_false_iff.mpr c15
    subst c15
    have H1 : (if (l0_4.length : Int) > 600 then (spec_ValidState.j1 kj1 true a0_0 a0_1 a0_2 a0_3 l0_4 l0_5 l0_6) else (if (l0_5.length : Int) > 100 then (spec_ValidState.j1 kj1 true a0_0 a0_1 a0_2 a0_3 l0_4 l0_5 l0_6) else (if (l0_6.length : Int) > 200 then (spec_ValidState.j1 kj1 true a0_0 a0_1 a0_2 a0_3 l0_4 l0_5 l0_6) else ((spec_l4ThingsOk.f kj1 a0_0 a0_1 a0_2 a0_3 l0_4 l0_5 l0_6).bind fun t179 => (spec_ValidState.j1 kj1 (!t179) a0_0 a0_1 a0_2 a0_3 l0_4 l0_5 l0_6))))) = some r := by rw [if_neg (show ¬ (false = true) by decide)] at H; exact H
    clear H
    have H := H1
    clear H1
    have HC16 := Aside0.mk H
    clear H
    go_upto_region 3 with (fail)
    go_cut [48] (fun v48 wc => ∃ (kq : Nat) (x48_15 : Bool), v48 = .bool x48_15 ∧ Aside0 (spec_ValidState.j1 kq x48_15 a0_0 a0_1 a0_2 a0_3 l0_4 l0_5 l0_6 = some r) ∧ Aside0 (kq ≤ kj1) ∧ Aside0 (wc.heap[gb174]? = some (.cells #[.int .i64 a0_0, .int .i64 a0_1, .int .i64 a0_2, .int .i64 a0_3, (.slice A0_4 l0_4.length c0_4), (.slice A0_5 l0_5.length c0_5), (.slice A0_6 l0_6.length c0_6)] 33 (0, 0))) ∧ Aside0 (Below w.heap.size w wc))
    case first =>
     as_aux_lemma =>
     have H := HC16.out
     clear HC16
     by_cases c17 : (l0_4.length : Int) > 600
     ·rw [if_pos c17] at H
      have c17b0 : decide (600 < (l0_4.length : Int)) = true := decide_eq_true c17
      have c17b1 : decide (600 < l0_4.length) = true := decide_eq_true (by omega)
      clear c17
      (first | rw [c17b0] | (simp only [i64_w, i32_w]; rw [c17b0]) | skip)
      have H' := Aside0.mk H
      clear H
      obtain ⟨hcz18_0, hcz18_1, hcz18_2, hcz18_3, hcz18_4, hcz18_5, hcz18_6, hfz18_0, hfz18_1, hfz18_2, hfz18_3, hfz18_4, hfz18_5, hfz18_6⟩ := bk7__ BK174.out
      go_wp2
      go_meet
      case rel => exact ⟨_, (true), (rf__), H', ⟨by have := HJ1.out; first | omega | exact Nat.le_refl _⟩, ⟨blk__ BK174.out⟩, ⟨bel__⟩⟩
     ·rw [if_neg c17] at H
      have c17b0 : decide (600 < (l0_4.length : Int)) = false := decide_eq_false c17
      have c17b1 : decide (600 < l0_4.length) = false := decide_eq_false (by omega)
      clear c17
      (first | rw [c17b0] | (simp only [i64_w, i32_w]; rw [c17b0]) | skip)
      by_cases c19 : (l0_5.length : Int) > 100
      ·rw [if_pos c19] at H
       have c19b0 : decide (100 < (l0_5.length : Int)) = true := decide_eq_true c19
       have c19b1 : decide (100 < l0_5.length) = true := decide_eq_true (by omega)
       clear c19
       have H' := Aside0.mk H
       clear H
       obtain ⟨hcz20_0, hcz20_1, hcz20_2, hcz20_3, hcz20_4, hcz20_5, hcz20_6, hfz20_0, hfz20_1, hfz20_2, hfz20_3, hfz20_4, hfz20_5, hfz20_6⟩ := bk7__ BK174.out
       go_wp2
       go_meet
       case rel => exact ⟨_, (true), (rf__), H', ⟨by have := HJ1.out; first | omega | exact Nat.le_refl _⟩, ⟨blk__ BK174.out⟩, ⟨bel__⟩⟩
      ·rw [if_neg c19] at H
       have c19b0 : decide (100 < (l0_5.length : Int)) = false := decide_eq_false c19
       have c19b1 : decide (100 < l0_5.length) = false := decide_eq_false (by omega)
       clear c19
       by_cases c21 : (l0_6.length : Int) > 200
       ·rw [if_pos c21] at H
        have c21b0 : decide (200 < (l0_6.length : Int)) = true := decide_eq_true c21
        have c21b1 : decide (200 < l0_6.length) = true := decide_eq_true (by omega)
        clear c21
        have H' := Aside0.mk H
        clear H
        obtain ⟨hcz22_0, hcz22_1, hcz22_2, hcz22_3, hcz22_4, hcz22_5, hcz22_6, hfz22_0, hfz22_1, hfz22_2, hfz22_3, hfz22_4, hfz22_5, hfz22_6⟩ := bk7__ BK174.out
        go_wp2
        go_meet
        case rel => exact ⟨_, (true), (rf__), H', ⟨by have := HJ1.out; first | omega | exact Nat.le_refl _⟩, ⟨blk__ BK174.out⟩, ⟨bel__⟩⟩
       ·rw [if_neg c21] at H
        have c21b0 : decide (200 < (l0_6.length : Int)) = false := decide_eq_false c21
        have c21b1 : decide (200 < l0_6.length) = false := decide_eq_false (by omega)
        clear c21
        replace H := Option.bind_eq_some_iff.mp H
        obtain ⟨t179, A230, H⟩ := H
        have A23 := Aside0.mk A230
        clear A230
        have H' := Aside0.mk H
        clear H
        obtain ⟨hcz24_0, hcz24_1, hcz24_2, hcz24_3, hcz24_4, hcz24_5, hcz24_6, hfz24_0, hfz24_1, hfz24_2, hfz24_3, hfz24_4, hfz24_5, hfz24_6⟩ := bk7__ BK174.out
        go_wp2_with (first | (go_at_call 47; (with_reducible refine (spec_l4ThingsOk.calls kj1 a0_0 a0_1 a0_2 a0_3 _ _ l0_4 _ _ l0_5 _ _ l0_6 t179 _ ?side1 HC0_4.out ?side3 HC0_5.out ?side5 HC0_6.out A23.out).mono ?_); (case side1 => repeat (first | exact (Kd.C_below HR0_4.out HB.out) | (with_reducible refine Kd.C_alloc ?_ _) | (with_reducible refine Kd.C_drewN ?_ _) | (with_reducible refine Kd.C_drew ?_))); (case side3 => repeat (first | exact (Kd.C_below HR0_5.out HB.out) | (with_reducible refine Kd.C_alloc ?_ _) | (with_reducible refine Kd.C_drewN ?_ _) | (with_reducible refine Kd.C_drew ?_))); (case side5 => repeat (first | exact (Kd.C_below HR0_6.out HB.out) | (with_reducible refine Kd.C_alloc ?_ _) | (with_reducible refine Kd.C_drewN ?_ _) | (with_reducible refine Kd.C_drew ?_))); rintro e w25 ⟨rfl, hb⟩; replace BK174 := am__ (blb__ BK174.out hb); replace HB := am__ (below_step (bel__) hb); clear hb))
        go_meet
        case rel => exact ⟨_, (!t179), (rf__), H', ⟨by have := HJ1.out; first | omega | exact Nat.le_refl _⟩, ⟨blk__ BK174.out⟩, ⟨bel__⟩⟩
    case rest =>
     as_aux_lemma =>
     clear HC16
     try clear c1
     try clear c2
     try clear p2
     try clear c4
     try clear c5
     try clear c7
     try clear c9
     try clear c11
     try clear c15
     try clear c17
     try clear c17b0
     try clear c17b1
     try clear c19
     try clear c19b0
     try clear c19b1
     try clear c21
     try clear c21b0
     try clear c21b1
     try clear hcz11_0 hcz11_1 hcz11_2 hcz11_3 hcz11_4 hcz11_5 hcz11_6 hfz11_0 hfz11_1 hfz11_2 hfz11_3 hfz11_4 hfz11_5 hfz11_6
     try clear hcz12_0 hcz12_1 hcz12_2 hcz12_3 hcz12_4 hcz12_5 hcz12_6 hfz12_0 hfz12_1 hfz12_2 hfz12_3 hfz12_4 hfz12_5 hfz12_6
     try clear hcz13_0 hcz13_1 hcz13_2 hcz13_3 hcz13_4 hcz13_5 hcz13_6 hfz13_0 hfz13_1 hfz13_2 hfz13_3 hfz13_4 hfz13_5 hfz13_6
     try clear hcz14_0 hcz14_1 hcz14_2 hcz14_3 hcz14_4 hcz14_5 hcz14_6 hfz14_0 hfz14_1 hfz14_2 hfz14_3 hfz14_4 hfz14_5 hfz14_6
     try clear hcz18_0 hcz18_1 hcz18_2 hcz18_3 hcz18_4 hcz18_5 hcz18_6 hfz18_0 hfz18_1 hfz18_2 hfz18_3 hfz18_4 hfz18_5 hfz18_6
     try clear hcz20_0 hcz20_1 hcz20_2 hcz20_3 hcz20_4 hcz20_5 hcz20_6 hfz20_0 hfz20_1 hfz20_2 hfz20_3 hfz20_4 hfz20_5 hfz20_6
     try clear hcz22_0 hcz22_1 hcz22_2 hcz22_3 hcz22_4 hcz22_5 hcz22_6 hfz22_0 hfz22_1 hfz22_2 hfz22_3 hfz22_4 hfz22_5 hfz22_6
     try clear hcz24_0 hcz24_1 hcz24_2 hcz24_3 hcz24_4 hcz24_5 hcz24_6 hfz24_0 hfz24_1 hfz24_2 hfz24_3 hfz24_4 hfz24_5 hfz24_6
     try clear p2
     obtain ⟨kq, x48_15, rfl, HA, HJ15, BK174, HB⟩ := hcut
     cases kq with
     | zero => exact absurd HA.out (by simp [spec_ValidState.j1])
     | succ kj15 =>
      have H := HA.out
      clear HA
      simp only [spec_ValidState.j1] at H
      by_cases c26 : x48_15 = true
      ·subst c26
       rw [if_pos rfl] at H
       obtain rfl := Option.some.inj H
       go_wp2
       go_ret
       exact ⟨ee__, bel__⟩
      ·as_aux_lemma =>
       replace c26 := Bool.eq_false_iff.mpr c26
       subst c26
       have H1 : (spec_ValidState.l0 kj15 0 a0_0 a0_1 a0_2 a0_3 l0_4 l0_5 l0_6) = some r := by rw [if_neg (show ¬ (false = true) by decide)] at H; exact H
       clear H
       have H := H1
       clear H1
       have H' := Aside0.mk H
       clear H
       go_wp2
       go_loopg [3] kj15 (fun kq v3 w' => ∃ (x3_3 : Int), v3 = .int .i64 x3_3 ∧ Aside0 (spec_ValidState.l0 kq x3_3 a0_0 a0_1 a0_2 a0_3 l0_4 l0_5 l0_6 = some r) ∧ Aside0 (kq ≤ kj15) ∧ Aside0 (w'.heap[gb174]? = some (.cells #[.int .i64 a0_0, .int .i64 a0_1, .int .i64 a0_2, .int .i64 a0_3, (.slice A0_4 l0_4.length c0_4), (.slice A0_5 l0_5.length c0_5), (.slice A0_6 l0_6.length c0_6)] 33 (0, 0))) ∧ Aside0 (Below w.heap.size w w'))
       case atStart => exact ⟨(0), (rf__), H', ⟨Nat.le_refl _⟩, ⟨blk__ BK174.out⟩, ⟨bel__⟩⟩
       case round =>
        as_aux_lemma =>
        clear H'
        try clear c1
        try clear c2
        try clear p2
        try clear c4
        try clear c5
        try clear c7
        try clear c9
        try clear c11
        try clear c15
        try clear c17
        try clear c17b0
        try clear c17b1
        try clear c19
        try clear c19b0
        try clear c19b1
        try clear c21
        try clear c21b0
        try clear c21b1
        try clear c26
        try clear hcz11_0 hcz11_1 hcz11_2 hcz11_3 hcz11_4 hcz11_5 hcz11_6 hfz11_0 hfz11_1 hfz11_2 hfz11_3 hfz11_4 hfz11_5 hfz11_6
        try clear hcz12_0 hcz12_1 hcz12_2 hcz12_3 hcz12_4 hcz12_5 hcz12_6 hfz12_0 hfz12_1 hfz12_2 hfz12_3 hfz12_4 hfz12_5 hfz12_6
        try clear hcz13_0 hcz13_1 hcz13_2 hcz13_3 hcz13_4 hcz13_5 hcz13_6 hfz13_0 hfz13_1 hfz13_2 hfz13_3 hfz13_4 hfz13_5 hfz13_6
        try clear hcz14_0 hcz14_1 hcz14_2 hcz14_3 hcz14_4 hcz14_5 hcz14_6 hfz14_0 hfz14_1 hfz14_2 hfz14_3 hfz14_4 hfz14_5 hfz14_6
        try clear hcz18_0 hcz18_1 hcz18_2 hcz18_3 hcz18_4 hcz18_5 hcz18_6 hfz18_0 hfz18_1 hfz18_2 hfz18_3 hfz18_4 hfz18_5 hfz18_6
        try clear hcz20_0 hcz20_1 hcz20_2 hcz20_3 hcz20_4 hcz20_5 hcz20_6 hfz20_0 hfz20_1 hfz20_2 hfz20_3 hfz20_4 hfz20_5 hfz20_6
        try clear hcz22_0 hcz22_1 hcz22_2 hcz22_3 hcz22_4 hcz22_5 hcz22_6 hfz22_0 hfz22_1 hfz22_2 hfz22_3 hfz22_4 hfz22_5 hfz22_6
        try clear hcz24_0 hcz24_1 hcz24_2 hcz24_3 hcz24_4 hcz24_5 hcz24_6 hfz24_0 hfz24_1 hfz24_2 hfz24_3 hfz24_4 hfz24_5 hfz24_6
        try clear p2
        obtain ⟨x3_3, rfl, HA, HK3, BK174, HB⟩ := hrel
        cases gk with
        | zero => exact absurd HA.out (by simp [spec_ValidState.l0])
        | succ k3 =>
         have H := HA.out
         clear HA
         simp only [spec_ValidState.l0] at H
         by_cases c27 : x3_3 < (l0_5.length : Int)
         ·as_aux_lemma =>
          rw [if_pos c27] at H
          have c27b0 := decide_eq_true c27
          clear c27
          have HC28 := Aside0.mk H
          clear H
          obtain ⟨hcz29_0, hcz29_1, hcz29_2, hcz29_3, hcz29_4, hcz29_5, hcz29_6, hfz29_0, hfz29_1, hfz29_2, hfz29_3, hfz29_4, hfz29_5, hfz29_6⟩ := bk7__ BK174.out
          go_upto_region 8 with (fail)
          go_cut [94] (fun v94 wc => ∃ (kq : Nat) (x94_27 : Bool), v94 = .bool x94_27 ∧ Aside0 (spec_ValidState.j3 kq x3_3 x94_27 a0_0 a0_1 a0_2 a0_3 l0_4 l0_5 l0_6 = some r) ∧ Aside0 (kq ≤ k3) ∧ Aside0 (wc.heap[gb174]? = some (.cells #[.int .i64 a0_0, .int .i64 a0_1, .int .i64 a0_2, .int .i64 a0_3, (.slice A0_4 l0_4.length c0_4), (.slice A0_5 l0_5.length c0_5), (.slice A0_6 l0_6.length c0_6)] 33 (0, 0))) ∧ Aside0 (Below w.heap.size w wc))
          case first =>
           as_aux_lemma =>
           have H := HC28.out
           clear HC28
           by_cases c30 : 0 ≤ x3_3
           ·as_aux_lemma =>
            rw [if_pos c30] at H
            have c30b0 := decide_eq_true c30
            clear c30
            (first | rw [c30b0] | (simp only [i64_w, i32_w]; rw [c30b0]) | skip)
            replace H := Option.bind_eq_some_iff.mp H
            obtain ⟨t181, A310, H⟩ := H
            have A31 := Aside0.mk A310
            clear A310
            by_cases c32 : t181 = true
            ·as_aux_lemma =>
             subst c32
             rw [if_pos rfl] at H
             by_cases c33 : x3_3 > 0
             ·as_aux_lemma =>
              rw [if_pos c33] at H
              have c33b0 : decide (0 < x3_3) = true := decide_eq_true c33
              clear c33
              obtain ⟨ji34, hji34⟩ : ∃ j_ : Int, (wrap64 (x3_3 - 1)) = j_ := ⟨_, rfl⟩
              first | rw [hji34] at H | simp only [hji34] at H
              (try rw [hji34] at A31)
              have hji34w : (IntKind.i64.wrap (x3_3 - 1)) = ji34 := (i64_w _).trans hji34
              by_cases c35 : 0 ≤ (ji34)
              ·as_aux_lemma =>
               rw [if_pos c35] at H
               have c35b0 := decide_eq_true c35
               clear c35
               by_cases c36 : (ji34) < (l0_5.length : Int)
               ·as_aux_lemma =>
                rw [if_pos c36] at H
                have c36b0 := decide_eq_true c36
                clear c36
                by_cases c37 : ((Op.bytesLess (((rd_T82 l0_5 (ji34)).f0).toList) (((rd_T82 l0_5 x3_3).f0).toList)) = true)
                ·as_aux_lemma =>
                 rw [if_pos c37] at H
                 have c37b0 : (Op.bytesLess (((rd_T82 l0_5 (ji34)).f0).toList) (((rd_T82 l0_5 x3_3).f0).toList)) = true := c37
                 clear c37
                 replace H := Option.bind_eq_some_iff.mp H
                 obtain ⟨t185, A380, H⟩ := H
                 have A38 := Aside0.mk A380
                 clear A380
                 have H' := Aside0.mk H
                 clear H
                 try go_wp2
                 replace BK174 := am__ (blk_drew BK174.out)
                 replace HB := am__ (below_drew1 HB.out)
                 have p180 : 0 ≤ (x3_3 : Int) := of_decide_eq_true (by first | (with_reducible assumption) | assumption)
                 have q180 : x3_3 < (l0_5.length : Int) := of_decide_eq_true (by first | (with_reducible assumption) | assumption)
                 obtain ⟨ad180, e180, hx180_0, hx180_1⟩ := at_T82 HR0_5.out x3_3 p180 q180
                 have hw180_1 := hx180_1
                 have hw180_0 := hx180_0
                 cases e180
                 try replace hx180_0 := hb__ HB.out hx180_0
                 try replace hx180_1 := hb__ HB.out hx180_1
                 replace p180 := eq_true p180
                 replace q180 := eq_true q180
                 have p182 : 0 ≤ ((ji34) : Int) := of_decide_eq_true (by first | (with_reducible assumption) | assumption)
                 have q182 : (ji34) < (l0_5.length : Int) := of_decide_eq_true (by first | (with_reducible assumption) | assumption)
                 obtain ⟨ad182, e182, hx182_0, hx182_1⟩ := at_T82 HR0_5.out (ji34) p182 q182
                 have hw182_1 := hx182_1
                 have hw182_0 := hx182_0
                 obtain rfl : ad180 = ad182 := (by injection e182)
                 try replace hx182_0 := hb__ HB.out hx182_0
                 try replace hx182_1 := hb__ HB.out hx182_1
                 replace p182 := eq_true p182
                 replace q182 := eq_true q182
                 have p183 : 0 ≤ (x3_3 : Int) := of_decide_eq_true (by first | (with_reducible assumption) | assumption)
                 have q183 : x3_3 < (l0_5.length : Int) := of_decide_eq_true (by first | (with_reducible assumption) | assumption)
                 obtain ⟨ad183, e183, hx183_0, hx183_1⟩ := at_T82 HR0_5.out x3_3 p183 q183
                 have hw183_1 := hx183_1
                 have hw183_0 := hx183_0
                 obtain rfl : ad180 = ad183 := (by injection e183)
                 try replace hx183_0 := hb__ HB.out hx183_0
                 try replace hx183_1 := hb__ HB.out hx183_1
                 replace p183 := eq_true p183
                 replace q183 := eq_true q183
                 have p184 : 0 ≤ (x3_3 : Int) := of_decide_eq_true (by first | (with_reducible assumption) | assumption)
                 have q184 : x3_3 < (l0_5.length : Int) := of_decide_eq_true (by first | (with_reducible assumption) | assumption)
                 obtain ⟨ad184, e184, hx184_0, hx184_1⟩ := at_T82 HR0_5.out x3_3 p184 q184
                 have hw184_1 := hx184_1
                 have hw184_0 := hx184_0
                 obtain rfl : ad180 = ad184 := (by injection e184)
                 try replace hx184_0 := hb__ HB.out hx184_0
                 try replace hx184_1 := hb__ HB.out hx184_1
                 replace p184 := eq_true p184
                 replace q184 := eq_true q184
                 refine st__ 39 (c7a__ BK174.out (cha__ HB.out hw180_0 (cha__ HB.out hw180_1 (cha__ HB.out hw182_0 (cha__ HB.out hw182_1 (cha__ HB.out hw183_0 (cha__ HB.out hw183_1 (cha__ HB.out hw184_0 (che__ HB.out hw184_1))))))))) fun hHeld => ?_; refine with_tabW spec_ValidState.tab8 spec_ValidState.bits8 (fun HT_ HW_ => ?_)
                 generalize wr.drew = w39 at BK174 HB hx180_0 hx180_1 hx182_0 hx182_1 hx183_0 hx183_1 hx184_0 hx184_1 hHeld ⊢
                 refine v_ 0 ?_
                 refine v_ 2 ?_
                 refine t_ 1 ?_
                 refine v_ 3 ?_
                 refine v_ 4 ?_
                 refine t_ 5 ?_
                 refine o_ 6 fun K hK => ?_
                 refine gs__ Try.func48 #[.string ((rd_T82 l0_5 x3_3).f0)] ?_
                 with_reducible refine (spec_l3NameOk.calls k3 ((rd_T82 l0_5 x3_3).f0) true _ A31.out).mono ?_
                 rintro e w' ⟨rfl, ⟨nd, rfl⟩⟩
                 refine ⟨_, rfl, ?_⟩
                 refine hK.out _ _ ⟨bc__ BK174.out 0, bc__ BK174.out 1, bc__ BK174.out 2, bc__ BK174.out 3, bc__ BK174.out 4, bc__ BK174.out 5, bc__ BK174.out 6, (hd__ HB.out hw180_0), (hd__ HB.out hw180_1), (hd__ HB.out hw182_0), (hd__ HB.out hw182_1), (hd__ HB.out hw183_0), (hd__ HB.out hw183_1), (hd__ HB.out hw184_0), (hd__ HB.out hw184_1)⟩ (fun hHeld => ?_)
                 clear hK K
                 refine na__ 62 ?_
                 refine v_ 7 ?_
                 refine v_ 8 ?_
                 refine v_ 9 ?_
                 refine v_ 10 ?_
                 refine v_ 11 ?_
                 refine v_ 12 ?_
                 refine v_ 14 ?_
                 refine v_ 15 ?_
                 refine v_ 19 ?_
                 refine v_ 21 ?_
                 refine t_ 13 ?_
                 refine v_ 16 ?_
                 refine v_ 17 ?_
                 refine t_ 18 ?_
                 refine t_ 20 ?_
                 refine v_ 22 ?_
                 refine v_ 23 ?_
                 refine t_ 24 ?_
                 refine v_ 25 ?_
                 refine v_ 26 ?_
                 refine v_ 27 ?_
                 refine v_ 28 ?_
                 refine v_ 30 ?_
                 refine v_ 32 ?_
                 refine t_ 29 ?_
                 refine t_ 31 ?_
                 refine v_ 33 ?_
                 refine v_ 34 ?_
                 refine t_ 35 ?_
                 refine o_ 36 fun K hK => ?_
                 refine gs__ Try.func49 #[.agg #[.int .i64 a0_0, .int .i64 a0_1, .int .i64 a0_2, .int .i64 a0_3, .slice A0_4 l0_4.length c0_4, .slice (some ad180) l0_5.length c0_5, .slice A0_6 l0_6.length c0_6], .string ((rd_T82 l0_5 x3_3).f1)] ?_
                 with_reducible refine (spec_l4Find.calls k3 a0_0 a0_1 a0_2 a0_3 _ _ l0_4 _ _ l0_5 _ _ l0_6 ((rd_T82 l0_5 x3_3).f1) t185 _ ?side1 ?side2 ?side3 ?side4 ?side5 ?side6 A38.out).mono ?_
                 (case side1 => repeat (first | exact (Kd.C_below HR0_4.out (bel__)) | (with_reducible refine Kd.C_alloc ?_ _) | (with_reducible refine Kd.C_drewN ?_ _) | (with_reducible refine Kd.C_drew ?_)))
                 (case side2 => exact HC0_4.out)
                 (case side3 => repeat (first | exact (Kd.C_below HR0_5.out (bel__)) | (with_reducible refine Kd.C_alloc ?_ _) | (with_reducible refine Kd.C_drewN ?_ _) | (with_reducible refine Kd.C_drew ?_)))
                 (case side4 => exact HC0_5.out)
                 (case side5 => repeat (first | exact (Kd.C_below HR0_6.out (bel__)) | (with_reducible refine Kd.C_alloc ?_ _) | (with_reducible refine Kd.C_drewN ?_ _) | (with_reducible refine Kd.C_drew ?_)))
                 (case side6 => exact HC0_6.out)
                 rintro e w40 ⟨rfl, hb⟩
                 refine ⟨_, rfl, ?_⟩
                 replace BK174 := am__ (blb__ BK174.out hb)
                 replace HB := am__ (below_step (bel__) hb)
                 (try clear hb)
                 (try clear hb2)
                 (try clear hk)
                 (try clear hi)
                 refine hK.out _ _ ⟨bc__ BK174.out 0, bc__ BK174.out 1, bc__ BK174.out 2, bc__ BK174.out 3, bc__ BK174.out 4, bc__ BK174.out 5, bc__ BK174.out 6, (hd__ HB.out hw180_0), (hd__ HB.out hw180_1), (hd__ HB.out hw182_0), (hd__ HB.out hw182_1), (hd__ HB.out hw183_0), (hd__ HB.out hw183_1), (hd__ HB.out hw184_0), (hd__ HB.out hw184_1)⟩ (fun hHeld => ?_)
                 clear hK K
                 refine na__ 92 ?_
                 refine v_ 37 ?_
                 refine v_ 38 ?_
                 refine done_ (done_of HT_.out (by kernel_rfl)) ?_
                 try go_wp2
                 go_meet
                 case rel => exact ⟨_, (decide (t185 < 0)), (rf__), H', ⟨by have := HJ1.out; have := HJ15.out; have := HK3.out; first | omega | exact Nat.le_refl _⟩, ⟨blk__ BK174.out⟩, ⟨bel__⟩⟩
                ·as_aux_lemma =>
                 rw [if_neg c37] at H
                 have c37b0 : (Op.bytesLess (((rd_T82 l0_5 (ji34)).f0).toList) (((rd_T82 l0_5 x3_3).f0).toList)) = false := by simpa using c37
                 clear c37
                 have H' := Aside0.mk H
                 clear H
                 try go_wp2
                 replace BK174 := am__ (blk_drew BK174.out)
                 replace HB := am__ (below_drew1 HB.out)
                 have p180 : 0 ≤ (x3_3 : Int) := of_decide_eq_true (by first | (with_reducible assumption) | assumption)
                 have q180 : x3_3 < (l0_5.length : Int) := of_decide_eq_true (by first | (with_reducible assumption) | assumption)
                 obtain ⟨ad180, e180, hx180_0, hx180_1⟩ := at_T82 HR0_5.out x3_3 p180 q180
                 have hw180_1 := hx180_1
                 have hw180_0 := hx180_0
                 cases e180
                 try replace hx180_0 := hb__ HB.out hx180_0
                 try replace hx180_1 := hb__ HB.out hx180_1
                 replace p180 := eq_true p180
                 replace q180 := eq_true q180
                 have p182 : 0 ≤ ((ji34) : Int) := of_decide_eq_true (by first | (with_reducible assumption) | assumption)
                 have q182 : (ji34) < (l0_5.length : Int) := of_decide_eq_true (by first | (with_reducible assumption) | assumption)
                 obtain ⟨ad182, e182, hx182_0, hx182_1⟩ := at_T82 HR0_5.out (ji34) p182 q182
                 have hw182_1 := hx182_1
                 have hw182_0 := hx182_0
                 obtain rfl : ad180 = ad182 := (by injection e182)
                 try replace hx182_0 := hb__ HB.out hx182_0
                 try replace hx182_1 := hb__ HB.out hx182_1
                 replace p182 := eq_true p182
                 replace q182 := eq_true q182
                 have p183 : 0 ≤ (x3_3 : Int) := of_decide_eq_true (by first | (with_reducible assumption) | assumption)
                 have q183 : x3_3 < (l0_5.length : Int) := of_decide_eq_true (by first | (with_reducible assumption) | assumption)
                 obtain ⟨ad183, e183, hx183_0, hx183_1⟩ := at_T82 HR0_5.out x3_3 p183 q183
                 have hw183_1 := hx183_1
                 have hw183_0 := hx183_0
                 obtain rfl : ad180 = ad183 := (by injection e183)
                 try replace hx183_0 := hb__ HB.out hx183_0
                 try replace hx183_1 := hb__ HB.out hx183_1
                 replace p183 := eq_true p183
                 replace q183 := eq_true q183
                 refine st__ 39 (c7a__ BK174.out (cha__ HB.out hw180_0 (cha__ HB.out hw180_1 (cha__ HB.out hw182_0 (cha__ HB.out hw182_1 (cha__ HB.out hw183_0 (che__ HB.out hw183_1))))))) fun hHeld => ?_; refine with_tabW spec_ValidState.tab8 spec_ValidState.bits8 (fun HT_ HW_ => ?_)
                 generalize wr.drew = w41 at BK174 HB hx180_0 hx180_1 hx182_0 hx182_1 hx183_0 hx183_1 hHeld ⊢
                 refine v_ 0 ?_
                 refine v_ 2 ?_
                 refine t_ 1 ?_
                 refine v_ 3 ?_
                 refine v_ 4 ?_
                 refine t_ 5 ?_
                 refine o_ 6 fun K hK => ?_
                 refine gs__ Try.func48 #[.string ((rd_T82 l0_5 x3_3).f0)] ?_
                 with_reducible refine (spec_l3NameOk.calls k3 ((rd_T82 l0_5 x3_3).f0) true _ A31.out).mono ?_
                 rintro e w' ⟨rfl, ⟨nd, rfl⟩⟩
                 refine ⟨_, rfl, ?_⟩
                 refine hK.out _ _ ⟨bc__ BK174.out 0, bc__ BK174.out 1, bc__ BK174.out 2, bc__ BK174.out 3, bc__ BK174.out 4, bc__ BK174.out 5, bc__ BK174.out 6, (hd__ HB.out hw180_0), (hd__ HB.out hw180_1), (hd__ HB.out hw182_0), (hd__ HB.out hw182_1), (hd__ HB.out hw183_0), (hd__ HB.out hw183_1)⟩ (fun hHeld => ?_)
                 clear hK K
                 refine na__ 62 ?_
                 refine v_ 7 ?_
                 refine v_ 8 ?_
                 refine v_ 9 ?_
                 refine v_ 10 ?_
                 refine v_ 11 ?_
                 refine v_ 12 ?_
                 refine v_ 14 ?_
                 refine v_ 15 ?_
                 refine v_ 19 ?_
                 refine v_ 21 ?_
                 refine t_ 13 ?_
                 refine v_ 16 ?_
                 refine v_ 17 ?_
                 refine t_ 18 ?_
                 refine t_ 20 ?_
                 refine v_ 22 ?_
                 refine v_ 23 ?_
                 refine t_ 24 ?_
                 refine v_ 25 ?_
                 refine v_ 26 ?_
                 refine v_ 27 ?_
                 refine v_ 28 ?_
                 refine u_ 29 ?_
                 refine u_ 30 ?_
                 refine u_ 31 ?_
                 refine u_ 32 ?_
                 refine u_ 33 ?_
                 refine u_ 34 ?_
                 refine u_ 35 ?_
                 refine u_ 36 ?_
                 refine u_ 37 ?_
                 refine v_ 38 ?_
                 refine done_ (done_of HT_.out (by kernel_rfl)) ?_
                 try go_wp2
                 go_meet
                 case rel => exact ⟨_, (true), (rf__), H', ⟨by have := HJ1.out; have := HJ15.out; have := HK3.out; first | omega | exact Nat.le_refl _⟩, ⟨blk__ BK174.out⟩, ⟨bel__⟩⟩
               ·rw [if_neg c36] at H
                exact absurd H (by simp)
              ·rw [if_neg c35] at H
               exact absurd H (by simp)
             ·as_aux_lemma =>
              rw [if_neg c33] at H
              have c33b0 : decide (0 < x3_3) = false := decide_eq_false c33
              clear c33
              replace H := Option.bind_eq_some_iff.mp H
              obtain ⟨t187, A420, H⟩ := H
              have A42 := Aside0.mk A420
              clear A420
              have H' := Aside0.mk H
              clear H
              try go_wp2
              replace BK174 := am__ (blk_drew BK174.out)
              replace HB := am__ (below_drew1 HB.out)
              have p180 : 0 ≤ (x3_3 : Int) := of_decide_eq_true (by first | (with_reducible assumption) | assumption)
              have q180 : x3_3 < (l0_5.length : Int) := of_decide_eq_true (by first | (with_reducible assumption) | assumption)
              obtain ⟨ad180, e180, hx180_0, hx180_1⟩ := at_T82 HR0_5.out x3_3 p180 q180
              have hw180_1 := hx180_1
              have hw180_0 := hx180_0
              cases e180
              try replace hx180_0 := hb__ HB.out hx180_0
              try replace hx180_1 := hb__ HB.out hx180_1
              replace p180 := eq_true p180
              replace q180 := eq_true q180
              have p186 : 0 ≤ (x3_3 : Int) := of_decide_eq_true (by first | (with_reducible assumption) | assumption)
              have q186 : x3_3 < (l0_5.length : Int) := of_decide_eq_true (by first | (with_reducible assumption) | assumption)
              obtain ⟨ad186, e186, hx186_0, hx186_1⟩ := at_T82 HR0_5.out x3_3 p186 q186
              have hw186_1 := hx186_1
              have hw186_0 := hx186_0
              obtain rfl : ad180 = ad186 := (by injection e186)
              try replace hx186_0 := hb__ HB.out hx186_0
              try replace hx186_1 := hb__ HB.out hx186_1
              replace p186 := eq_true p186
              replace q186 := eq_true q186
              refine st__ 39 (c7a__ BK174.out (cha__ HB.out hw180_0 (cha__ HB.out hw180_1 (cha__ HB.out hw186_0 (che__ HB.out hw186_1))))) fun hHeld => ?_; refine with_tabW spec_ValidState.tab8 spec_ValidState.bits8 (fun HT_ HW_ => ?_)
              generalize wr.drew = w43 at BK174 HB hx180_0 hx180_1 hx186_0 hx186_1 hHeld ⊢
              refine v_ 0 ?_
              refine v_ 2 ?_
              refine t_ 1 ?_
              refine v_ 3 ?_
              refine v_ 4 ?_
              refine t_ 5 ?_
              refine o_ 6 fun K hK => ?_
              refine gs__ Try.func48 #[.string ((rd_T82 l0_5 x3_3).f0)] ?_
              with_reducible refine (spec_l3NameOk.calls k3 ((rd_T82 l0_5 x3_3).f0) true _ A31.out).mono ?_
              rintro e w' ⟨rfl, ⟨nd, rfl⟩⟩
              refine ⟨_, rfl, ?_⟩
              refine hK.out _ _ ⟨bc__ BK174.out 0, bc__ BK174.out 1, bc__ BK174.out 2, bc__ BK174.out 3, bc__ BK174.out 4, bc__ BK174.out 5, bc__ BK174.out 6, (hd__ HB.out hw180_0), (hd__ HB.out hw180_1), (hd__ HB.out hw186_0), (hd__ HB.out hw186_1)⟩ (fun hHeld => ?_)
              clear hK K
              refine na__ 62 ?_
              refine v_ 7 ?_
              refine v_ 8 ?_
              refine v_ 9 ?_
              refine v_ 10 ?_
              refine v_ 11 ?_
              refine u_ 12 ?_
              refine u_ 13 ?_
              refine u_ 14 ?_
              refine u_ 15 ?_
              refine u_ 16 ?_
              refine u_ 17 ?_
              refine u_ 18 ?_
              refine u_ 19 ?_
              refine u_ 20 ?_
              refine u_ 21 ?_
              refine u_ 22 ?_
              refine u_ 23 ?_
              refine u_ 24 ?_
              refine u_ 25 ?_
              refine v_ 26 ?_
              refine v_ 27 ?_
              refine v_ 28 ?_
              refine v_ 30 ?_
              refine v_ 32 ?_
              refine t_ 29 ?_
              refine t_ 31 ?_
              refine v_ 33 ?_
              refine v_ 34 ?_
              refine t_ 35 ?_
              refine o_ 36 fun K hK => ?_
              refine gs__ Try.func49 #[.agg #[.int .i64 a0_0, .int .i64 a0_1, .int .i64 a0_2, .int .i64 a0_3, .slice A0_4 l0_4.length c0_4, .slice (some ad180) l0_5.length c0_5, .slice A0_6 l0_6.length c0_6], .string ((rd_T82 l0_5 x3_3).f1)] ?_
              with_reducible refine (spec_l4Find.calls k3 a0_0 a0_1 a0_2 a0_3 _ _ l0_4 _ _ l0_5 _ _ l0_6 ((rd_T82 l0_5 x3_3).f1) t187 _ ?side1 ?side2 ?side3 ?side4 ?side5 ?side6 A42.out).mono ?_
              (case side1 => repeat (first | exact (Kd.C_below HR0_4.out (bel__)) | (with_reducible refine Kd.C_alloc ?_ _) | (with_reducible refine Kd.C_drewN ?_ _) | (with_reducible refine Kd.C_drew ?_)))
              (case side2 => exact HC0_4.out)
              (case side3 => repeat (first | exact (Kd.C_below HR0_5.out (bel__)) | (with_reducible refine Kd.C_alloc ?_ _) | (with_reducible refine Kd.C_drewN ?_ _) | (with_reducible refine Kd.C_drew ?_)))
              (case side4 => exact HC0_5.out)
              (case side5 => repeat (first | exact (Kd.C_below HR0_6.out (bel__)) | (with_reducible refine Kd.C_alloc ?_ _) | (with_reducible refine Kd.C_drewN ?_ _) | (with_reducible refine Kd.C_drew ?_)))
              (case side6 => exact HC0_6.out)
              rintro e w44 ⟨rfl, hb⟩
              refine ⟨_, rfl, ?_⟩
              replace BK174 := am__ (blb__ BK174.out hb)
              replace HB := am__ (below_step (bel__) hb)
              (try clear hb)
              (try clear hb2)
              (try clear hk)
              (try clear hi)
              refine hK.out _ _ ⟨bc__ BK174.out 0, bc__ BK174.out 1, bc__ BK174.out 2, bc__ BK174.out 3, bc__ BK174.out 4, bc__ BK174.out 5, bc__ BK174.out 6, (hd__ HB.out hw180_0), (hd__ HB.out hw180_1), (hd__ HB.out hw186_0), (hd__ HB.out hw186_1)⟩ (fun hHeld => ?_)
              clear hK K
              refine na__ 92 ?_
              refine v_ 37 ?_
              refine v_ 38 ?_
              refine done_ (done_of HT_.out (by kernel_rfl)) ?_
              try go_wp2
              go_meet
              case rel => exact ⟨_, (decide (t187 < 0)), (rf__), H', ⟨by have := HJ1.out; have := HJ15.out; have := HK3.out; first | omega | exact Nat.le_refl _⟩, ⟨blk__ BK174.out⟩, ⟨bel__⟩⟩
            ·as_aux_lemma =>
             replace c32 := Bool.eq_false_iff.mpr c32
             subst c32
             have H1 : (spec_ValidState.j3 k3 x3_3 true a0_0 a0_1 a0_2 a0_3 l0_4 l0_5 l0_6) = some r := by rw [if_neg (show ¬ (false = true) by decide)] at H; exact H
             clear H
             have H := H1
             clear H1
             have H' := Aside0.mk H
             clear H
             try go_wp2
             replace BK174 := am__ (blk_drew BK174.out)
             replace HB := am__ (below_drew1 HB.out)
             have p180 : 0 ≤ (x3_3 : Int) := of_decide_eq_true (by first | (with_reducible assumption) | assumption)
             have q180 : x3_3 < (l0_5.length : Int) := of_decide_eq_true (by first | (with_reducible assumption) | assumption)
             obtain ⟨ad180, e180, hx180_0, hx180_1⟩ := at_T82 HR0_5.out x3_3 p180 q180
             have hw180_1 := hx180_1
             have hw180_0 := hx180_0
             cases e180
             try replace hx180_0 := hb__ HB.out hx180_0
             try replace hx180_1 := hb__ HB.out hx180_1
             replace p180 := eq_true p180
             replace q180 := eq_true q180
             refine st__ 39 (c7a__ BK174.out (cha__ HB.out hw180_0 (che__ HB.out hw180_1))) fun hHeld => ?_; refine with_tabW spec_ValidState.tab8 spec_ValidState.bits8 (fun HT_ HW_ => ?_)
             generalize wr.drew = w45 at BK174 HB hx180_0 hx180_1 hHeld ⊢
             refine v_ 0 ?_
             refine v_ 2 ?_
             refine t_ 1 ?_
             refine v_ 3 ?_
             refine v_ 4 ?_
             refine t_ 5 ?_
             refine o_ 6 fun K hK => ?_
             refine gs__ Try.func48 #[.string ((rd_T82 l0_5 x3_3).f0)] ?_
             with_reducible refine (spec_l3NameOk.calls k3 ((rd_T82 l0_5 x3_3).f0) false _ A31.out).mono ?_
             rintro e w' ⟨rfl, ⟨nd, rfl⟩⟩
             refine ⟨_, rfl, ?_⟩
             refine hK.out _ _ ⟨bc__ BK174.out 0, bc__ BK174.out 1, bc__ BK174.out 2, bc__ BK174.out 3, bc__ BK174.out 4, bc__ BK174.out 5, bc__ BK174.out 6, (hd__ HB.out hw180_0), (hd__ HB.out hw180_1)⟩ (fun hHeld => ?_)
             clear hK K
             refine na__ 62 ?_
             refine v_ 7 ?_
             refine v_ 8 ?_
             refine u_ 9 ?_
             refine u_ 10 ?_
             refine u_ 11 ?_
             refine u_ 12 ?_
             refine u_ 13 ?_
             refine u_ 14 ?_
             refine u_ 15 ?_
             refine u_ 16 ?_
             refine u_ 17 ?_
             refine u_ 18 ?_
             refine u_ 19 ?_
             refine u_ 20 ?_
             refine u_ 21 ?_
             refine u_ 22 ?_
             refine u_ 23 ?_
             refine u_ 24 ?_
             refine u_ 25 ?_
             refine u_ 26 ?_
             refine v_ 27 ?_
             refine v_ 28 ?_
             refine u_ 29 ?_
             refine u_ 30 ?_
             refine u_ 31 ?_
             refine u_ 32 ?_
             refine u_ 33 ?_
             refine u_ 34 ?_
             refine u_ 35 ?_
             refine u_ 36 ?_
             refine u_ 37 ?_
             refine v_ 38 ?_
             refine done_ (done_of HT_.out (by kernel_rfl)) ?_
             try go_wp2
             go_meet
             case rel => exact ⟨_, (true), (rf__), H', ⟨by have := HJ1.out; have := HJ15.out; have := HK3.out; first | omega | exact Nat.le_refl _⟩, ⟨blk__ BK174.out⟩, ⟨bel__⟩⟩
           ·rw [if_neg c30] at H
            exact absurd H (by simp)
          case rest =>
           clear HC28
           try clear p1
           try clear q1
           try clear hx1
           try clear p2
           try clear c3
           try clear c4
           try clear p18
           try clear q18
           try clear hx18
           try clear c30
           try clear c32
           try clear c33
           try clear c33b0
           try clear c35
           try clear c36
           try clear hx180_0
           try clear hx180_1
           try clear hx186_0
           try clear hx186_1
           try clear p180
           try clear p186
           try clear q180
           try clear q186
           obtain ⟨kq, x94_27, rfl, HA, HJ27, BK174, HB⟩ := hcut
           cases kq with
           | zero => exact absurd HA.out (by simp [spec_ValidState.j3])
           | succ kj27 =>
            have H := HA.out
            clear HA
            simp only [spec_ValidState.j3] at H
            by_cases c46 : x94_27 = true
            ·subst c46
             rw [if_pos rfl] at H
             obtain rfl := Option.some.inj H
             go_wp2
             go_ret
             exact ⟨ee__, bel__⟩
            ·replace c46 := Bool.eq_false_iff.mpr c46
             subst c46
             have H1 : (spec_ValidState.l0 kj27 (wrap64 (x3_3 + 1)) a0_0 a0_1 a0_2 a0_3 l0_4 l0_5 l0_6) = some r := by rw [if_neg (show ¬ (false = true) by decide)] at H; exact H
             clear H
             have H := H1
             clear H1
             have H' := Aside0.mk H
             clear H
             go_wp2
             go_roundg kj27
             case measure => have := HJ1.out; have := HJ15.out; have := HK3.out; have := HJ27.out; omega
             case rel => exact ⟨(wrap64 (x3_3 + 1)), (rf__), H', ⟨by have := HJ1.out; have := HJ15.out; have := HK3.out; have := HJ27.out; omega⟩, ⟨blk__ BK174.out⟩, ⟨bel__⟩⟩
         ·as_aux_lemma =>
          rw [if_neg c27] at H
          have c27b0 := decide_eq_false c27
          clear c27
          have H' := Aside0.mk H
          clear H
          obtain ⟨hcz47_0, hcz47_1, hcz47_2, hcz47_3, hcz47_4, hcz47_5, hcz47_6, hfz47_0, hfz47_1, hfz47_2, hfz47_3, hfz47_4, hfz47_5, hfz47_6⟩ := bk7__ BK174.out
          go_wp2
          go_loopg [4] k3 (fun kq v4 w' => ∃ (x4_4 : Int), v4 = .int .i64 x4_4 ∧ Aside0 (spec_ValidState.l1 kq x4_4 a0_0 a0_1 a0_2 a0_3 l0_4 l0_5 l0_6 = some r) ∧ Aside0 (kq ≤ k3) ∧ Aside0 (w'.heap[gb174]? = some (.cells #[.int .i64 a0_0, .int .i64 a0_1, .int .i64 a0_2, .int .i64 a0_3, (.slice A0_4 l0_4.length c0_4), (.slice A0_5 l0_5.length c0_5), (.slice A0_6 l0_6.length c0_6)] 33 (0, 0))) ∧ Aside0 (Below w.heap.size w w'))
          case atStart => exact ⟨(0), (rf__), H', ⟨Nat.le_refl _⟩, ⟨blk__ BK174.out⟩, ⟨bel__⟩⟩
          case round =>
           as_aux_lemma =>
           clear H'
           try clear p1
           try clear q1
           try clear hx1
           try clear c2
           try clear p2
           try clear c3
           try clear c4
           try clear p6
           try clear p18
           try clear q18
           try clear hx18
           try clear c27
           try clear c27b0
           try clear c30
           try clear c32
           try clear c33
           try clear c33b0
           try clear c35
           try clear c36
           try clear c46
           try clear hcz47_0 hcz47_1 hcz47_2 hcz47_3 hcz47_4 hcz47_5 hcz47_6 hfz47_0 hfz47_1 hfz47_2 hfz47_3 hfz47_4 hfz47_5 hfz47_6
           try clear hx180_0
           try clear hx180_1
           try clear hx186_0
           try clear hx186_1
           try clear p1
           try clear p18
           try clear p180
           try clear p186
           try clear p2
           try clear q1
           try clear q18
           try clear q180
           try clear q186
           obtain ⟨x4_4, rfl, HA, HK4, BK174, HB⟩ := hrel
           cases gk with
           | zero => exact absurd HA.out (by simp [spec_ValidState.l1])
           | succ k4 =>
            have H := HA.out
            clear HA
            simp only [spec_ValidState.l1] at H
            by_cases c48 : x4_4 < (l0_6.length : Int)
            ·as_aux_lemma =>
             rw [if_pos c48] at H
             have c48b0 := decide_eq_true c48
             clear c48
             by_cases c49 : 0 ≤ x4_4
             ·as_aux_lemma =>
              rw [if_pos c49] at H
              have c49b0 := decide_eq_true c49
              clear c49
              have HC50 := Aside0.mk H
              clear H
              obtain ⟨hcz51_0, hcz51_1, hcz51_2, hcz51_3, hcz51_4, hcz51_5, hcz51_6, hfz51_0, hfz51_1, hfz51_2, hfz51_3, hfz51_4, hfz51_5, hfz51_6⟩ := bk7__ BK174.out
              have p188 : 0 ≤ (x4_4 : Int) := of_decide_eq_true (by first | (with_reducible assumption) | assumption)
              have q188 : x4_4 < (l0_6.length : Int) := of_decide_eq_true (by first | (with_reducible assumption) | assumption)
              obtain ⟨ad188, e188, hx188_0, hx188_1, hx188_2⟩ := at_T85 HR0_6.out x4_4 p188 q188
              cases e188
              try replace hx188_0 := hb__ HB.out hx188_0
              try replace hx188_1 := hb__ HB.out hx188_1
              try replace hx188_2 := hb__ HB.out hx188_2
              replace p188 := eq_true p188
              replace q188 := eq_true q188
              go_upto_region 14 with (first | ((with_reducible refine gate_dst (N := 5) rfl ?_); (try (refine gate_guard (by rfl) ?_; dsimp only)); refine be__ 5 #[.int .i64 0, .string (⟨#[]⟩ : ByteArray), .int .i64 0] 85 ?_; intro gb189 hg w52 hbox hb; have BK189 := am__ (hbox); have GW189 := am__ ((bsz__ hg bel__ : w.heap.size ≤ gb189)); have GE189 := am__ ((bsz__ hg bel__ : w.heap.size ≤ gb189)); replace HB := am__ (below_step (bel__) hb); have NB174_189 := am__ ((nl__ hg BK174.out : gb174 ≠ gb189)); have NB189_174 := am__ ((ng__ hg BK174.out : gb189 ≠ gb174)); replace BK174 := am__ (blb__ BK174.out hb); clear hb hbox hg; have hnb53 := NB189_174.out; have hnc53 := NB174_189.out; obtain ⟨hcz54_0, hcz54_1, hcz54_2, hfz54_0, hfz54_1, hfz54_2⟩ := bk3__ BK189.out))
              (try simp only [Act.put, List.setIfInBounds_toArray, List.set_cons_zero, List.set_cons_succ])
              go_cut [150] (fun v150 wc => ∃ (kq : Nat) (x150_49 : Bool), v150 = .bool x150_49 ∧ Aside0 (spec_ValidState.j5 kq x4_4 x150_49 a0_0 a0_1 a0_2 a0_3 l0_4 l0_5 l0_6 = some r) ∧ Aside0 (kq ≤ k4) ∧ Aside0 (wc.heap[gb174]? = some (.cells #[.int .i64 a0_0, .int .i64 a0_1, .int .i64 a0_2, .int .i64 a0_3, (.slice A0_4 l0_4.length c0_4), (.slice A0_5 l0_5.length c0_5), (.slice (some ad188) l0_6.length c0_6)] 33 (0, 0))) ∧ Aside0 (wc.heap[gb189]? = some (.cells #[.int .i64 ((rd_T85 l0_6 x4_4).f0), .string ((rd_T85 l0_6 x4_4).f1), .int .i64 ((rd_T85 l0_6 x4_4).f2)] 85 (0, 0))) ∧ Aside0 (Below w.heap.size w wc))
              case first =>
               as_aux_lemma =>
               have H := HC50.out
               clear HC50
               replace H := Option.bind_eq_some_iff.mp H
               obtain ⟨t190, A550, H⟩ := H
               have A55 := Aside0.mk A550
               clear A550
               by_cases c56 : t190 = true
               ·as_aux_lemma =>
                subst c56
                rw [if_pos rfl] at H
                by_cases c57 : x4_4 > 0
                ·as_aux_lemma =>
                 rw [if_pos c57] at H
                 have c57b0 : decide (0 < x4_4) = true := decide_eq_true c57
                 clear c57
                 (first | rw [c57b0] | (simp only [i64_w, i32_w]; rw [c57b0]) | skip)
                 obtain ⟨ji58, hji58⟩ : ∃ j_ : Int, (wrap64 (x4_4 - 1)) = j_ := ⟨_, rfl⟩
                 first | rw [hji58] at H | simp only [hji58] at H
                 (try rw [hji58] at A55)
                 have hji58w : (IntKind.i64.wrap (x4_4 - 1)) = ji58 := (i64_w _).trans hji58
                 by_cases c59 : 0 ≤ (ji58)
                 ·as_aux_lemma =>
                  rw [if_pos c59] at H
                  have c59b0 := decide_eq_true c59
                  clear c59
                  by_cases c60 : (ji58) < (l0_6.length : Int)
                  ·as_aux_lemma =>
                   rw [if_pos c60] at H
                   have c60b0 := decide_eq_true c60
                   clear c60
                   by_cases c61 : ((rd_T85 l0_6 (ji58)).f0) ≥ ((rd_T85 l0_6 x4_4).f0)
                   ·as_aux_lemma =>
                    rw [if_pos c61] at H
                    have c61b0 : decide (((rd_T85 l0_6 x4_4).f0) ≤ ((rd_T85 l0_6 (ji58)).f0)) = true := decide_eq_true c61
                    clear c61
                    have H' := Aside0.mk H
                    clear H
                    try go_wp2
                    obtain ⟨w62, hw_⟩ : ∃ W_, W_ = (((w52.setCell ⟨gb189, 0, none⟩ (.int .i64 ((rd_T85 l0_6 x4_4).f0))).setCell ⟨gb189, 1, none⟩ (.string ((rd_T85 l0_6 x4_4).f1))).setCell ⟨gb189, 2, none⟩ (.int .i64 ((rd_T85 l0_6 x4_4).f2))) := ⟨_, rfl⟩
                    have n0_ : Aside0 (w62.heap[gb174]? = some (.cells #[.int .i64 a0_0, .int .i64 a0_1, .int .i64 a0_2, .int .i64 a0_3, .slice A0_4 l0_4.length c0_4, .slice A0_5 l0_5.length c0_5, .slice (some ad188) l0_6.length c0_6] 33 (0, 0))) := ⟨by rw [hw_]; exact blf3__ BK174.out⟩
                    have n1_ : Aside0 (w62.heap[gb189]? = some (.cells #[.int .i64 ((rd_T85 l0_6 x4_4).f0), .string ((rd_T85 l0_6 x4_4).f1), .int .i64 ((rd_T85 l0_6 x4_4).f2)] 85 (0, 0))) := ⟨by rw [hw_]; exact bpu__ BK189.out⟩
                    have n2_ : Aside0 (Below w.heap.size w w62) := ⟨by rw [hw_]; exact bel__⟩
                    rw [← hw_]
                    clear hw_
                    replace BK174 := n0_
                    replace BK189 := n1_
                    replace HB := n2_
                    clear n0_ n1_ n2_
                    replace BK174 := am__ (blk_drew BK174.out)
                    replace BK189 := am__ (blk_drew BK189.out)
                    replace HB := am__ (below_drew1 HB.out)
                    have p191 : 0 ≤ ((ji58) : Int) := of_decide_eq_true (by first | (with_reducible assumption) | assumption)
                    have q191 : (ji58) < (l0_6.length : Int) := of_decide_eq_true (by first | (with_reducible assumption) | assumption)
                    obtain ⟨ad191, e191, hx191_0, hx191_1, hx191_2⟩ := at_T85 HR0_6.out (ji58) p191 q191
                    have hw191_2 := hx191_2
                    have hw191_1 := hx191_1
                    have hw191_0 := hx191_0
                    obtain rfl : ad188 = ad191 := (by injection e191)
                    try replace hx191_0 := hb__ HB.out hx191_0
                    try replace hx191_1 := hb__ HB.out hx191_1
                    try replace hx191_2 := hb__ HB.out hx191_2
                    replace p191 := eq_true p191
                    replace q191 := eq_true q191
                    refine st__ 44 (c3a__ BK189.out (c7a__ BK174.out (cha__ HB.out hw191_0 (cha__ HB.out hw191_1 (che__ HB.out hw191_2))))) fun hHeld => ?_; refine with_tabW spec_ValidState.tab14 spec_ValidState.bits14 (fun HT_ HW_ => ?_)
                    generalize w62.drew = w63 at BK174 BK189 HB hx191_0 hx191_1 hx191_2 hHeld ⊢
                    refine v_ 0 ?_
                    refine v_ 2 ?_
                    refine t_ 1 ?_
                    refine t_ 3 ?_
                    refine o_ 4 fun K hK => ?_
                    refine gs__ Try.func46 #[.int .i64 ((rd_T85 l0_6 x4_4).f0), .int .i64 1, .int .i64 a0_2] ?_
                    with_reducible refine (spec_l4Range.calls ((rd_T85 l0_6 x4_4).f0) 1 a0_2 true _ A55.out).mono ?_
                    rintro e w' ⟨rfl, ⟨nd, rfl⟩⟩
                    refine ⟨_, rfl, ?_⟩
                    refine hK.out _ _ ⟨bc__ BK189.out 0, bc__ BK189.out 1, bc__ BK189.out 2, bc__ BK174.out 0, bc__ BK174.out 1, bc__ BK174.out 2, bc__ BK174.out 3, bc__ BK174.out 4, bc__ BK174.out 5, bc__ BK174.out 6, (hd__ HB.out hw191_0), (hd__ HB.out hw191_1), (hd__ HB.out hw191_2)⟩ (fun hHeld => ?_)
                    clear hK K
                    refine na__ 111 ?_
                    refine v_ 5 ?_
                    refine v_ 6 ?_
                    refine v_ 7 ?_
                    refine v_ 8 ?_
                    refine v_ 9 ?_
                    refine v_ 10 ?_
                    refine v_ 12 ?_
                    refine v_ 13 ?_
                    refine v_ 17 ?_
                    refine t_ 11 ?_
                    refine v_ 14 ?_
                    refine v_ 15 ?_
                    refine t_ 16 ?_
                    refine t_ 18 ?_
                    refine v_ 19 ?_
                    refine v_ 20 ?_
                    refine v_ 21 ?_
                    refine v_ 22 ?_
                    refine u_ 23 ?_
                    refine u_ 24 ?_
                    refine u_ 25 ?_
                    refine u_ 26 ?_
                    refine u_ 27 ?_
                    refine v_ 28 ?_
                    refine v_ 29 ?_
                    refine u_ 30 ?_
                    refine u_ 31 ?_
                    refine u_ 32 ?_
                    refine u_ 33 ?_
                    refine u_ 34 ?_
                    refine v_ 35 ?_
                    refine v_ 36 ?_
                    refine u_ 37 ?_
                    refine u_ 38 ?_
                    refine u_ 39 ?_
                    refine u_ 40 ?_
                    refine u_ 41 ?_
                    refine u_ 42 ?_
                    refine v_ 43 ?_
                    refine done_ (done_of HT_.out (by kernel_rfl)) ?_
                    try go_wp2
                    go_meet
                    case rel => exact ⟨_, (true), (rf__), H', ⟨by have := HJ1.out; have := HJ15.out; have := HK3.out; have := HK4.out; first | omega | exact Nat.le_refl _⟩, ⟨blk__ BK174.out⟩, ⟨blk__ BK189.out⟩, ⟨bel__⟩⟩
                   ·as_aux_lemma =>
                    rw [if_neg c61] at H
                    have c61b0 : decide (((rd_T85 l0_6 x4_4).f0) ≤ ((rd_T85 l0_6 (ji58)).f0)) = false := decide_eq_false c61
                    clear c61
                    replace H := Option.bind_eq_some_iff.mp H
                    obtain ⟨t192, A640, H⟩ := H
                    have A64 := Aside0.mk A640
                    clear A640
                    by_cases c65 : t192 < 0
                    ·as_aux_lemma =>
                     rw [if_pos c65] at H
                     have c65b0 := decide_eq_true c65
                     clear c65
                     have H' := Aside0.mk H
                     clear H
                     try go_wp2
                     obtain ⟨w66, hw_⟩ : ∃ W_, W_ = (((w52.setCell ⟨gb189, 0, none⟩ (.int .i64 ((rd_T85 l0_6 x4_4).f0))).setCell ⟨gb189, 1, none⟩ (.string ((rd_T85 l0_6 x4_4).f1))).setCell ⟨gb189, 2, none⟩ (.int .i64 ((rd_T85 l0_6 x4_4).f2))) := ⟨_, rfl⟩
                     have n0_ : Aside0 (w66.heap[gb174]? = some (.cells #[.int .i64 a0_0, .int .i64 a0_1, .int .i64 a0_2, .int .i64 a0_3, .slice A0_4 l0_4.length c0_4, .slice A0_5 l0_5.length c0_5, .slice (some ad188) l0_6.length c0_6] 33 (0, 0))) := ⟨by rw [hw_]; exact blf3__ BK174.out⟩
                     have n1_ : Aside0 (w66.heap[gb189]? = some (.cells #[.int .i64 ((rd_T85 l0_6 x4_4).f0), .string ((rd_T85 l0_6 x4_4).f1), .int .i64 ((rd_T85 l0_6 x4_4).f2)] 85 (0, 0))) := ⟨by rw [hw_]; exact bpu__ BK189.out⟩
                     have n2_ : Aside0 (Below w.heap.size w w66) := ⟨by rw [hw_]; exact bel__⟩
                     rw [← hw_]
                     clear hw_
                     replace BK174 := n0_
                     replace BK189 := n1_
                     replace HB := n2_
                     clear n0_ n1_ n2_
                     replace BK174 := am__ (blk_drew BK174.out)
                     replace BK189 := am__ (blk_drew BK189.out)
                     replace HB := am__ (below_drew1 HB.out)
                     have p191 : 0 ≤ ((ji58) : Int) := of_decide_eq_true (by first | (with_reducible assumption) | assumption)
                     have q191 : (ji58) < (l0_6.length : Int) := of_decide_eq_true (by first | (with_reducible assumption) | assumption)
                     obtain ⟨ad191, e191, hx191_0, hx191_1, hx191_2⟩ := at_T85 HR0_6.out (ji58) p191 q191
                     have hw191_2 := hx191_2
                     have hw191_1 := hx191_1
                     have hw191_0 := hx191_0
                     obtain rfl : ad188 = ad191 := (by injection e191)
                     try replace hx191_0 := hb__ HB.out hx191_0
                     try replace hx191_1 := hb__ HB.out hx191_1
                     try replace hx191_2 := hb__ HB.out hx191_2
                     replace p191 := eq_true p191
                     replace q191 := eq_true q191
                     refine st__ 44 (c3a__ BK189.out (c7a__ BK174.out (cha__ HB.out hw191_0 (cha__ HB.out hw191_1 (che__ HB.out hw191_2))))) fun hHeld => ?_; refine with_tabW spec_ValidState.tab14 spec_ValidState.bits14 (fun HT_ HW_ => ?_)
                     generalize w66.drew = w67 at BK174 BK189 HB hx191_0 hx191_1 hx191_2 hHeld ⊢
                     refine v_ 0 ?_
                     refine v_ 2 ?_
                     refine t_ 1 ?_
                     refine t_ 3 ?_
                     refine o_ 4 fun K hK => ?_
                     refine gs__ Try.func46 #[.int .i64 ((rd_T85 l0_6 x4_4).f0), .int .i64 1, .int .i64 a0_2] ?_
                     with_reducible refine (spec_l4Range.calls ((rd_T85 l0_6 x4_4).f0) 1 a0_2 true _ A55.out).mono ?_
                     rintro e w' ⟨rfl, ⟨nd, rfl⟩⟩
                     refine ⟨_, rfl, ?_⟩
                     refine hK.out _ _ ⟨bc__ BK189.out 0, bc__ BK189.out 1, bc__ BK189.out 2, bc__ BK174.out 0, bc__ BK174.out 1, bc__ BK174.out 2, bc__ BK174.out 3, bc__ BK174.out 4, bc__ BK174.out 5, bc__ BK174.out 6, (hd__ HB.out hw191_0), (hd__ HB.out hw191_1), (hd__ HB.out hw191_2)⟩ (fun hHeld => ?_)
                     clear hK K
                     refine na__ 111 ?_
                     refine v_ 5 ?_
                     refine v_ 6 ?_
                     refine v_ 7 ?_
                     refine v_ 8 ?_
                     refine v_ 9 ?_
                     refine v_ 10 ?_
                     refine v_ 12 ?_
                     refine v_ 13 ?_
                     refine v_ 17 ?_
                     refine t_ 11 ?_
                     refine v_ 14 ?_
                     refine v_ 15 ?_
                     refine t_ 16 ?_
                     refine t_ 18 ?_
                     refine v_ 19 ?_
                     refine v_ 20 ?_
                     refine v_ 21 ?_
                     refine v_ 22 ?_
                     refine v_ 24 ?_
                     refine t_ 23 ?_
                     refine t_ 25 ?_
                     refine o_ 26 fun K hK => ?_
                     refine gs__ Try.func49 #[.agg #[.int .i64 a0_0, .int .i64 a0_1, .int .i64 a0_2, .int .i64 a0_3, .slice A0_4 l0_4.length c0_4, .slice A0_5 l0_5.length c0_5, .slice (some ad188) l0_6.length c0_6], .string ((rd_T85 l0_6 x4_4).f1)] ?_
                     with_reducible refine (spec_l4Find.calls k4 a0_0 a0_1 a0_2 a0_3 _ _ l0_4 _ _ l0_5 _ _ l0_6 ((rd_T85 l0_6 x4_4).f1) t192 _ ?side1 ?side2 ?side3 ?side4 ?side5 ?side6 A64.out).mono ?_
                     (case side1 => repeat (first | exact (Kd.C_below HR0_4.out (bel__)) | (with_reducible refine Kd.C_alloc ?_ _) | (with_reducible refine Kd.C_drewN ?_ _) | (with_reducible refine Kd.C_drew ?_)))
                     (case side2 => exact HC0_4.out)
                     (case side3 => repeat (first | exact (Kd.C_below HR0_5.out (bel__)) | (with_reducible refine Kd.C_alloc ?_ _) | (with_reducible refine Kd.C_drewN ?_ _) | (with_reducible refine Kd.C_drew ?_)))
                     (case side4 => exact HC0_5.out)
                     (case side5 => repeat (first | exact (Kd.C_below HR0_6.out (bel__)) | (with_reducible refine Kd.C_alloc ?_ _) | (with_reducible refine Kd.C_drewN ?_ _) | (with_reducible refine Kd.C_drew ?_)))
                     (case side6 => exact HC0_6.out)
                     rintro e w68 ⟨rfl, hb⟩
                     refine ⟨_, rfl, ?_⟩
                     replace BK174 := am__ (blb__ BK174.out hb)
                     replace BK189 := am__ (blb__ BK189.out hb)
                     replace HB := am__ (below_step (bel__) hb)
                     (try clear hb)
                     (try clear hb2)
                     (try clear hk)
                     (try clear hi)
                     refine hK.out _ _ ⟨bc__ BK189.out 0, bc__ BK189.out 1, bc__ BK189.out 2, bc__ BK174.out 0, bc__ BK174.out 1, bc__ BK174.out 2, bc__ BK174.out 3, bc__ BK174.out 4, bc__ BK174.out 5, bc__ BK174.out 6, (hd__ HB.out hw191_0), (hd__ HB.out hw191_1), (hd__ HB.out hw191_2)⟩ (fun hHeld => ?_)
                     clear hK K
                     refine na__ 133 ?_
                     refine v_ 27 ?_
                     refine v_ 28 ?_
                     refine v_ 29 ?_
                     refine u_ 30 ?_
                     refine u_ 31 ?_
                     refine u_ 32 ?_
                     refine u_ 33 ?_
                     refine u_ 34 ?_
                     refine v_ 35 ?_
                     refine v_ 36 ?_
                     refine u_ 37 ?_
                     refine u_ 38 ?_
                     refine u_ 39 ?_
                     refine u_ 40 ?_
                     refine u_ 41 ?_
                     refine u_ 42 ?_
                     refine v_ 43 ?_
                     refine done_ (done_of HT_.out (by kernel_rfl)) ?_
                     try go_wp2
                     go_meet
                     case rel => exact ⟨_, (true), (rf__), H', ⟨by have := HJ1.out; have := HJ15.out; have := HK3.out; have := HK4.out; first | omega | exact Nat.le_refl _⟩, ⟨blk__ BK174.out⟩, ⟨blk__ BK189.out⟩, ⟨bel__⟩⟩
                    ·as_aux_lemma =>
                     rw [if_neg c65] at H
                     have c65b0 := decide_eq_false c65
                     clear c65
                     by_cases c69 : ((rd_T85 l0_6 x4_4).f2) ≤ a0_1
                     ·as_aux_lemma =>
                      rw [if_pos c69] at H
                      have c69b0 := decide_eq_true c69
                      clear c69
                      have H' := Aside0.mk H
                      clear H
                      try go_wp2
                      obtain ⟨w70, hw_⟩ : ∃ W_, W_ = (((w52.setCell ⟨gb189, 0, none⟩ (.int .i64 ((rd_T85 l0_6 x4_4).f0))).setCell ⟨gb189, 1, none⟩ (.string ((rd_T85 l0_6 x4_4).f1))).setCell ⟨gb189, 2, none⟩ (.int .i64 ((rd_T85 l0_6 x4_4).f2))) := ⟨_, rfl⟩
                      have n0_ : Aside0 (w70.heap[gb174]? = some (.cells #[.int .i64 a0_0, .int .i64 a0_1, .int .i64 a0_2, .int .i64 a0_3, .slice A0_4 l0_4.length c0_4, .slice A0_5 l0_5.length c0_5, .slice (some ad188) l0_6.length c0_6] 33 (0, 0))) := ⟨by rw [hw_]; exact blf3__ BK174.out⟩
                      have n1_ : Aside0 (w70.heap[gb189]? = some (.cells #[.int .i64 ((rd_T85 l0_6 x4_4).f0), .string ((rd_T85 l0_6 x4_4).f1), .int .i64 ((rd_T85 l0_6 x4_4).f2)] 85 (0, 0))) := ⟨by rw [hw_]; exact bpu__ BK189.out⟩
                      have n2_ : Aside0 (Below w.heap.size w w70) := ⟨by rw [hw_]; exact bel__⟩
                      rw [← hw_]
                      clear hw_
                      replace BK174 := n0_
                      replace BK189 := n1_
                      replace HB := n2_
                      clear n0_ n1_ n2_
                      replace BK174 := am__ (blk_drew BK174.out)
                      replace BK189 := am__ (blk_drew BK189.out)
                      replace HB := am__ (below_drew1 HB.out)
                      have p191 : 0 ≤ ((ji58) : Int) := of_decide_eq_true (by first | (with_reducible assumption) | assumption)
                      have q191 : (ji58) < (l0_6.length : Int) := of_decide_eq_true (by first | (with_reducible assumption) | assumption)
                      obtain ⟨ad191, e191, hx191_0, hx191_1, hx191_2⟩ := at_T85 HR0_6.out (ji58) p191 q191
                      have hw191_2 := hx191_2
                      have hw191_1 := hx191_1
                      have hw191_0 := hx191_0
                      obtain rfl : ad188 = ad191 := (by injection e191)
                      try replace hx191_0 := hb__ HB.out hx191_0
                      try replace hx191_1 := hb__ HB.out hx191_1
                      try replace hx191_2 := hb__ HB.out hx191_2
                      replace p191 := eq_true p191
                      replace q191 := eq_true q191
                      refine st__ 44 (c3a__ BK189.out (c7a__ BK174.out (cha__ HB.out hw191_0 (cha__ HB.out hw191_1 (che__ HB.out hw191_2))))) fun hHeld => ?_; refine with_tabW spec_ValidState.tab14 spec_ValidState.bits14 (fun HT_ HW_ => ?_)
                      generalize w70.drew = w71 at BK174 BK189 HB hx191_0 hx191_1 hx191_2 hHeld ⊢
                      refine v_ 0 ?_
                      refine v_ 2 ?_
                      refine t_ 1 ?_
                      refine t_ 3 ?_
                      refine o_ 4 fun K hK => ?_
                      refine gs__ Try.func46 #[.int .i64 ((rd_T85 l0_6 x4_4).f0), .int .i64 1, .int .i64 a0_2] ?_
                      with_reducible refine (spec_l4Range.calls ((rd_T85 l0_6 x4_4).f0) 1 a0_2 true _ A55.out).mono ?_
                      rintro e w' ⟨rfl, ⟨nd, rfl⟩⟩
                      refine ⟨_, rfl, ?_⟩
                      refine hK.out _ _ ⟨bc__ BK189.out 0, bc__ BK189.out 1, bc__ BK189.out 2, bc__ BK174.out 0, bc__ BK174.out 1, bc__ BK174.out 2, bc__ BK174.out 3, bc__ BK174.out 4, bc__ BK174.out 5, bc__ BK174.out 6, (hd__ HB.out hw191_0), (hd__ HB.out hw191_1), (hd__ HB.out hw191_2)⟩ (fun hHeld => ?_)
                      clear hK K
                      refine na__ 111 ?_
                      refine v_ 5 ?_
                      refine v_ 6 ?_
                      refine v_ 7 ?_
                      refine v_ 8 ?_
                      refine v_ 9 ?_
                      refine v_ 10 ?_
                      refine v_ 12 ?_
                      refine v_ 13 ?_
                      refine v_ 17 ?_
                      refine t_ 11 ?_
                      refine v_ 14 ?_
                      refine v_ 15 ?_
                      refine t_ 16 ?_
                      refine t_ 18 ?_
                      refine v_ 19 ?_
                      refine v_ 20 ?_
                      refine v_ 21 ?_
                      refine v_ 22 ?_
                      refine v_ 24 ?_
                      refine t_ 23 ?_
                      refine t_ 25 ?_
                      refine o_ 26 fun K hK => ?_
                      refine gs__ Try.func49 #[.agg #[.int .i64 a0_0, .int .i64 a0_1, .int .i64 a0_2, .int .i64 a0_3, .slice A0_4 l0_4.length c0_4, .slice A0_5 l0_5.length c0_5, .slice (some ad188) l0_6.length c0_6], .string ((rd_T85 l0_6 x4_4).f1)] ?_
                      with_reducible refine (spec_l4Find.calls k4 a0_0 a0_1 a0_2 a0_3 _ _ l0_4 _ _ l0_5 _ _ l0_6 ((rd_T85 l0_6 x4_4).f1) t192 _ ?side1 ?side2 ?side3 ?side4 ?side5 ?side6 A64.out).mono ?_
                      (case side1 => repeat (first | exact (Kd.C_below HR0_4.out (bel__)) | (with_reducible refine Kd.C_alloc ?_ _) | (with_reducible refine Kd.C_drewN ?_ _) | (with_reducible refine Kd.C_drew ?_)))
                      (case side2 => exact HC0_4.out)
                      (case side3 => repeat (first | exact (Kd.C_below HR0_5.out (bel__)) | (with_reducible refine Kd.C_alloc ?_ _) | (with_reducible refine Kd.C_drewN ?_ _) | (with_reducible refine Kd.C_drew ?_)))
                      (case side4 => exact HC0_5.out)
                      (case side5 => repeat (first | exact (Kd.C_below HR0_6.out (bel__)) | (with_reducible refine Kd.C_alloc ?_ _) | (with_reducible refine Kd.C_drewN ?_ _) | (with_reducible refine Kd.C_drew ?_)))
                      (case side6 => exact HC0_6.out)
                      rintro e w72 ⟨rfl, hb⟩
                      refine ⟨_, rfl, ?_⟩
                      replace BK174 := am__ (blb__ BK174.out hb)
                      replace BK189 := am__ (blb__ BK189.out hb)
                      replace HB := am__ (below_step (bel__) hb)
                      (try clear hb)
                      (try clear hb2)
                      (try clear hk)
                      (try clear hi)
                      refine hK.out _ _ ⟨bc__ BK189.out 0, bc__ BK189.out 1, bc__ BK189.out 2, bc__ BK174.out 0, bc__ BK174.out 1, bc__ BK174.out 2, bc__ BK174.out 3, bc__ BK174.out 4, bc__ BK174.out 5, bc__ BK174.out 6, (hd__ HB.out hw191_0), (hd__ HB.out hw191_1), (hd__ HB.out hw191_2)⟩ (fun hHeld => ?_)
                      clear hK K
                      refine na__ 133 ?_
                      refine v_ 27 ?_
                      refine v_ 28 ?_
                      refine v_ 29 ?_
                      refine v_ 30 ?_
                      refine v_ 32 ?_
                      refine t_ 31 ?_
                      refine t_ 33 ?_
                      refine v_ 34 ?_
                      refine v_ 35 ?_
                      refine v_ 36 ?_
                      refine u_ 37 ?_
                      refine u_ 38 ?_
                      refine u_ 39 ?_
                      refine u_ 40 ?_
                      refine u_ 41 ?_
                      refine u_ 42 ?_
                      refine v_ 43 ?_
                      refine done_ (done_of HT_.out (by kernel_rfl)) ?_
                      try go_wp2
                      go_meet
                      case rel => exact ⟨_, (true), (rf__), H', ⟨by have := HJ1.out; have := HJ15.out; have := HK3.out; have := HK4.out; first | omega | exact Nat.le_refl _⟩, ⟨blk__ BK174.out⟩, ⟨blk__ BK189.out⟩, ⟨bel__⟩⟩
                     ·as_aux_lemma =>
                      rw [if_neg c69] at H
                      have c69b0 := decide_eq_false c69
                      clear c69
                      have H' := Aside0.mk H
                      clear H
                      try go_wp2
                      obtain ⟨w73, hw_⟩ : ∃ W_, W_ = (((w52.setCell ⟨gb189, 0, none⟩ (.int .i64 ((rd_T85 l0_6 x4_4).f0))).setCell ⟨gb189, 1, none⟩ (.string ((rd_T85 l0_6 x4_4).f1))).setCell ⟨gb189, 2, none⟩ (.int .i64 ((rd_T85 l0_6 x4_4).f2))) := ⟨_, rfl⟩
                      have n0_ : Aside0 (w73.heap[gb174]? = some (.cells #[.int .i64 a0_0, .int .i64 a0_1, .int .i64 a0_2, .int .i64 a0_3, .slice A0_4 l0_4.length c0_4, .slice A0_5 l0_5.length c0_5, .slice (some ad188) l0_6.length c0_6] 33 (0, 0))) := ⟨by rw [hw_]; exact blf3__ BK174.out⟩
                      have n1_ : Aside0 (w73.heap[gb189]? = some (.cells #[.int .i64 ((rd_T85 l0_6 x4_4).f0), .string ((rd_T85 l0_6 x4_4).f1), .int .i64 ((rd_T85 l0_6 x4_4).f2)] 85 (0, 0))) := ⟨by rw [hw_]; exact bpu__ BK189.out⟩
                      have n2_ : Aside0 (Below w.heap.size w w73) := ⟨by rw [hw_]; exact bel__⟩
                      rw [← hw_]
                      clear hw_
                      replace BK174 := n0_
                      replace BK189 := n1_
                      replace HB := n2_
                      clear n0_ n1_ n2_
                      replace BK174 := am__ (blk_drew BK174.out)
                      replace BK189 := am__ (blk_drew BK189.out)
                      replace HB := am__ (below_drew1 HB.out)
                      have p191 : 0 ≤ ((ji58) : Int) := of_decide_eq_true (by first | (with_reducible assumption) | assumption)
                      have q191 : (ji58) < (l0_6.length : Int) := of_decide_eq_true (by first | (with_reducible assumption) | assumption)
                      obtain ⟨ad191, e191, hx191_0, hx191_1, hx191_2⟩ := at_T85 HR0_6.out (ji58) p191 q191
                      have hw191_2 := hx191_2
                      have hw191_1 := hx191_1
                      have hw191_0 := hx191_0
                      obtain rfl : ad188 = ad191 := (by injection e191)
                      try replace hx191_0 := hb__ HB.out hx191_0
                      try replace hx191_1 := hb__ HB.out hx191_1
                      try replace hx191_2 := hb__ HB.out hx191_2
                      replace p191 := eq_true p191
                      replace q191 := eq_true q191
                      refine st__ 44 (c3a__ BK189.out (c7a__ BK174.out (cha__ HB.out hw191_0 (cha__ HB.out hw191_1 (che__ HB.out hw191_2))))) fun hHeld => ?_; refine with_tabW spec_ValidState.tab14 spec_ValidState.bits14 (fun HT_ HW_ => ?_)
                      generalize w73.drew = w74 at BK174 BK189 HB hx191_0 hx191_1 hx191_2 hHeld ⊢
                      refine v_ 0 ?_
                      refine v_ 2 ?_
                      refine t_ 1 ?_
                      refine t_ 3 ?_
                      refine o_ 4 fun K hK => ?_
                      refine gs__ Try.func46 #[.int .i64 ((rd_T85 l0_6 x4_4).f0), .int .i64 1, .int .i64 a0_2] ?_
                      with_reducible refine (spec_l4Range.calls ((rd_T85 l0_6 x4_4).f0) 1 a0_2 true _ A55.out).mono ?_
                      rintro e w' ⟨rfl, ⟨nd, rfl⟩⟩
                      refine ⟨_, rfl, ?_⟩
                      refine hK.out _ _ ⟨bc__ BK189.out 0, bc__ BK189.out 1, bc__ BK189.out 2, bc__ BK174.out 0, bc__ BK174.out 1, bc__ BK174.out 2, bc__ BK174.out 3, bc__ BK174.out 4, bc__ BK174.out 5, bc__ BK174.out 6, (hd__ HB.out hw191_0), (hd__ HB.out hw191_1), (hd__ HB.out hw191_2)⟩ (fun hHeld => ?_)
                      clear hK K
                      refine na__ 111 ?_
                      refine v_ 5 ?_
                      refine v_ 6 ?_
                      refine v_ 7 ?_
                      refine v_ 8 ?_
                      refine v_ 9 ?_
                      refine v_ 10 ?_
                      refine v_ 12 ?_
                      refine v_ 13 ?_
                      refine v_ 17 ?_
                      refine t_ 11 ?_
                      refine v_ 14 ?_
                      refine v_ 15 ?_
                      refine t_ 16 ?_
                      refine t_ 18 ?_
                      refine v_ 19 ?_
                      refine v_ 20 ?_
                      refine v_ 21 ?_
                      refine v_ 22 ?_
                      refine v_ 24 ?_
                      refine t_ 23 ?_
                      refine t_ 25 ?_
                      refine o_ 26 fun K hK => ?_
                      refine gs__ Try.func49 #[.agg #[.int .i64 a0_0, .int .i64 a0_1, .int .i64 a0_2, .int .i64 a0_3, .slice A0_4 l0_4.length c0_4, .slice A0_5 l0_5.length c0_5, .slice (some ad188) l0_6.length c0_6], .string ((rd_T85 l0_6 x4_4).f1)] ?_
                      with_reducible refine (spec_l4Find.calls k4 a0_0 a0_1 a0_2 a0_3 _ _ l0_4 _ _ l0_5 _ _ l0_6 ((rd_T85 l0_6 x4_4).f1) t192 _ ?side1 ?side2 ?side3 ?side4 ?side5 ?side6 A64.out).mono ?_
                      (case side1 => repeat (first | exact (Kd.C_below HR0_4.out (bel__)) | (with_reducible refine Kd.C_alloc ?_ _) | (with_reducible refine Kd.C_drewN ?_ _) | (with_reducible refine Kd.C_drew ?_)))
                      (case side2 => exact HC0_4.out)
                      (case side3 => repeat (first | exact (Kd.C_below HR0_5.out (bel__)) | (with_reducible refine Kd.C_alloc ?_ _) | (with_reducible refine Kd.C_drewN ?_ _) | (with_reducible refine Kd.C_drew ?_)))
                      (case side4 => exact HC0_5.out)
                      (case side5 => repeat (first | exact (Kd.C_below HR0_6.out (bel__)) | (with_reducible refine Kd.C_alloc ?_ _) | (with_reducible refine Kd.C_drewN ?_ _) | (with_reducible refine Kd.C_drew ?_)))
                      (case side6 => exact HC0_6.out)
                      rintro e w75 ⟨rfl, hb⟩
                      refine ⟨_, rfl, ?_⟩
                      replace BK174 := am__ (blb__ BK174.out hb)
                      replace BK189 := am__ (blb__ BK189.out hb)
                      replace HB := am__ (below_step (bel__) hb)
                      (try clear hb)
                      (try clear hb2)
                      (try clear hk)
                      (try clear hi)
                      refine hK.out _ _ ⟨bc__ BK189.out 0, bc__ BK189.out 1, bc__ BK189.out 2, bc__ BK174.out 0, bc__ BK174.out 1, bc__ BK174.out 2, bc__ BK174.out 3, bc__ BK174.out 4, bc__ BK174.out 5, bc__ BK174.out 6, (hd__ HB.out hw191_0), (hd__ HB.out hw191_1), (hd__ HB.out hw191_2)⟩ (fun hHeld => ?_)
                      clear hK K
                      refine na__ 133 ?_
                      refine v_ 27 ?_
                      refine v_ 28 ?_
                      refine v_ 29 ?_
                      refine v_ 30 ?_
                      refine v_ 32 ?_
                      refine t_ 31 ?_
                      refine t_ 33 ?_
                      refine v_ 34 ?_
                      refine v_ 35 ?_
                      refine v_ 36 ?_
                      refine v_ 37 ?_
                      refine v_ 39 ?_
                      refine t_ 38 ?_
                      refine t_ 40 ?_
                      refine v_ 41 ?_
                      refine v_ 42 ?_
                      refine v_ 43 ?_
                      refine done_ (done_of HT_.out (by kernel_rfl)) ?_
                      try go_wp2
                      go_meet
                      case rel => exact ⟨_, (decide (((rd_T85 l0_6 x4_4).f2) > (wrap64 (a0_1 + 100000)))), (rf__), H', ⟨by have := HJ1.out; have := HJ15.out; have := HK3.out; have := HK4.out; first | omega | exact Nat.le_refl _⟩, ⟨blk__ BK174.out⟩, ⟨blk__ BK189.out⟩, ⟨bel__⟩⟩
                  ·rw [if_neg c60] at H
                   exact absurd H (by simp)
                 ·rw [if_neg c59] at H
                  exact absurd H (by simp)
                ·as_aux_lemma =>
                 rw [if_neg c57] at H
                 have c57b0 : decide (0 < x4_4) = false := decide_eq_false c57
                 clear c57
                 (first | rw [c57b0] | (simp only [i64_w, i32_w]; rw [c57b0]) | skip)
                 replace H := Option.bind_eq_some_iff.mp H
                 obtain ⟨t193, A760, H⟩ := H
                 have A76 := Aside0.mk A760
                 clear A760
                 by_cases c77 : t193 < 0
                 ·as_aux_lemma =>
                  rw [if_pos c77] at H
                  have c77b0 := decide_eq_true c77
                  clear c77
                  have H' := Aside0.mk H
                  clear H
                  try go_wp2
                  obtain ⟨w78, hw_⟩ : ∃ W_, W_ = (((w52.setCell ⟨gb189, 0, none⟩ (.int .i64 ((rd_T85 l0_6 x4_4).f0))).setCell ⟨gb189, 1, none⟩ (.string ((rd_T85 l0_6 x4_4).f1))).setCell ⟨gb189, 2, none⟩ (.int .i64 ((rd_T85 l0_6 x4_4).f2))) := ⟨_, rfl⟩
                  have n0_ : Aside0 (w78.heap[gb174]? = some (.cells #[.int .i64 a0_0, .int .i64 a0_1, .int .i64 a0_2, .int .i64 a0_3, .slice A0_4 l0_4.length c0_4, .slice A0_5 l0_5.length c0_5, .slice (some ad188) l0_6.length c0_6] 33 (0, 0))) := ⟨by rw [hw_]; exact blf3__ BK174.out⟩
                  have n1_ : Aside0 (w78.heap[gb189]? = some (.cells #[.int .i64 ((rd_T85 l0_6 x4_4).f0), .string ((rd_T85 l0_6 x4_4).f1), .int .i64 ((rd_T85 l0_6 x4_4).f2)] 85 (0, 0))) := ⟨by rw [hw_]; exact bpu__ BK189.out⟩
                  have n2_ : Aside0 (Below w.heap.size w w78) := ⟨by rw [hw_]; exact bel__⟩
                  rw [← hw_]
                  clear hw_
                  replace BK174 := n0_
                  replace BK189 := n1_
                  replace HB := n2_
                  clear n0_ n1_ n2_
                  replace BK174 := am__ (blk_drew BK174.out)
                  replace BK189 := am__ (blk_drew BK189.out)
                  replace HB := am__ (below_drew1 HB.out)
                  refine st__ 44 (c3a__ BK189.out (c7e__ BK174.out)) fun hHeld => ?_; refine with_tabW spec_ValidState.tab14 spec_ValidState.bits14 (fun HT_ HW_ => ?_)
                  generalize w78.drew = w79 at BK174 BK189 HB hHeld ⊢
                  refine v_ 0 ?_
                  refine v_ 2 ?_
                  refine t_ 1 ?_
                  refine t_ 3 ?_
                  refine o_ 4 fun K hK => ?_
                  refine gs__ Try.func46 #[.int .i64 ((rd_T85 l0_6 x4_4).f0), .int .i64 1, .int .i64 a0_2] ?_
                  with_reducible refine (spec_l4Range.calls ((rd_T85 l0_6 x4_4).f0) 1 a0_2 true _ A55.out).mono ?_
                  rintro e w' ⟨rfl, ⟨nd, rfl⟩⟩
                  refine ⟨_, rfl, ?_⟩
                  refine hK.out _ _ ⟨bc__ BK189.out 0, bc__ BK189.out 1, bc__ BK189.out 2, bc__ BK174.out 0, bc__ BK174.out 1, bc__ BK174.out 2, bc__ BK174.out 3, bc__ BK174.out 4, bc__ BK174.out 5, bc__ BK174.out 6⟩ (fun hHeld => ?_)
                  clear hK K
                  refine na__ 111 ?_
                  refine v_ 5 ?_
                  refine v_ 6 ?_
                  refine v_ 7 ?_
                  refine v_ 8 ?_
                  refine v_ 9 ?_
                  refine u_ 10 ?_
                  refine u_ 11 ?_
                  refine u_ 12 ?_
                  refine u_ 13 ?_
                  refine u_ 14 ?_
                  refine u_ 15 ?_
                  refine u_ 16 ?_
                  refine u_ 17 ?_
                  refine u_ 18 ?_
                  refine u_ 19 ?_
                  refine v_ 20 ?_
                  refine v_ 21 ?_
                  refine v_ 22 ?_
                  refine v_ 24 ?_
                  refine t_ 23 ?_
                  refine t_ 25 ?_
                  refine o_ 26 fun K hK => ?_
                  refine gs__ Try.func49 #[.agg #[.int .i64 a0_0, .int .i64 a0_1, .int .i64 a0_2, .int .i64 a0_3, .slice A0_4 l0_4.length c0_4, .slice A0_5 l0_5.length c0_5, .slice (some ad188) l0_6.length c0_6], .string ((rd_T85 l0_6 x4_4).f1)] ?_
                  with_reducible refine (spec_l4Find.calls k4 a0_0 a0_1 a0_2 a0_3 _ _ l0_4 _ _ l0_5 _ _ l0_6 ((rd_T85 l0_6 x4_4).f1) t193 _ ?side1 ?side2 ?side3 ?side4 ?side5 ?side6 A76.out).mono ?_
                  (case side1 => repeat (first | exact (Kd.C_below HR0_4.out (bel__)) | (with_reducible refine Kd.C_alloc ?_ _) | (with_reducible refine Kd.C_drewN ?_ _) | (with_reducible refine Kd.C_drew ?_)))
                  (case side2 => exact HC0_4.out)
                  (case side3 => repeat (first | exact (Kd.C_below HR0_5.out (bel__)) | (with_reducible refine Kd.C_alloc ?_ _) | (with_reducible refine Kd.C_drewN ?_ _) | (with_reducible refine Kd.C_drew ?_)))
                  (case side4 => exact HC0_5.out)
                  (case side5 => repeat (first | exact (Kd.C_below HR0_6.out (bel__)) | (with_reducible refine Kd.C_alloc ?_ _) | (with_reducible refine Kd.C_drewN ?_ _) | (with_reducible refine Kd.C_drew ?_)))
                  (case side6 => exact HC0_6.out)
                  rintro e w80 ⟨rfl, hb⟩
                  refine ⟨_, rfl, ?_⟩
                  replace BK174 := am__ (blb__ BK174.out hb)
                  replace BK189 := am__ (blb__ BK189.out hb)
                  replace HB := am__ (below_step (bel__) hb)
                  (try clear hb)
                  (try clear hb2)
                  (try clear hk)
                  (try clear hi)
                  refine hK.out _ _ ⟨bc__ BK189.out 0, bc__ BK189.out 1, bc__ BK189.out 2, bc__ BK174.out 0, bc__ BK174.out 1, bc__ BK174.out 2, bc__ BK174.out 3, bc__ BK174.out 4, bc__ BK174.out 5, bc__ BK174.out 6⟩ (fun hHeld => ?_)
                  clear hK K
                  refine na__ 133 ?_
                  refine v_ 27 ?_
                  refine v_ 28 ?_
                  refine v_ 29 ?_
                  refine u_ 30 ?_
                  refine u_ 31 ?_
                  refine u_ 32 ?_
                  refine u_ 33 ?_
                  refine u_ 34 ?_
                  refine v_ 35 ?_
                  refine v_ 36 ?_
                  refine u_ 37 ?_
                  refine u_ 38 ?_
                  refine u_ 39 ?_
                  refine u_ 40 ?_
                  refine u_ 41 ?_
                  refine u_ 42 ?_
                  refine v_ 43 ?_
                  refine done_ (done_of HT_.out (by kernel_rfl)) ?_
                  try go_wp2
                  go_meet
                  case rel => exact ⟨_, (true), (rf__), H', ⟨by have := HJ1.out; have := HJ15.out; have := HK3.out; have := HK4.out; first | omega | exact Nat.le_refl _⟩, ⟨blk__ BK174.out⟩, ⟨blk__ BK189.out⟩, ⟨bel__⟩⟩
                 ·as_aux_lemma =>
                  rw [if_neg c77] at H
                  have c77b0 := decide_eq_false c77
                  clear c77
                  by_cases c81 : ((rd_T85 l0_6 x4_4).f2) ≤ a0_1
                  ·as_aux_lemma =>
                   rw [if_pos c81] at H
                   have c81b0 := decide_eq_true c81
                   clear c81
                   have H' := Aside0.mk H
                   clear H
                   try go_wp2
                   obtain ⟨w82, hw_⟩ : ∃ W_, W_ = (((w52.setCell ⟨gb189, 0, none⟩ (.int .i64 ((rd_T85 l0_6 x4_4).f0))).setCell ⟨gb189, 1, none⟩ (.string ((rd_T85 l0_6 x4_4).f1))).setCell ⟨gb189, 2, none⟩ (.int .i64 ((rd_T85 l0_6 x4_4).f2))) := ⟨_, rfl⟩
                   have n0_ : Aside0 (w82.heap[gb174]? = some (.cells #[.int .i64 a0_0, .int .i64 a0_1, .int .i64 a0_2, .int .i64 a0_3, .slice A0_4 l0_4.length c0_4, .slice A0_5 l0_5.length c0_5, .slice (some ad188) l0_6.length c0_6] 33 (0, 0))) := ⟨by rw [hw_]; exact blf3__ BK174.out⟩
                   have n1_ : Aside0 (w82.heap[gb189]? = some (.cells #[.int .i64 ((rd_T85 l0_6 x4_4).f0), .string ((rd_T85 l0_6 x4_4).f1), .int .i64 ((rd_T85 l0_6 x4_4).f2)] 85 (0, 0))) := ⟨by rw [hw_]; exact bpu__ BK189.out⟩
                   have n2_ : Aside0 (Below w.heap.size w w82) := ⟨by rw [hw_]; exact bel__⟩
                   rw [← hw_]
                   clear hw_
                   replace BK174 := n0_
                   replace BK189 := n1_
                   replace HB := n2_
                   clear n0_ n1_ n2_
                   replace BK174 := am__ (blk_drew BK174.out)
                   replace BK189 := am__ (blk_drew BK189.out)
                   replace HB := am__ (below_drew1 HB.out)
                   refine st__ 44 (c3a__ BK189.out (c7e__ BK174.out)) fun hHeld => ?_; refine with_tabW spec_ValidState.tab14 spec_ValidState.bits14 (fun HT_ HW_ => ?_)
                   generalize w82.drew = w83 at BK174 BK189 HB hHeld ⊢
                   refine v_ 0 ?_
                   refine v_ 2 ?_
                   refine t_ 1 ?_
                   refine t_ 3 ?_
                   refine o_ 4 fun K hK => ?_
                   refine gs__ Try.func46 #[.int .i64 ((rd_T85 l0_6 x4_4).f0), .int .i64 1, .int .i64 a0_2] ?_
                   with_reducible refine (spec_l4Range.calls ((rd_T85 l0_6 x4_4).f0) 1 a0_2 true _ A55.out).mono ?_
                   rintro e w' ⟨rfl, ⟨nd, rfl⟩⟩
                   refine ⟨_, rfl, ?_⟩
                   refine hK.out _ _ ⟨bc__ BK189.out 0, bc__ BK189.out 1, bc__ BK189.out 2, bc__ BK174.out 0, bc__ BK174.out 1, bc__ BK174.out 2, bc__ BK174.out 3, bc__ BK174.out 4, bc__ BK174.out 5, bc__ BK174.out 6⟩ (fun hHeld => ?_)
                   clear hK K
                   refine na__ 111 ?_
                   refine v_ 5 ?_
                   refine v_ 6 ?_
                   refine v_ 7 ?_
                   refine v_ 8 ?_
                   refine v_ 9 ?_
                   refine u_ 10 ?_
                   refine u_ 11 ?_
                   refine u_ 12 ?_
                   refine u_ 13 ?_
                   refine u_ 14 ?_
                   refine u_ 15 ?_
                   refine u_ 16 ?_
                   refine u_ 17 ?_
                   refine u_ 18 ?_
                   refine u_ 19 ?_
                   refine v_ 20 ?_
                   refine v_ 21 ?_
                   refine v_ 22 ?_
                   refine v_ 24 ?_
                   refine t_ 23 ?_
                   refine t_ 25 ?_
                   refine o_ 26 fun K hK => ?_
                   refine gs__ Try.func49 #[.agg #[.int .i64 a0_0, .int .i64 a0_1, .int .i64 a0_2, .int .i64 a0_3, .slice A0_4 l0_4.length c0_4, .slice A0_5 l0_5.length c0_5, .slice (some ad188) l0_6.length c0_6], .string ((rd_T85 l0_6 x4_4).f1)] ?_
                   with_reducible refine (spec_l4Find.calls k4 a0_0 a0_1 a0_2 a0_3 _ _ l0_4 _ _ l0_5 _ _ l0_6 ((rd_T85 l0_6 x4_4).f1) t193 _ ?side1 ?side2 ?side3 ?side4 ?side5 ?side6 A76.out).mono ?_
                   (case side1 => repeat (first | exact (Kd.C_below HR0_4.out (bel__)) | (with_reducible refine Kd.C_alloc ?_ _) | (with_reducible refine Kd.C_drewN ?_ _) | (with_reducible refine Kd.C_drew ?_)))
                   (case side2 => exact HC0_4.out)
                   (case side3 => repeat (first | exact (Kd.C_below HR0_5.out (bel__)) | (with_reducible refine Kd.C_alloc ?_ _) | (with_reducible refine Kd.C_drewN ?_ _) | (with_reducible refine Kd.C_drew ?_)))
                   (case side4 => exact HC0_5.out)
                   (case side5 => repeat (first | exact (Kd.C_below HR0_6.out (bel__)) | (with_reducible refine Kd.C_alloc ?_ _) | (with_reducible refine Kd.C_drewN ?_ _) | (with_reducible refine Kd.C_drew ?_)))
                   (case side6 => exact HC0_6.out)
                   rintro e w84 ⟨rfl, hb⟩
                   refine ⟨_, rfl, ?_⟩
                   replace BK174 := am__ (blb__ BK174.out hb)
                   replace BK189 := am__ (blb__ BK189.out hb)
                   replace HB := am__ (below_step (bel__) hb)
                   (try clear hb)
                   (try clear hb2)
                   (try clear hk)
                   (try clear hi)
                   refine hK.out _ _ ⟨bc__ BK189.out 0, bc__ BK189.out 1, bc__ BK189.out 2, bc__ BK174.out 0, bc__ BK174.out 1, bc__ BK174.out 2, bc__ BK174.out 3, bc__ BK174.out 4, bc__ BK174.out 5, bc__ BK174.out 6⟩ (fun hHeld => ?_)
                   clear hK K
                   refine na__ 133 ?_
                   refine v_ 27 ?_
                   refine v_ 28 ?_
                   refine v_ 29 ?_
                   refine v_ 30 ?_
                   refine v_ 32 ?_
                   refine t_ 31 ?_
                   refine t_ 33 ?_
                   refine v_ 34 ?_
                   refine v_ 35 ?_
                   refine v_ 36 ?_
                   refine u_ 37 ?_
                   refine u_ 38 ?_
                   refine u_ 39 ?_
                   refine u_ 40 ?_
                   refine u_ 41 ?_
                   refine u_ 42 ?_
                   refine v_ 43 ?_
                   refine done_ (done_of HT_.out (by kernel_rfl)) ?_
                   try go_wp2
                   go_meet
                   case rel => exact ⟨_, (true), (rf__), H', ⟨by have := HJ1.out; have := HJ15.out; have := HK3.out; have := HK4.out; first | omega | exact Nat.le_refl _⟩, ⟨blk__ BK174.out⟩, ⟨blk__ BK189.out⟩, ⟨bel__⟩⟩
                  ·as_aux_lemma =>
                   rw [if_neg c81] at H
                   have c81b0 := decide_eq_false c81
                   clear c81
                   have H' := Aside0.mk H
                   clear H
                   try go_wp2
                   obtain ⟨w85, hw_⟩ : ∃ W_, W_ = (((w52.setCell ⟨gb189, 0, none⟩ (.int .i64 ((rd_T85 l0_6 x4_4).f0))).setCell ⟨gb189, 1, none⟩ (.string ((rd_T85 l0_6 x4_4).f1))).setCell ⟨gb189, 2, none⟩ (.int .i64 ((rd_T85 l0_6 x4_4).f2))) := ⟨_, rfl⟩
                   have n0_ : Aside0 (w85.heap[gb174]? = some (.cells #[.int .i64 a0_0, .int .i64 a0_1, .int .i64 a0_2, .int .i64 a0_3, .slice A0_4 l0_4.length c0_4, .slice A0_5 l0_5.length c0_5, .slice (some ad188) l0_6.length c0_6] 33 (0, 0))) := ⟨by rw [hw_]; exact blf3__ BK174.out⟩
                   have n1_ : Aside0 (w85.heap[gb189]? = some (.cells #[.int .i64 ((rd_T85 l0_6 x4_4).f0), .string ((rd_T85 l0_6 x4_4).f1), .int .i64 ((rd_T85 l0_6 x4_4).f2)] 85 (0, 0))) := ⟨by rw [hw_]; exact bpu__ BK189.out⟩
                   have n2_ : Aside0 (Below w.heap.size w w85) := ⟨by rw [hw_]; exact bel__⟩
                   rw [← hw_]
                   clear hw_
                   replace BK174 := n0_
                   replace BK189 := n1_
                   replace HB := n2_
                   clear n0_ n1_ n2_
                   replace BK174 := am__ (blk_drew BK174.out)
                   replace BK189 := am__ (blk_drew BK189.out)
                   replace HB := am__ (below_drew1 HB.out)
                   refine st__ 44 (c3a__ BK189.out (c7e__ BK174.out)) fun hHeld => ?_; refine with_tabW spec_ValidState.tab14 spec_ValidState.bits14 (fun HT_ HW_ => ?_)
                   generalize w85.drew = w86 at BK174 BK189 HB hHeld ⊢
                   refine v_ 0 ?_
                   refine v_ 2 ?_
                   refine t_ 1 ?_
                   refine t_ 3 ?_
                   refine o_ 4 fun K hK => ?_
                   refine gs__ Try.func46 #[.int .i64 ((rd_T85 l0_6 x4_4).f0), .int .i64 1, .int .i64 a0_2] ?_
                   with_reducible refine (spec_l4Range.calls ((rd_T85 l0_6 x4_4).f0) 1 a0_2 true _ A55.out).mono ?_
                   rintro e w' ⟨rfl, ⟨nd, rfl⟩⟩
                   refine ⟨_, rfl, ?_⟩
                   refine hK.out _ _ ⟨bc__ BK189.out 0, bc__ BK189.out 1, bc__ BK189.out 2, bc__ BK174.out 0, bc__ BK174.out 1, bc__ BK174.out 2, bc__ BK174.out 3, bc__ BK174.out 4, bc__ BK174.out 5, bc__ BK174.out 6⟩ (fun hHeld => ?_)
                   clear hK K
                   refine na__ 111 ?_
                   refine v_ 5 ?_
                   refine v_ 6 ?_
                   refine v_ 7 ?_
                   refine v_ 8 ?_
                   refine v_ 9 ?_
                   refine u_ 10 ?_
                   refine u_ 11 ?_
                   refine u_ 12 ?_
                   refine u_ 13 ?_
                   refine u_ 14 ?_
                   refine u_ 15 ?_
                   refine u_ 16 ?_
                   refine u_ 17 ?_
                   refine u_ 18 ?_
                   refine u_ 19 ?_
                   refine v_ 20 ?_
                   refine v_ 21 ?_
                   refine v_ 22 ?_
                   refine v_ 24 ?_
                   refine t_ 23 ?_
                   refine t_ 25 ?_
                   refine o_ 26 fun K hK => ?_
                   refine gs__ Try.func49 #[.agg #[.int .i64 a0_0, .int .i64 a0_1, .int .i64 a0_2, .int .i64 a0_3, .slice A0_4 l0_4.length c0_4, .slice A0_5 l0_5.length c0_5, .slice (some ad188) l0_6.length c0_6], .string ((rd_T85 l0_6 x4_4).f1)] ?_
                   with_reducible refine (spec_l4Find.calls k4 a0_0 a0_1 a0_2 a0_3 _ _ l0_4 _ _ l0_5 _ _ l0_6 ((rd_T85 l0_6 x4_4).f1) t193 _ ?side1 ?side2 ?side3 ?side4 ?side5 ?side6 A76.out).mono ?_
                   (case side1 => repeat (first | exact (Kd.C_below HR0_4.out (bel__)) | (with_reducible refine Kd.C_alloc ?_ _) | (with_reducible refine Kd.C_drewN ?_ _) | (with_reducible refine Kd.C_drew ?_)))
                   (case side2 => exact HC0_4.out)
                   (case side3 => repeat (first | exact (Kd.C_below HR0_5.out (bel__)) | (with_reducible refine Kd.C_alloc ?_ _) | (with_reducible refine Kd.C_drewN ?_ _) | (with_reducible refine Kd.C_drew ?_)))
                   (case side4 => exact HC0_5.out)
                   (case side5 => repeat (first | exact (Kd.C_below HR0_6.out (bel__)) | (with_reducible refine Kd.C_alloc ?_ _) | (with_reducible refine Kd.C_drewN ?_ _) | (with_reducible refine Kd.C_drew ?_)))
                   (case side6 => exact HC0_6.out)
                   rintro e w87 ⟨rfl, hb⟩
                   refine ⟨_, rfl, ?_⟩
                   replace BK174 := am__ (blb__ BK174.out hb)
                   replace BK189 := am__ (blb__ BK189.out hb)
                   replace HB := am__ (below_step (bel__) hb)
                   (try clear hb)
                   (try clear hb2)
                   (try clear hk)
                   (try clear hi)
                   refine hK.out _ _ ⟨bc__ BK189.out 0, bc__ BK189.out 1, bc__ BK189.out 2, bc__ BK174.out 0, bc__ BK174.out 1, bc__ BK174.out 2, bc__ BK174.out 3, bc__ BK174.out 4, bc__ BK174.out 5, bc__ BK174.out 6⟩ (fun hHeld => ?_)
                   clear hK K
                   refine na__ 133 ?_
                   refine v_ 27 ?_
                   refine v_ 28 ?_
                   refine v_ 29 ?_
                   refine v_ 30 ?_
                   refine v_ 32 ?_
                   refine t_ 31 ?_
                   refine t_ 33 ?_
                   refine v_ 34 ?_
                   refine v_ 35 ?_
                   refine v_ 36 ?_
                   refine v_ 37 ?_
                   refine v_ 39 ?_
                   refine t_ 38 ?_
                   refine t_ 40 ?_
                   refine v_ 41 ?_
                   refine v_ 42 ?_
                   refine v_ 43 ?_
                   refine done_ (done_of HT_.out (by kernel_rfl)) ?_
                   try go_wp2
                   go_meet
                   case rel => exact ⟨_, (decide (((rd_T85 l0_6 x4_4).f2) > (wrap64 (a0_1 + 100000)))), (rf__), H', ⟨by have := HJ1.out; have := HJ15.out; have := HK3.out; have := HK4.out; first | omega | exact Nat.le_refl _⟩, ⟨blk__ BK174.out⟩, ⟨blk__ BK189.out⟩, ⟨bel__⟩⟩
               ·as_aux_lemma =>
                replace c56 := Bool.eq_false_iff.mpr c56
                subst c56
                have H1 : (spec_ValidState.j5 k4 x4_4 true a0_0 a0_1 a0_2 a0_3 l0_4 l0_5 l0_6) = some r := by rw [if_neg (show ¬ (false = true) by decide)] at H; exact H
                clear H
                have H := H1
                clear H1
                have H' := Aside0.mk H
                clear H
                try go_wp2
                obtain ⟨w88, hw_⟩ : ∃ W_, W_ = (((w52.setCell ⟨gb189, 0, none⟩ (.int .i64 ((rd_T85 l0_6 x4_4).f0))).setCell ⟨gb189, 1, none⟩ (.string ((rd_T85 l0_6 x4_4).f1))).setCell ⟨gb189, 2, none⟩ (.int .i64 ((rd_T85 l0_6 x4_4).f2))) := ⟨_, rfl⟩
                have n0_ : Aside0 (w88.heap[gb174]? = some (.cells #[.int .i64 a0_0, .int .i64 a0_1, .int .i64 a0_2, .int .i64 a0_3, .slice A0_4 l0_4.length c0_4, .slice A0_5 l0_5.length c0_5, .slice (some ad188) l0_6.length c0_6] 33 (0, 0))) := ⟨by rw [hw_]; exact blf3__ BK174.out⟩
                have n1_ : Aside0 (w88.heap[gb189]? = some (.cells #[.int .i64 ((rd_T85 l0_6 x4_4).f0), .string ((rd_T85 l0_6 x4_4).f1), .int .i64 ((rd_T85 l0_6 x4_4).f2)] 85 (0, 0))) := ⟨by rw [hw_]; exact bpu__ BK189.out⟩
                have n2_ : Aside0 (Below w.heap.size w w88) := ⟨by rw [hw_]; exact bel__⟩
                rw [← hw_]
                clear hw_
                replace BK174 := n0_
                replace BK189 := n1_
                replace HB := n2_
                clear n0_ n1_ n2_
                replace BK174 := am__ (blk_drew BK174.out)
                replace BK189 := am__ (blk_drew BK189.out)
                replace HB := am__ (below_drew1 HB.out)
                refine st__ 44 (c3a__ BK189.out (c7e__ BK174.out)) fun hHeld => ?_; refine with_tabW spec_ValidState.tab14 spec_ValidState.bits14 (fun HT_ HW_ => ?_)
                generalize w88.drew = w89 at BK174 BK189 HB hHeld ⊢
                refine v_ 0 ?_
                refine v_ 2 ?_
                refine t_ 1 ?_
                refine t_ 3 ?_
                refine o_ 4 fun K hK => ?_
                refine gs__ Try.func46 #[.int .i64 ((rd_T85 l0_6 x4_4).f0), .int .i64 1, .int .i64 a0_2] ?_
                with_reducible refine (spec_l4Range.calls ((rd_T85 l0_6 x4_4).f0) 1 a0_2 false _ A55.out).mono ?_
                rintro e w' ⟨rfl, ⟨nd, rfl⟩⟩
                refine ⟨_, rfl, ?_⟩
                refine hK.out _ _ ⟨bc__ BK189.out 0, bc__ BK189.out 1, bc__ BK189.out 2, bc__ BK174.out 0, bc__ BK174.out 1, bc__ BK174.out 2, bc__ BK174.out 3, bc__ BK174.out 4, bc__ BK174.out 5, bc__ BK174.out 6⟩ (fun hHeld => ?_)
                clear hK K
                refine na__ 111 ?_
                refine v_ 5 ?_
                refine v_ 6 ?_
                refine u_ 7 ?_
                refine u_ 8 ?_
                refine u_ 9 ?_
                refine u_ 10 ?_
                refine u_ 11 ?_
                refine u_ 12 ?_
                refine u_ 13 ?_
                refine u_ 14 ?_
                refine u_ 15 ?_
                refine u_ 16 ?_
                refine u_ 17 ?_
                refine u_ 18 ?_
                refine u_ 19 ?_
                refine u_ 20 ?_
                refine v_ 21 ?_
                refine v_ 22 ?_
                refine u_ 23 ?_
                refine u_ 24 ?_
                refine u_ 25 ?_
                refine u_ 26 ?_
                refine u_ 27 ?_
                refine v_ 28 ?_
                refine v_ 29 ?_
                refine u_ 30 ?_
                refine u_ 31 ?_
                refine u_ 32 ?_
                refine u_ 33 ?_
                refine u_ 34 ?_
                refine v_ 35 ?_
                refine v_ 36 ?_
                refine u_ 37 ?_
                refine u_ 38 ?_
                refine u_ 39 ?_
                refine u_ 40 ?_
                refine u_ 41 ?_
                refine u_ 42 ?_
                refine v_ 43 ?_
                refine done_ (done_of HT_.out (by kernel_rfl)) ?_
                try go_wp2
                go_meet
                case rel => exact ⟨_, (true), (rf__), H', ⟨by have := HJ1.out; have := HJ15.out; have := HK3.out; have := HK4.out; first | omega | exact Nat.le_refl _⟩, ⟨blk__ BK174.out⟩, ⟨blk__ BK189.out⟩, ⟨bel__⟩⟩
              case rest =>
               clear HC50
               try clear p2
               try clear c4
               try clear c5
               try clear p6
               try clear c46
               try clear c49
               try clear c56
               try clear p64
               obtain ⟨kq, x150_49, rfl, HA, HJ49, BK174, BK189, HB⟩ := hcut
               cases kq with
               | zero => exact absurd HA.out (by simp [spec_ValidState.j5])
               | succ kj49 =>
                have H := HA.out
                clear HA
                simp only [spec_ValidState.j5] at H
                by_cases c90 : x150_49 = true
                ·subst c90
                 rw [if_pos rfl] at H
                 obtain rfl := Option.some.inj H
                 go_wp2
                 go_ret
                 exact ⟨ee__, bel__⟩
                ·replace c90 := Bool.eq_false_iff.mpr c90
                 subst c90
                 have H1 : (spec_ValidState.l1 kj49 (wrap64 (x4_4 + 1)) a0_0 a0_1 a0_2 a0_3 l0_4 l0_5 l0_6) = some r := by rw [if_neg (show ¬ (false = true) by decide)] at H; exact H
                 clear H
                 have H := H1
                 clear H1
                 have H' := Aside0.mk H
                 clear H
                 go_wp2
                 go_roundg kj49
                 case measure => have := HJ1.out; have := HJ15.out; have := HK3.out; have := HK4.out; have := HJ49.out; omega
                 case rel => exact ⟨(wrap64 (x4_4 + 1)), (rf__), H', ⟨by have := HJ1.out; have := HJ15.out; have := HK3.out; have := HK4.out; have := HJ49.out; omega⟩, ⟨blk__ BK174.out⟩, ⟨bel__⟩⟩
             ·rw [if_neg c49] at H
              exact absurd H (by simp)
            ·rw [if_neg c48] at H
             have c48b0 := decide_eq_false c48
             clear c48
             obtain rfl := Option.some.inj H
             obtain ⟨hcz91_0, hcz91_1, hcz91_2, hcz91_3, hcz91_4, hcz91_5, hcz91_6, hfz91_0, hfz91_1, hfz91_2, hfz91_3, hfz91_4, hfz91_5, hfz91_6⟩ := bk7__ BK174.out
             go_wp2
             go_ret
             exact ⟨ee__, bel__⟩
end Go.Proofs.Ytcijlemojododaa.P
