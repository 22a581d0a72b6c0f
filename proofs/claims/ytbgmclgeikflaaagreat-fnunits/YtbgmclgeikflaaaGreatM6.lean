/- Plain laws over the walks' closed forms. -/
import Derived.Test.YtbgmclgeikflaaaGreatM1
import Derived.Test.YtbgmclgeikflaaaGreatM2
import Derived.Test.YtbgmclgeikflaaaGreatM3
import Derived.Test.YtbgmclgeikflaaaGreatM4
import Derived.Test.YtbgmclgeikflaaaGreatM5
set_option linter.unusedSimpArgs false
set_option linter.unusedVariables false
set_option linter.unusedSectionVars false
section
namespace KV
open Go Go.Eng
open Classical
theorem put_1 (x : Bs) (a : List Bs) (p t at_ r : Int) (m : Rw) (ha : a.length ≤ 1000000) : Lqc0 none [.s x, .m (setM a), .i p, .l m, .i t, .i at_, .i r, .l (encS a)] = some [.m (setM (addU a x)), .i p, .l m, .i t, .i at_, .i r, .l (encS (addU a x))] := by
  rw [eqc0_i, mostE]
  unfold addU
  by_cases h : x ∈ a
  · rw [if_pos h]; simp (disch := omega) only [push_cast, inM, decide_eq_true h]
  · rw [if_neg h, ← encS_app]; simp (disch := omega) only [push_cast, inM, decide_eq_false h, mput_setM x a h]; rfl
def encNx (r : Round) (d : Bs) : Lv := [.i r.phase, .l (encS r.marked), .i r.top, .i r.at_, .i r.rounds, .s d, .b true, .l (encS r.queue)]
theorem zbp {s : State} (V : VS s) {r : Round} (h : RoundOk s.width s.births r) : Lqf none (encR r ++ encSt s) = some (if r.rounds = 1000000000 then [.i 0, .l [], .i 0, .i 0, .i 0, .s E0, .b false, .l []] else encNx (unitM s r).1 (unitM s r).2) := by
  show Lqf none [.i r.phase, .l (encS r.queue), .l (encS r.marked), .i r.top, .i r.at_, .i r.rounds, .i s.width, .i s.now, .i s.given, .i s.births, .l (encK s.things), .l (encP s.pins), .l (encL s.leases)] = _
  have n1 := V.nT; have n2 := V.nP; have n3 := V.nL; have hb := V.births; have hq := h.nQ; have hm := h.nM; have hrd := h.rds
  have hcr := zb1 r (by omega) (by omega)
  have hcr' : Lqcz none [.i r.phase, .l (encS r.queue), .l (encS r.marked), .i r.top, .i r.at_, .i r.rounds] = some [.i r.phase, .i r.top, .i r.at_, .i r.rounds, .l (encS r.queue), .l (encS r.marked)] := hcr
  rw [eqf_i, mostE]
  by_cases hr : r.rounds = 1000000000
  · rw [if_pos hr]; simp (disch := omega) only [push_cast, hcr']
  rw [if_neg hr]
  by_cases h0 : r.phase = 0
  · have hrest := h.rest h0
    have : unitM s r = (⟨1, rootsM s, r.marked, s.births, s.births + 1, r.rounds⟩, E0) := by unfold unitM; rw [if_pos h0]
    rw [this]
    have l2 : ∀ a : List Bs, a.length ≤ 500000 → Lqf (some 14) [.l (encL s.leases), .i (s.leases.length : Int), .i 0, .i 0, .i 0, .i 0, .i 0, .i 1, .l (encS r.marked), .i s.births, .i (s.births + 1), .i r.rounds, .l [], .l [], .l (encS a), .m (setM a)] = some (encNx ⟨1, (s.leases.map (·.sum)).foldl addU a, r.marked, s.births, s.births + 1, r.rounds⟩ E0) := by
      intro a0 ha0
      exact inv_loop (f := fun (i : Nat) (a : List Bs) => Lqf (some 14) [.l (encL s.leases), .i (s.leases.length : Int), .i (i : Int), .i 0, .i 0, .i 0, .i 0, .i 1, .l (encS r.marked), .i s.births, .i (s.births + 1), .i r.rounds, .l [], .l [], .l (encS a), .m (setM a)]) (n := s.leases.length)
        (I := fun i a => a = ((s.leases.map (·.sum)).take i).foldl addU a0) (fun i a hi hI => ⟨addU a (nth L0 s.leases i).sum, by
          show Lqf _ _ = Lqf _ _
          have hl : a.length ≤ 500000 + i := by rw [hI]; have := foldU_len ((s.leases.map (·.sum)).take i) a0; rw [List.length_take] at this; omega
          rw [eqf_14]
          simp (disch := omega) only [push_cast, put_1 (nth L0 s.leases i).sum a 1 s.births (s.births + 1) r.rounds (encS r.marked) (by omega)] <;> rfl, by
          show addU a _ = _
          rw [take_fold _ _ _ (by rw [List.length_map]; exact hi), hI, nthL_sum _ _ hi]⟩) (fun a hI => by
          show Lqf _ _ = _
          rw [eqf_14]
          simp (disch := omega) only [push_cast]
          rw [hI, List.take_of_length_le (by rw [List.length_map]; exact Nat.le_refl _)]; rfl) 0 a0 (Nat.zero_le _) rfl
    have l1 := inv_loop (f := fun (i : Nat) (a : List Bs) => Lqf (some 9) [.l (encP s.pins), .i (s.pins.length : Int), .i (i : Int), .i s.width, .i s.now, .i s.given, .i s.births, .l (encK s.things), .l (encP s.pins), .l (encL s.leases), .i 0, .i 0, .i 0, .i 0, .i 1, .l (encS r.marked), .i s.births, .i (s.births + 1), .i r.rounds, .l [], .l [], .l (encS a), .m (setM a)]) (n := s.pins.length) (T := some (encNx ⟨1, rootsM s, r.marked, s.births, s.births + 1, r.rounds⟩ E0))
        (I := fun i a => a = ((s.pins.map (·.sum)).take i).foldl addU []) (fun i a hi hI => ⟨addU a (nth P0 s.pins i).sum, by
          show Lqf _ _ = Lqf _ _
          have hl : a.length ≤ i := by rw [hI]; have := foldU_len ((s.pins.map (·.sum)).take i) []; rw [List.length_take] at this; simp at this; omega
          rw [eqf_9]
          simp (disch := omega) only [push_cast, put_1 (nth P0 s.pins i).sum a 1 s.births (s.births + 1) r.rounds (encS r.marked) (by omega)] <;> rfl, by
          show addU a _ = _
          rw [take_fold _ _ _ (by rw [List.length_map]; exact hi), hI, nthP_sum _ _ hi]⟩) (fun a hI => by
          show Lqf _ _ = _
          have hl : a.length ≤ s.pins.length := by rw [hI]; have := foldU_len ((s.pins.map (·.sum)).take s.pins.length) []; rw [List.length_take] at this; simp at this; omega
          rw [eqf_9]
          simp (disch := omega) only [push_cast]
          refine (l2 a (by omega)).trans ?_
          unfold rootsM
          rw [hI, List.take_of_length_le (by rw [List.length_map]; exact Nat.le_refl _)]) 0 [] (Nat.zero_le _) rfl
    have l1' : Lqf (some 9) [.l (encP s.pins), .i (s.pins.length : Int), .i 0, .i s.width, .i s.now, .i s.given, .i s.births, .l (encK s.things), .l (encP s.pins), .l (encL s.leases), .i 0, .i 0, .i 0, .i 0, .i 1, .l (encS r.marked), .i s.births, .i (s.births + 1), .i r.rounds, .l [], .l [], .l [], .m []] = _ := l1
    rw [hrest.1] at hcr' ⊢
    simp (disch := omega) only [push_cast, hcr']
    exact l1'
  cases hqq : r.queue with
  | cons x q =>
    rw [hqq] at hq hcr'
    simp only [List.length_cons] at hq
    have hsub : Eng.sub (encS (x :: q)) 1 (q.length + 1) = encS q := by rw [encS_sub]; simp
    have hx0 : (rd (encS (x :: q)) 0 0).str = x := rfl
    by_cases c1 : hasT s.things x
    rotate_left
    · have : unitM s r = (⟨r.phase, q, r.marked, r.top, r.at_, r.rounds⟩, E0) := by unfold unitM; rw [if_neg h0, hqq]; simp only; rw [if_neg fun h => c1 h.1]
      rw [this]
      simp (disch := omega) only [push_cast, hcr', hsub, hx0, zf _ _ _ _ s.things _ _ x V.srtT (by omega), decide_eq_false c1]; rfl
    by_cases c2 : x ∈ r.marked
    · have : unitM s r = (⟨r.phase, q, r.marked, r.top, r.at_, r.rounds⟩, E0) := by unfold unitM; rw [if_neg h0, hqq]; simp only; rw [if_neg fun h => h.2 c2]
      rw [this]
      simp (disch := omega) only [push_cast, hcr', hsub, hx0, zf _ _ _ _ s.things _ _ x V.srtT (by omega), decide_eq_true c1, zo r.marked x (by omega), decide_eq_true c2]; rfl
    have : unitM s r = (⟨r.phase, q ++ (nth K0 s.things (lb (qK x) s.things)).thing.refs.filter fun y => !decide (y ∈ r.marked ++ [x]), r.marked ++ [x], r.top, r.at_, r.rounds⟩, E0) := by unfold unitM; rw [if_neg h0, hqq]; simp only; rw [if_pos ⟨c1, c2⟩]
    rw [this]
    have hlt := ((hasT_iff V.srtT x).1 c1).1
    have hrl := (V.okT _ (nth_mem (d := K0) hlt)).1.refs
    have hml : (r.marked ++ [x]).length ≤ 4611686018427387904 := by rw [List.length_append]; simp; omega
    have lp := inv_loop (f := fun (i : Nat) (a : List Bs) => Lqf (some 26) [.l (encS (nth K0 s.things (lb (qK x) s.things)).thing.refs), .i ((nth K0 s.things (lb (qK x) s.things)).thing.refs.length : Int), .i (i : Int), .i 0, .i 0, .i 0, .i 0, .i r.phase, .i r.top, .i r.at_, .i r.rounds, .l [], .l [], .l (encS a), .l (encS (r.marked ++ [x]))])
      (n := (nth K0 s.things (lb (qK x) s.things)).thing.refs.length) (T := some (encNx ⟨r.phase, q ++ (nth K0 s.things (lb (qK x) s.things)).thing.refs.filter fun y => !decide (y ∈ r.marked ++ [x]), r.marked ++ [x], r.top, r.at_, r.rounds⟩ E0))
      (I := fun i a => a = q ++ ((nth K0 s.things (lb (qK x) s.things)).thing.refs.take i).filter fun y => !decide (y ∈ r.marked ++ [x])) (fun i a hi hI => ⟨a ++ (if nth .empty (nth K0 s.things (lb (qK x) s.things)).thing.refs i ∈ r.marked ++ [x] then [] else [nth .empty (nth K0 s.things (lb (qK x) s.things)).thing.refs i]), by
        show Lqf _ _ = Lqf _ _
        have ha : a.length ≤ 24000 := by
          rw [hI, List.length_append]
          have := List.length_filter_le (fun y => !decide (y ∈ r.marked ++ [x])) ((nth K0 s.things (lb (qK x) s.things)).thing.refs.take i)
          rw [List.length_take] at this; omega
        rw [eqf_26, mostE]
        by_cases hc : nth .empty (nth K0 s.things (lb (qK x) s.things)).thing.refs i ∈ r.marked ++ [x]
        · rw [if_pos hc, List.append_nil]; simp (disch := omega) only [push_cast, zo _ (nth .empty (nth K0 s.things (lb (qK x) s.things)).thing.refs i) hml, decide_eq_true hc]
        · rw [if_neg hc, ← encS_app a]; simp (disch := omega) only [push_cast, zo _ (nth .empty (nth K0 s.things (lb (qK x) s.things)).thing.refs i) hml, decide_eq_false hc] <;> rfl, by
        show a ++ _ = _
        rw [filt_step _ _ _ hi, hI, List.append_assoc]⟩) (fun a hI => by
        show Lqf _ _ = _
        rw [eqf_26]
        simp (disch := omega) only [push_cast]
        rw [hI, List.take_length]; rfl) 0 q (Nat.zero_le _) (by simp)
    simp (disch := omega) only [push_cast, hcr', hsub, hx0, zf _ _ _ _ s.things _ _ x V.srtT (by omega), decide_eq_true c1, zo r.marked x (by omega), decide_eq_false c2]
    rw [encS_one, encS_app]
    exact lp
  | nil =>
    rw [hqq] at hcr'
    have hu : unitM s r = if bestT s.things r.at_ < 0 then (⟨0, [], [], 0, 0, r.rounds + 1⟩, E0)
      else (⟨2, [], r.marked, r.top, (nth K0 s.things (bestT s.things r.at_).toNat).born, r.rounds⟩, if (nth K0 s.things (bestT s.things r.at_).toNat).sum ∈ r.marked ∨ held s (nth K0 s.things (bestT s.things r.at_).toNat).sum ∨ isRef s.things (nth K0 s.things (bestT s.things r.at_).toNat).sum then E0 else (nth K0 s.things (bestT s.things r.at_).toNat).sum) := by
      unfold unitM; rw [if_neg h0, hqq]
    rw [hu]
    have lp := inv_loop (f := fun (i : Nat) (b : Int) => Lqf (some 35) [.i b, .l (encK s.things), .i (s.things.length : Int), .i (i : Int), .i s.width, .i s.now, .i s.given, .i s.births, .l (encK s.things), .l (encP s.pins), .l (encL s.leases), .i r.phase, .l (encS []), .l (encS r.marked), .i r.top, .i r.at_, .i r.rounds, .i 0, .i 0, .i 0, .i 0, .i 2, .i r.top, .i r.at_, .i r.rounds, .l [], .l [], .l (encS []), .l (encS r.marked)]) (n := s.things.length)
      (T := some (encNx (if bestT s.things r.at_ < 0 then ((⟨0, [], [], 0, 0, r.rounds + 1⟩ : Round), E0)
      else (⟨2, [], r.marked, r.top, (nth K0 s.things (bestT s.things r.at_).toNat).born, r.rounds⟩, if (nth K0 s.things (bestT s.things r.at_).toNat).sum ∈ r.marked ∨ held s (nth K0 s.things (bestT s.things r.at_).toNat).sum ∨ isRef s.things (nth K0 s.things (bestT s.things r.at_).toNat).sum then E0 else (nth K0 s.things (bestT s.things r.at_).toNat).sum)).1 (if bestT s.things r.at_ < 0 then ((⟨0, [], [], 0, 0, r.rounds + 1⟩ : Round), E0)
      else (⟨2, [], r.marked, r.top, (nth K0 s.things (bestT s.things r.at_).toNat).born, r.rounds⟩, if (nth K0 s.things (bestT s.things r.at_).toNat).sum ∈ r.marked ∨ held s (nth K0 s.things (bestT s.things r.at_).toNat).sum ∨ isRef s.things (nth K0 s.things (bestT s.things r.at_).toNat).sum then E0 else (nth K0 s.things (bestT s.things r.at_).toNat).sum)).2))
      (I := fun i b => b = bestI s.things r.at_ i) (fun i b hi hI => ⟨bestI s.things r.at_ (i + 1), by
        show Lqf _ _ = Lqf _ _
        have hb := bestI_lt s.things r.at_ i
        rw [eqf_35]
        simp only [bestI]
        rw [← hI] at hb ⊢
        by_cases c1 : (nth K0 s.things i).born < r.at_
        rotate_left; · rw [if_neg fun h => c1 h.1]; simp (disch := omega) only [push_cast]
        by_cases c2 : b < 0
        · rw [if_pos ⟨c1, .inl c2⟩]; simp (disch := omega) only [push_cast]
        by_cases c3 : (nth K0 s.things b.toNat).born < (nth K0 s.things i).born
        · rw [if_pos ⟨c1, .inr c3⟩]; simp (disch := omega) only [push_cast]
        · rw [if_neg fun h => h.2.elim c2 c3]; simp (disch := omega) only [push_cast], rfl⟩) (fun b hI => by
        show Lqf _ _ = _
        have hbl := bestI_lt s.things r.at_ s.things.length
        rw [← hI] at hbl
        rw [show bestT s.things r.at_ = b from hI.symm, eqf_35]
        by_cases c1 : b < 0
        · rw [if_pos c1]; simp (disch := omega) only [push_cast]; rfl
        rw [if_neg c1]
        obtain ⟨n, rfl⟩ : ∃ n : Nat, b = n := ⟨b.toNat, by omega⟩
        have hnl : n < s.things.length := by omega
        have hh := zbj s (nth K0 s.things n).sum (by omega) (by omega)
        have hi := zbk s.width s.now s.given s.births s.things (encP s.pins) (encL s.leases) (nth K0 s.things n).sum (by omega) (fun k hk => by have := (V.okT k hk).1.refs; omega)
        have hh' : Lqy none [.s (nth K0 s.things n).sum, .i s.width, .i s.now, .i s.given, .i s.births, .l (encK s.things), .l (encP s.pins), .l (encL s.leases)] = _ := hh
        by_cases c2 : (nth K0 s.things n).sum ∈ r.marked
        · simp (disch := omega) only [push_cast, zo r.marked (nth K0 s.things n).sum (by omega), decide_eq_true c2]
          rw [if_pos (Or.inl c2)]; rfl
        by_cases c3 : held s (nth K0 s.things n).sum
        · simp (disch := omega) only [push_cast, zo r.marked (nth K0 s.things n).sum (by omega), decide_eq_false c2, hh', decide_eq_true c3]
          rw [if_pos (Or.inr (Or.inl c3))]; rfl
        by_cases c4 : isRef s.things (nth K0 s.things n).sum
        · simp (disch := omega) only [push_cast, zo r.marked (nth K0 s.things n).sum (by omega), decide_eq_false c2, hh', decide_eq_false c3, hi, decide_eq_true c4]
          rw [if_pos (Or.inr (Or.inr c4))]; rfl
        · simp (disch := omega) only [push_cast, zo r.marked (nth K0 s.things n).sum (by omega), decide_eq_false c2, hh', decide_eq_false c3, hi, decide_eq_false c4]
          rw [if_neg fun h => h.elim c2 fun h => h.elim c3 c4]; rfl) 0 (-1) (Nat.zero_le _) rfl
    simp (disch := omega) only [push_cast, hcr']
    exact lp
end KV
end
section
namespace KV
open Go Go.Eng
open Classical
def eDrop (x : Bs) : Entry := ⟨7, x, E0, 0, ⟨E0, []⟩⟩
theorem unit_drop {s : State} {r : Round} (V : VS s) (h : (unitM s r).2 ≠ E0) : hasT s.things (unitM s r).2 ∧ ¬ held s (unitM s r).2 ∧ ¬ isRef s.things (unitM s r).2 ∧ (unitM s r).2 ∉ r.marked ∧ r.phase ≠ 0 ∧ r.queue = [] := by
  unfold unitM at h ⊢
  split at h
  · exact absurd rfl h
  · rename_i h0
    rw [if_neg h0]
    split at h
    · split at h <;> exact absurd rfl h
    · rename_i hq
      split at h
      · exact absurd rfl h
      · rename_i hb
        rw [if_neg hb]
        simp only at h ⊢
        have hbl := bestI_lt s.things r.at_ s.things.length
        have hbt : bestI s.things r.at_ s.things.length = bestT s.things r.at_ := rfl
        rw [hbt] at hbl
        split at h
        · exact absurd rfl h
        · rename_i hc
          rw [if_neg hc]
          have hm := nth_mem (d := K0) (show (bestT s.things r.at_).toNat < s.things.length by omega)
          exact ⟨⟨_, hm, rfl⟩, fun h => hc (.inr (.inl h)), fun h => hc (.inr (.inr h)), fun h => hc (.inl h), h0, hq⟩
theorem drop_entry {s : State} {x : Bs} (V : VS s) (h1 : hasT s.things x) (h2 : ¬ held s x) (h3 : ¬ isRef s.things x) : x ≠ E0 ∧ entryB (eDrop x) s.width = true ∧ (chg s (eDrop x)).code = 0 ∧ (chg s (eDrop x)).st = stepSt s x := by
  obtain ⟨k, hk, rfl⟩ := h1
  have hne := V.sumNe hk
  have hsz : (k.sum.size : Int) = s.width := by rw [(V.okT k hk).2.1]; exact sumM_width V.wd
  have hw : widthB s.width = true := widthB_iff.2 V.wd
  refine ⟨hne, ?_, ?_, ?_⟩
  · have a1 : sumB 7 k.sum s.width = true := by
      unfold sumB; rw [if_pos (show uS 7 = true from rfl)]; exact decide_eq_true hsz
    have a2 : namB 7 E0 = true := by
      unfold namB; rw [if_neg (by decide)]; exact decide_eq_true rfl
    have a3 : thgB 7 ⟨E0, []⟩ s.width = true := by
      unfold thgB; rw [if_neg (by decide)]; rw [decide_eq_true (p := (E0 : Bs) = E0) rfl]; rfl
    show entryB ⟨7, k.sum, E0, 0, ⟨E0, []⟩⟩ s.width = true
    unfold entryB
    simp only
    rw [hw, a1, a2, a3]; rfl
  all_goals
    unfold chg
    rw [if_neg (show ¬ (eDrop k.sum).kind = 1 from (by show ¬ (7 : Int) = 1; omega)), if_neg (show ¬ (eDrop k.sum).kind = 2 from (by show ¬ (7 : Int) = 2; omega)), if_neg (show ¬ (eDrop k.sum).kind = 3 from (by show ¬ (7 : Int) = 3; omega)), if_neg (show ¬ (eDrop k.sum).kind = 4 from (by show ¬ (7 : Int) = 4; omega)), if_neg (show ¬ (eDrop k.sum).kind = 5 from (by show ¬ (7 : Int) = 5; omega)), if_neg (show ¬ (eDrop k.sum).kind = 6 from (by show ¬ (7 : Int) = 6; omega)), if_pos (show hasT s.things (eDrop k.sum).sum from ⟨k, hk, rfl⟩), if_neg (show ¬ (held s (eDrop k.sum).sum ∨ isRef s.things (eDrop k.sum).sum) from fun h => h.elim h2 h3)]
  · rfl
  · unfold stepSt; rw [if_neg hne]; rfl
theorem step_VS {s : State} {r : Round} (V : VS s) : VS (stepSt s (unitM s r).2) := by
  by_cases h : (unitM s r).2 = E0
  · unfold stepSt; rw [if_pos h]; exact V
  · obtain ⟨a, b, c, _⟩ := unit_drop V h
    obtain ⟨d, e, f, g⟩ := drop_entry V a b c
    rw [← g]; exact chg_VS V e f
theorem stepSt_keeps (s : State) (x : Bs) : (stepSt s x).width = s.width ∧ (stepSt s x).births = s.births ∧ (stepSt s x).now = s.now ∧ (stepSt s x).given = s.given ∧ (stepSt s x).pins = s.pins ∧ (stepSt s x).leases = s.leases := by
  unfold stepSt; split <;> exact ⟨rfl, rfl, rfl, rfl, rfl, rfl⟩
theorem roots_has {s : State} (V : VS s) {x : Bs} (h : x ∈ rootsM s) : hasT s.things x := by
  unfold rootsM at h
  rw [mem_foldU, mem_foldU] at h
  rcases h with (h | h) | h
  · cases h
  · obtain ⟨p, hp, rfl⟩ := List.mem_map.1 h; exact (V.okP p hp).2
  · obtain ⟨p, hp, rfl⟩ := List.mem_map.1 h; exact (V.okL p hp).2.2.1
theorem roots_len (s : State) : (rootsM s).length ≤ s.pins.length + s.leases.length := by
  unfold rootsM
  have h1 := foldU_len (s.leases.map (·.sum)) ((s.pins.map (·.sum)).foldl addU [])
  have h2 := foldU_len (s.pins.map (·.sum)) []
  rw [List.length_map] at h1 h2
  simp at h2
  omega
theorem VS.szT {s : State} (V : VS s) {x : Bs} (h : hasT s.things x) : (x.size : Int) = s.width := by
  obtain ⟨k, hk, rfl⟩ := h; rw [(V.okT k hk).2.1]; exact sumM_width V.wd
theorem unit_len {s : State} {r : Round} (V : VS s) (h : RoundOk s.width s.births r) : (unitM s r).1.queue.length ≤ 23230 ∧ (unitM s r).1.marked.length ≤ 601 := by
  have hq := h.nQ; have hm := h.nM; have n2 := V.nP; have n3 := V.nL; have hr := roots_len s
  unfold unitM
  split
  · simp only; omega
  · split
    · rename_i x q hqq
      rw [hqq] at hq
      simp only [List.length_cons] at hq
      split
      · rename_i hc
        have hlt := ((hasT_iff V.srtT x).1 hc.1).1
        have hrl := (V.okT _ (nth_mem (d := K0) hlt)).1.refs
        have := List.length_filter_le (fun y => !decide (y ∈ r.marked ++ [x])) (nth K0 s.things (lb (qK x) s.things)).thing.refs
        simp only [List.length_append, List.length_cons, List.length_nil]
        omega
      · simp only; omega
    · split
      · simp
      · simp only [List.length_nil]; omega
theorem unit_ok {s : State} {r : Round} (V : VS s) (h : RoundOk s.width s.births r) (hr : r.rounds < 1000000000) (hq : (unitM s r).1.queue.length ≤ 23200) (hm : (unitM s r).1.marked.length ≤ 600) : RoundOk s.width s.births (unitM s r).1 := by
  have hb := V.births; have hrd := h.rds
  unfold unitM at hq hm ⊢
  split at hq
  · rename_i h0
    rw [if_pos h0] at hm ⊢
    simp only at hq hm ⊢
    refine ⟨⟨by show (0 : Int) ≤ 1; omega, by show (1 : Int) ≤ 2; omega⟩, h.rds, hq, hm, h.szM, h.ndM, fun x hx => V.szT (roots_has V hx), fun h1 => absurd h1 (by show ¬ (1 : Int) = 0; omega), fun _ => ⟨hb.1, Int.le_refl _, by show (1 : Int) ≤ s.births + 1; omega, Int.le_refl _, fun _ => rfl⟩⟩
  · rename_i h0
    rw [if_neg h0] at hm ⊢
    have hgo := h.go h0
    split at hq
    · rename_i x q hqq
      simp only [hqq] at hm ⊢
      have hszx : (x.size : Int) = s.width := h.szQ x (by rw [hqq]; simp)
      have hszq : ∀ y ∈ q, (y.size : Int) = s.width := fun y hy => h.szQ y (by rw [hqq]; simp [hy])
      split at hq
      · rename_i hc
        rw [if_pos hc] at hm ⊢
        simp only at hq hm ⊢
        have hlt := ((hasT_iff V.srtT x).1 hc.1).1
        have hrs := (V.okT _ (nth_mem (d := K0) hlt)).1.size
        refine ⟨h.ph, h.rds, hq, hm, fun y hy => ?_, ?_, fun y hy => ?_, fun h1 => absurd h1 h0, fun _ => hgo⟩
        · rcases List.mem_append.1 hy with h1 | h1
          · exact h.szM y h1
          · rw [List.mem_singleton] at h1; rw [h1]; exact hszx
        · rw [List.nodup_append]
          refine ⟨h.ndM, by simp, fun a ha b hb => ?_⟩
          rw [List.mem_singleton] at hb
          rintro rfl
          rw [hb] at ha; exact hc.2 ha
        · rcases List.mem_append.1 hy with h1 | h1
          · exact hszq y h1
          · exact hrs y (List.mem_filter.1 h1).1
      · rename_i hc
        rw [if_neg hc] at hm ⊢
        simp only at hq hm ⊢
        exact ⟨h.ph, h.rds, hq, hm, h.szM, h.ndM, hszq, fun h1 => absurd h1 h0, fun _ => hgo⟩
    · rename_i hqq
      simp only [hqq] at hm ⊢
      split at hq
      · rename_i hc
        rw [if_pos hc]
        exact ⟨⟨Int.le_refl _, by show (0 : Int) ≤ 2; omega⟩, ⟨by show 0 ≤ r.rounds + 1; omega, by show r.rounds + 1 ≤ 1000000000; omega⟩, Nat.zero_le _, Nat.zero_le _, (fun x hx => nomatch hx), List.nodup_nil, (fun x hx => nomatch hx), fun _ => ⟨rfl, rfl, rfl, rfl⟩, fun h => absurd rfl h⟩
      · rename_i hc
        rw [if_neg hc] at hm ⊢
        simp only at hq hm ⊢
        have hbl := bestI_lt s.things r.at_ s.things.length
        have hbi := (bestI_is s.things r.at_ s.things.length).2
        have hbt : bestI s.things r.at_ s.things.length = bestT s.things r.at_ := rfl
        rw [hbt] at hbl hbi
        have hmm := nth_mem (d := K0) (show (bestT s.things r.at_).toNat < s.things.length by omega)
        have hk := (V.okT _ hmm).2.2
        have hlt := (hbi (by omega)).1
        refine ⟨⟨by show (0 : Int) ≤ 2; omega, Int.le_refl _⟩, h.rds, hq, hm, h.szM, h.ndM, (fun x hx => nomatch hx), fun h1 => absurd h1 (by show ¬ (2 : Int) = 0; omega), fun _ => ⟨hgo.1, hgo.2.1, hk.1, ?_, fun h1 => absurd h1 (by show ¬ (2 : Int) = 1; omega)⟩⟩
        show (nth K0 s.things (bestT s.things r.at_).toNat).born ≤ r.top + 1
        omega
noncomputable def stepV (v : Vault) : Vault := { v with st := stepSt v.st (unitM v.st v.rd).2, rd := (unitM v.st v.rd).1, loose := if (unitM v.st v.rd).2 = E0 then v.loose else v.loose ++ [formE (eDrop (unitM v.st v.rd).2)] }
structure VQ (v : Vault) : Prop where
  wd : widthB v.width = true
  lim : 0 ≤ v.limit ∧ v.limit ≤ 1000000
  log : LogOk v.safe v.loose
  run : runL v.width (empty v.width) (v.safe ++ v.loose) 0 = .inl v.st
  nq : v.rd.queue.length ≤ 23230
  nm : v.rd.marked.length ≤ 601
  rd : v.rd.queue.length ≤ 23200 → v.rd.marked.length ≤ 600 → RoundOk v.st.width v.st.births v.rd
theorem VQ.vs {v : Vault} (h : VQ v) : VS v.st ∧ v.st.width = v.width := runL_VS _ _ _ _ (empty_VS (widthB_iff.1 h.wd)) rfl h.run
theorem VQ.vv {v : Vault} (h : VQ v) (hr : RoundOk v.st.width v.st.births v.rd) : VV v := ⟨h.wd, h.lim, h.log, h.run, hr⟩
theorem VQ.small {v : Vault} (h : VQ v) : SmallV v := by
  have hn := h.log.n; have hq := h.nq; have hm := h.nm; have hT := h.vs.1.nT
  refine ⟨⟨by omega, fun x hx => by have := h.log.sa x hx; omega⟩, ⟨by omega, fun x hx => by have := h.log.sb x hx; omega⟩, by omega, h.vs.1.small, by omega, by omega, by omega⟩
theorem step_VQ {v : Vault} (V : VV v) (hr : v.rd.rounds < 1000000000) (hl : (unitM v.st v.rd).2 = E0 ∨ v.safe.length + v.loose.length < 4000) : VQ (stepV v) := by
  have Vs := V.vs
  have hlen := unit_len Vs.1 V.rd
  have hk := stepSt_keeps v.st (unitM v.st v.rd).2
  have hlog : LogOk v.safe (stepV v).loose ∧ runL v.width (empty v.width) (v.safe ++ (stepV v).loose) 0 = .inl (stepV v).st := by
    unfold stepV
    simp only
    by_cases h : (unitM v.st v.rd).2 = E0
    · rw [if_pos h]; unfold stepSt; rw [if_pos h]; exact ⟨V.log, V.run⟩
    · rw [if_neg h]
      obtain ⟨a, b, c, _⟩ := unit_drop Vs.1 h
      obtain ⟨d, e, f, g⟩ := drop_entry Vs.1 a b c
      rw [Vs.2] at e
      have hz := formE_size e
      have hl := hl.resolve_left h
      refine ⟨⟨V.log.sa, fun x hx => ?_, ?_⟩, ?_⟩
      · rcases List.mem_append.1 hx with h1 | h1
        · exact V.log.sb x h1
        · rw [List.mem_singleton] at h1; rw [h1]; omega
      · rw [List.length_append]; simp; omega
      · rw [← List.append_assoc, runL_app, V.run]
        simp only [runL, form_readE e]
        rw [if_pos f, g]
  exact ⟨V.wd, V.lim, hlog.1, hlog.2, hlen.1, hlen.2, fun h1 h2 => by
    show RoundOk (stepSt v.st (unitM v.st v.rd).2).width (stepSt v.st (unitM v.st v.rd).2).births (unitM v.st v.rd).1
    rw [hk.1, hk.2.1]
    exact unit_ok Vs.1 V.rd hr h1 h2⟩
abbrev Swp := Option (Vault × List Bs × Nat)
noncomputable def clrS : Nat → Vault → List Bs → Nat → Swp
  | 0, v, d, u => some (v, d, u)
  | n + 1, v, d, u => if 1000000000 ≤ v.rd.rounds ∨ 23200 < (unitM v.st v.rd).1.queue.length ∨ 600 < (unitM v.st v.rd).1.marked.length then none
    else if (unitM v.st v.rd).2 ≠ E0 ∧ 4000 ≤ v.safe.length + v.loose.length then some (v, d, u) else clrS n (stepV v) (d ++ oneD (unitM v.st v.rd).2) (u + 1)
def encSwS : Swp → Lv
  | some (v, d, u) => .i 0 :: (vI v ++ (.i (u : Int) :: (vL v ++ [.l (encS d)])))
  | none => .i 1 :: (vI V0 ++ (.i 0 :: (vL V0 ++ [.l []])))
theorem zbq (a1 a5 a6 a7 a8 a12 a15 a16 a17 : Int) (a3 a4 a9 a10 a11 a13 a14 : Rw) (w2 : Int) : ∀ (n : Nat) (v : Vault) (d : List Bs) (u : Nat), VV v → u + n ≤ 10000 → d.length ≤ u → 
    Lqbx (some 4) [.i ((u + n : Nat) : Int), .i v.width, .i w2, .l a3, .l a4, .i a5, .i a6, .i a7, .i a8, .l a9, .l a10, .l a11, .i a12, .l a13, .l a14, .i a15, .i a16, .i a17, .i 0, .i 0, .i 0, .i 0, .i 0, .i 0, .i 0, .i 0, .i 0, .i 0, .i 0, .i 0, .i 0, .i v.width, .i v.limit, .i v.st.width, .i v.st.now, .i v.st.given, .i v.st.births, .l (encK v.st.things), .l (encP v.st.pins), .l (encL v.st.leases), .i v.rd.phase, .l (encS v.rd.queue), .l (encS v.rd.marked), .i v.rd.top, .i v.rd.at_, .i v.rd.rounds, .i (u : Int), .l [], .l [], .l [], .l [], .l [], .l [], .l [], .l [], .l (encS v.safe), .l (encS v.loose), .l (encS d)] = some (encSwS (clrS n v d u)) := by
  intro n
  induction n with
  | zero =>
    intro v d u V hu hd
    have hcp := zu V
    unfold encV at hcp
    rw [eqbx_4]
    simp (disch := omega) only [push_cast, hcp]
    rfl
  | succ n ih =>
    intro v d u V hu hd
    have Vs := V.vs
    have hrd := V.rd.rds
    have hlog := V.log.n
    rw [eqbx_4, mostE]
    simp only [clrS]
    by_cases h9 : 1000000000 ≤ v.rd.rounds
    · rw [if_pos (Or.inl h9)]; simp (disch := omega) only [push_cast]; rfl
    have hun := zcn Vs.1 V.rd (by omega)
    have hun' : Lqbf none [.i v.st.width, .i v.st.now, .i v.st.given, .i v.st.births, .l (encK v.st.things), .l (encP v.st.pins), .l (encL v.st.leases), .i v.rd.phase, .l (encS v.rd.queue), .l (encS v.rd.marked), .i v.rd.top, .i v.rd.at_, .i v.rd.rounds] = _ := hun
    unfold encUn at hun'
    by_cases hq : 23200 < (unitM v.st v.rd).1.queue.length
    · rw [if_pos (Or.inr (Or.inl hq))]; simp (disch := omega) only [push_cast, hun']; rfl
    by_cases hm : 600 < (unitM v.st v.rd).1.marked.length
    · rw [if_pos (Or.inr (Or.inr hm))]; simp (disch := omega) only [push_cast, hun']; rfl
    rw [if_neg (fun h => h.elim h9 fun h => h.elim hq hm)]
    have hk := stepSt_keeps v.st (unitM v.st v.rd).2
    by_cases hd0 : (unitM v.st v.rd).2 = E0
    · rw [if_neg fun h => h.1 hd0]
      have hs := step_VQ V (by omega) (.inl hd0)
      have := ih (stepV v) (d ++ oneD (unitM v.st v.rd).2) (u + 1) (hs.vv (hs.rd (by show (unitM v.st v.rd).1.queue.length ≤ 23200; omega) (by show (unitM v.st v.rd).1.marked.length ≤ 600; omega))) (by omega) (by rw [List.length_append]; unfold oneD; split <;> simp <;> omega)
      rw [show u + 1 + n = u + (n + 1) by omega] at this
      have e1 : oneD (unitM v.st v.rd).2 = [] := if_pos hd0
      have e2 : stepV v = { v with rd := (unitM v.st v.rd).1 } := by unfold stepV stepSt; rw [if_pos hd0, if_pos hd0]
      rw [e1, List.append_nil, e2] at this
      rw [e1, List.append_nil, e2]
      have e3 : stepSt v.st (unitM v.st v.rd).2 = v.st := if_pos hd0
      rw [e3, e1] at hun'
      simp (disch := omega) only [push_cast, hun', show encS [] = [] from rfl]
      exact this
    obtain ⟨a, b, c, _⟩ := unit_drop Vs.1 hd0
    obtain ⟨e1, e2, e3, e4⟩ := drop_entry Vs.1 a b c
    have e2' := e2
    rw [Vs.2] at e2'
    have hfe := z4 (eDrop (unitM v.st v.rd).2) v.width (by show (0 : Nat) ≤ 4611686018427387904; omega)
    rw [if_pos e2'] at hfe
    have hfe' : Lqbe none [.i 7, .s (unitM v.st v.rd).2, .s E0, .i 0, .s E0, .l [], .i v.width] = _ := hfe
    have e5 : oneD (unitM v.st v.rd).2 = [(unitM v.st v.rd).2] := if_neg hd0
    rw [e5] at hun'
    have hx0 : (rd (encS [(unitM v.st v.rd).2]) 0 0).str = (unitM v.st v.rd).2 := rfl
    have hcp := zu V
    unfold encV at hcp
    by_cases hf : 4000 ≤ v.safe.length + v.loose.length
    · rw [if_pos ⟨hd0, hf⟩]
      simp (disch := omega) only [push_cast, hun', hcp]
      rfl
    rw [if_neg fun h => hf h.2]
    have hs := step_VQ V (by omega) (.inr (by omega))
    have := ih (stepV v) (d ++ oneD (unitM v.st v.rd).2) (u + 1) (hs.vv (hs.rd (by show (unitM v.st v.rd).1.queue.length ≤ 23200; omega) (by show (unitM v.st v.rd).1.marked.length ≤ 600; omega))) (by omega) (by rw [List.length_append]; unfold oneD; split <;> simp <;> omega)
    rw [show u + 1 + n = u + (n + 1) by omega] at this
    have e6 : (stepV v).loose = v.loose ++ [formE (eDrop (unitM v.st v.rd).2)] := if_neg hd0
    rw [e5, e6] at this
    rw [e5]
    simp (disch := omega) only [push_cast, hun', hx0, hfe']
    rw [encS_one, encS_app, encS_one, encS_app]
    exact this
theorem zbr {v : Vault} (h : SmallV v) (n : Int) : Lqbx none (encV v ++ [.i n]) = some (encSwS (if VV v ∧ 0 ≤ n ∧ n ≤ 10000 then clrS n.toNat v [] 0 else none)) := by
  show Lqbx none [.i v.width, .i v.limit, .l (encS v.safe), .l (encS v.loose), .i v.st.width, .i v.st.now, .i v.st.given, .i v.st.births, .l (encK v.st.things), .l (encP v.st.pins), .l (encL v.st.leases), .i v.rd.phase, .l (encS v.rd.queue), .l (encS v.rd.marked), .i v.rd.top, .i v.rd.at_, .i v.rd.rounds, .i n] = _
  have hvv := z0 h
  unfold encV at hvv
  rw [eqbx_i, hvv]
  by_cases V : VV v
  rotate_left; · rw [if_neg fun h => V h.1, decide_eq_false V]; simp (disch := omega) only [push_cast]; rfl
  rw [decide_eq_true V]
  by_cases h0 : 0 ≤ n ∧ n ≤ 10000
  rotate_left; · rw [if_neg fun h => h0 h.2]; simp (disch := omega) only [push_cast, zb]; rfl
  rw [if_pos ⟨V, h0.1, h0.2⟩]
  obtain ⟨m, rfl⟩ : ∃ m : Nat, n = m := ⟨n.toNat, by omega⟩
  have hcp := zu V
  unfold encV at hcp
  have := zbq v.limit v.st.width v.st.now v.st.given v.st.births v.rd.phase v.rd.top v.rd.at_ v.rd.rounds (encS v.safe) (encS v.loose) (encK v.st.things) (encP v.st.pins) (encL v.st.leases) (encS v.rd.queue) (encS v.rd.marked) v.limit m v [] 0 V (by omega) (Nat.le_refl _)
  rw [Nat.zero_add] at this
  simp only [vI, vL, List.cons_append, List.nil_append] at hcp
  simp (disch := omega) only [push_cast, zb, decide_eq_true h0, hcp]
  exact this
end KV
end
section
namespace KV
open Go Go.Eng
open Classical
structure RB (b : Rw) : Prop where
  n : b.length ≤ 2000
  by_ : ∀ i, 0 ≤ (rd b i 0).int ∧ (rd b i 0).int ≤ 255
theorem tmod_range {a n : Int} (ha : 0 ≤ a) (hn : 1 ≤ n) : 0 ≤ a.tmod n ∧ a.tmod n < n := by
  rw [Int.tmod_eq_emod_of_nonneg ha]; exact ⟨Int.emod_nonneg _ (by omega), Int.emod_lt_of_pos _ (by omega)⟩
theorem xor_range {a b : Int} (ha : 0 ≤ a) (hb : 0 ≤ b) (ha2 : a < 4611686018427387904) (hb2 : b < 4611686018427387904) :
    0 ≤ IntKind.i64.wrap ((BitVec.ofInt IntKind.i64.bits a ^^^ BitVec.ofInt IntKind.i64.bits b).toNat : Int) := by
  show 0 ≤ IntKind.i64.wrap ((BitVec.ofInt 64 a ^^^ BitVec.ofInt 64 b).toNat : Int)
  rw [BitVec.toNat_xor, BitVec.toNat_ofInt, BitVec.toNat_ofInt]
  have e1 : (a % ((2 ^ 64 : Nat) : Int)).toNat = a.toNat := by
    rw [Int.emod_eq_of_lt ha (by have : (2 ^ 64 : Nat) = 18446744073709551616 := rfl; omega)]
  have e2 : (b % ((2 ^ 64 : Nat) : Int)).toNat = b.toNat := by
    rw [Int.emod_eq_of_lt hb (by have : (2 ^ 64 : Nat) = 18446744073709551616 := rfl; omega)]
  rw [e1, e2]
  have h : a.toNat ^^^ b.toNat < 2 ^ 62 := Nat.xor_lt_two_pow (by have : (2 ^ 62 : Nat) = 4611686018427387904 := rfl; omega) (by have : (2 ^ 62 : Nat) = 4611686018427387904 := rfl; omega)
  have : (2 ^ 62 : Nat) = 4611686018427387904 := rfl
  rw [w64 (by omega)]; omega
theorem pick_ok {b : Rw} (hb : RB b) (n : Int) (hn : n ≤ 1000000000000) (p : Int) (hp : 0 ≤ p ∧ p ≤ 1000000000) : ∃ x : Int, Lqd none [.i n, .l b, .i p] = some [.i x, .l b, .i (p + 1)] ∧ 0 ≤ x ∧ (x < n ∨ x = 0) := by
  obtain ⟨p, rfl⟩ : ∃ q : Nat, p = (q : Int) := ⟨p.toNat, by omega⟩
  rw [eqd_i]
  have e1 : IntKind.i64.wrap ((p : Int) + 1) = (p : Int) + 1 := w64 (by omega)
  have e2 : IntKind.i64.wrap ((p : Int) + 1 - 1) = (p : Int) := by rw [w64 (by omega)]; omega
  rw [e1, e2]
  by_cases h1 : 1 ≤ n
  rotate_left; · exact ⟨0, by simp (disch := omega) only [push_cast], by omega, .inr rfl⟩
  by_cases h2 : b.length = 0
  · exact ⟨0, by simp (disch := omega) only [push_cast], by omega, .inr rfl⟩
  by_cases h3 : p < b.length
  · have hr := hb.by_ p
    have ht := tmod_range hr.1 h1
    refine ⟨((rd b p 0).int).tmod n, ?_, ht.1, .inl ht.2⟩
    simp (disch := omega) only [push_cast]
  · have hbn := hb.n
    obtain ⟨m, hm⟩ : ∃ m : Nat, b.length = m := ⟨_, rfl⟩
    rw [hm] at h2 h3 hbn ⊢
    have t1 := tmod_range (a := (p : Int)) (n := (m : Int)) (by omega) (by omega)
    have t2 := tmod_range (a := (p : Int) * 7 + 3) (n := (m : Int)) (by omega) (by omega)
    have t3 : 0 ≤ (p : Int).tdiv (m : Int) ∧ (p : Int).tdiv (m : Int) ≤ p := by
      rw [Int.tdiv_eq_ediv_of_nonneg (by omega)]
      exact ⟨Int.ediv_nonneg (by omega) (by omega), Int.ediv_le_self _ (by omega)⟩
    have r1 := hb.by_ ((p : Int).tmod (m : Int)).toNat
    have r2 := hb.by_ (((p : Int) * 7 + 3).tmod (m : Int)).toNat
    obtain ⟨c1, hc1⟩ : ∃ c, (rd b ((p : Int).tmod (m : Int)).toNat 0).int = c := ⟨_, rfl⟩
    obtain ⟨c2, hc2⟩ : ∃ c, (rd b (((p : Int) * 7 + 3).tmod (m : Int)).toNat 0).int = c := ⟨_, rfl⟩
    obtain ⟨q, hq⟩ : ∃ q, (p : Int).tdiv (m : Int) = q := ⟨_, rfl⟩
    rw [hc1] at r1; rw [hc2] at r2; rw [hq] at t3
    have hv : 0 ≤ c1 * 131 + c2 * 1117 + (p : Int) * 29 + q * 53 := by omega
    have h64 : 0 ≤ (c1 * 131 + c2 * 1117 + (p : Int) * 29 + q * 53).tdiv 64 ∧ (c1 * 131 + c2 * 1117 + (p : Int) * 29 + q * 53).tdiv 64 ≤ c1 * 131 + c2 * 1117 + (p : Int) * 29 + q * 53 := by
      rw [Int.tdiv_eq_ediv_of_nonneg hv]; omega
    have hx := xor_range hv h64.1 (by omega) (by omega)
    have ht := tmod_range hx h1
    refine ⟨(IntKind.i64.wrap ((BitVec.ofInt IntKind.i64.bits (c1 * 131 + c2 * 1117 + (p : Int) * 29 + q * 53) ^^^ BitVec.ofInt IntKind.i64.bits ((c1 * 131 + c2 * 1117 + (p : Int) * 29 + q * 53).tdiv 64)).toNat : Int)).tmod n, ?_, ht.1, .inl ht.2⟩
    simp (disch := omega) only [push_cast, hc1, hc2, hq]
theorem open_ok {c : Rw} (hc : ∀ i, 0 ≤ (rd c i 0).int ∧ (rd c i 0).int ≤ 255) : ∃ b, Lqc1 none [.l c] = some [.l b, .i 0] ∧ RB b := by
  rw [eqc1_i]
  by_cases h : c.length ≤ 2000
  · exact ⟨c, by simp (disch := omega) only [push_cast], h, hc⟩
  · refine ⟨Eng.sub c 0 2000, by simp (disch := omega) only [push_cast] <;> rfl, ?_, fun i => ?_⟩
    · simp [Eng.sub]; omega
    · have : rd (Eng.sub c 0 2000) i 0 = if i < 2000 then rd c i 0 else .i 0 := by
        unfold rd Eng.sub
        simp only [List.drop_zero, Nat.sub_zero, List.getD_eq_getElem?_getD, List.getElem?_take]
        split <;> rfl
      rw [this]
      split
      · exact hc i
      · exact ⟨Int.le_refl _, by show (0 : Int) ≤ 255; omega⟩
theorem text_13 {b : Rw} (hb : RB b) (n : Nat) (hn : n ≤ 3) : ∀ (m i : Nat) (p : Int) (acc : Rw), n + 1 - i = m → i ≤ n + 1 → 0 ≤ p ∧ p + m ≤ 1000000000 → acc.length = i →
    ∃ s p', Lqca (some 13) [.i (n : Int), .i (i : Int), .l b, .i p, .l acc] = some [.s s, .l b, .i p'] ∧ p ≤ p' ∧ p' ≤ p + m ∧ s.size = n + 1
  | 0, i, p, acc, hm, hi, hp, ha => by
    refine ⟨bytesOf acc, p, ?_, by omega, by omega, by rw [bytesOf_size]; omega⟩
    rw [eqca_13]; simp (disch := omega) only [push_cast]
  | m + 1, i, p, acc, hm, hi, hp, ha => by
    obtain ⟨x, hx, hx0, hx1⟩ := pick_ok hb 6 (by omega) p (by omega)
    obtain ⟨s, p', h1, h2, h3, h4⟩ := text_13 hb n hn m (i + 1) (p + 1) (acc ++ [[.i (IntKind.u8.wrap (IntKind.i64.wrap (97 + x)))]]) (by omega) (by omega) (by omega) (by simp [ha])
    refine ⟨s, p', ?_, by omega, by omega, h4⟩
    rw [eqca_13, hx, mostE, ← h1]
    simp (disch := omega) only [push_cast]
theorem text_ok {b : Rw} (hb : RB b) (p : Int) (hp : 0 ≤ p ∧ p ≤ 999999000) : ∃ s p', Lqca none [.l b, .i p] = some [.s s, .l b, .i p'] ∧ p ≤ p' ∧ p' ≤ p + 10 ∧ s.size ≤ 4 := by
  obtain ⟨x, hx, hx0, hx1⟩ := pick_ok hb 9 (by omega) p (by omega)
  rw [eqca_i, hx]
  by_cases c0 : x = 0
  · exact ⟨⟨#[]⟩, p + 1, by simp (disch := omega) only [push_cast], by omega, by omega, by decide⟩
  by_cases c1 : x = 1
  · exact ⟨⟨#[97, 32, 98]⟩, p + 1, by simp (disch := omega) only [push_cast], by omega, by omega, by decide⟩
  by_cases c2 : x = 2
  · exact ⟨⟨#[37, 45, 10]⟩, p + 1, by simp (disch := omega) only [push_cast], by omega, by omega, by decide⟩
  by_cases c3 : x = 3
  · exact ⟨⟨#[255, 0]⟩, p + 1, by simp (disch := omega) only [push_cast], by omega, by omega, by decide⟩
  obtain ⟨y, hy, hy0, hy1⟩ := pick_ok hb 4 (by omega) (p + 1) (by omega)
  obtain ⟨n, rfl⟩ : ∃ n : Nat, y = (n : Int) := ⟨y.toNat, by omega⟩
  obtain ⟨s, p', h1, h2, h3, h4⟩ := text_13 hb n (by omega) (n + 1) 0 (p + 1 + 1) [] (by omega) (by omega) (by omega) rfl
  refine ⟨s, p', ?_, by omega, by omega, by omega⟩
  simp (disch := omega) only [push_cast, hy]
  exact h1
theorem width_ok {b : Rw} (hb : RB b) (p : Int) (hp : 0 ≤ p ∧ p ≤ 999999000) : ∃ w, Lqcl none [.l b, .i p] = some [.i w, .l b, .i (p + 1)] ∧ (w = 1 ∨ w = 2 ∨ w = 8) := by
  obtain ⟨x, hx, hx0, hx1⟩ := pick_ok hb 8 (by omega) p (by omega)
  rw [eqcl_i, hx]
  by_cases c0 : x < 2
  · exact ⟨1, by simp (disch := omega) only [push_cast], .inl rfl⟩
  by_cases c1 : x = 2
  · exact ⟨2, by simp (disch := omega) only [push_cast], .inr (.inl rfl)⟩
  · exact ⟨8, by simp (disch := omega) only [push_cast], .inr (.inr rfl)⟩
theorem insert_asc {l : List Bs} (h : Asc l) (x : Bs) (hx : x ∉ l) : Asc (l.take (lb (fun a => slt a x) l) ++ x :: l.drop (lb (fun a => slt a x) l)) := by
  unfold Asc at h ⊢
  have mono : ∀ a b, slt a b = true → slt b x = true → slt a x = true := fun a b h1 h2 => slt_trans h1 h2
  have hd : ∀ a ∈ l.drop (lb (fun a => slt a x) l), slt x a = true := fun a ha => by
    obtain ⟨j, hj, rfl⟩ := List.mem_iff_getElem.1 ha
    rw [List.length_drop] at hj
    have := lb_hi .empty h mono (lb (fun a => slt a x) l + j) (by omega) (by omega)
    rw [List.getElem_drop, ← nth_get .empty l _ (by omega)]
    rcases slt_false.1 this with h1 | h1
    · exact absurd (h1 ▸ nth_mem (by omega)) hx
    · exact h1
  have ht : ∀ a ∈ l.take (lb (fun a => slt a x) l), slt a x = true := fun a ha => by
    obtain ⟨j, hj, rfl⟩ := List.mem_iff_getElem.1 ha
    rw [List.length_take] at hj
    have := lb_lt (fun a => slt a x) .empty l j (by omega)
    rw [List.getElem_take, ← nth_get .empty l _ (by omega)]; exact this
  rw [List.pairwise_append, List.pairwise_cons]
  refine ⟨h.sublist (List.take_sublist _ _), ⟨hd, h.sublist (List.drop_sublist _ _)⟩, fun a ha b hb => ?_⟩
  rcases List.mem_cons.1 hb with rfl | hb
  · exact ht a ha
  · exact slt_trans (ht a ha) (hd b hb)
theorem sorted_6 (l : List Bs) (i : Nat) (hi : i < l.length) (out : List Bs) (ho : Asc out) (hol : out.length ≤ 1000000) (hl : l.length ≤ 1000000) : ∀ m k : Nat, lb (fun a => slt a (nth .empty l i)) out - k = m → k ≤ lb (fun a => slt a (nth .empty l i)) out →
    Lqi (some 6) [.l (encS l), .i (i : Int), .i (k : Int), .l (encS out)] = Lqi (some 3) [.l (encS l), .i ((i + 1 : Nat) : Int), .l (encS (if nth .empty l i ∈ out then out else out.take (lb (fun a => slt a (nth .empty l i)) out) ++ nth .empty l i :: out.drop (lb (fun a => slt a (nth .empty l i)) out)))]
  | m + 1, k, hm, hk => by
    have hle := lb_le (fun a => slt a (nth .empty l i)) out
    have hq := lb_lt (fun a => slt a (nth .empty l i)) .empty out k (by omega)
    rw [← sorted_6 l i hi out ho hol hl m (k + 1) (by omega) (by omega), eqi_6]
    simp (disch := omega) only [push_cast, hq]
  | 0, k, hm, hk => by
    have hle := lb_le (fun a => slt a (nth .empty l i)) out
    have hke : k = lb (fun a => slt a (nth .empty l i)) out := by omega
    generalize hx : nth .empty l i = x at *
    have mono : ∀ a b, slt a b = true → slt b x = true → slt a x = true := fun a b h1 h2 => slt_trans h1 h2
    have hmem : x ∈ out ↔ k < out.length ∧ nth .empty out k = x := by
      have := key_mem (q := fun a => slt a x) (p := fun a => a = x) .empty ho (fun a h => by rw [h]; exact slt_irrefl x) (fun a b hab hb => by rw [← hb]; exact hab)
      rw [hke, ← this]
      exact ⟨fun h => ⟨x, h, rfl⟩, fun ⟨a, h1, h2⟩ => h2 ▸ h1⟩
    have nine : x ∉ out → Lqi (some 9) [.l (encS l), .i (i : Int), .i (k : Int), .l (encS out)] = Lqi (some 3) [.l (encS l), .i ((i + 1 : Nat) : Int), .l (encS (out.take k ++ x :: out.drop k))] := fun hn => by
      have s1 : Eng.sub (encS out) 0 k = encS (out.take k) := by rw [encS_sub]; simp
      have s2 : Eng.sub (encS out) k out.length = encS (out.drop k) := by rw [encS_sub, List.take_of_length_le (by simp)]
      rw [eqi_9, mostE]
      simp (disch := omega) only [push_cast, hx, s1, s2, List.nil_append, List.length_append, List.length_take, List.length_drop]
      rw [encS_one, encS_app, encS_app, List.append_assoc]; rfl
    rw [eqi_6]
    by_cases h1 : k < out.length
    · have hq : slt (nth .empty out k) x = false := by rw [hke]; exact lb_at (fun a => slt a x) .empty out (by omega)
      by_cases h2 : nth .empty out k = x
      · rw [if_pos (hmem.2 ⟨h1, h2⟩)]
        simp (disch := omega) only [push_cast, hx, hq]
      · have hn : x ∉ out := fun h => h2 (hmem.1 h).2
        rw [if_neg hn]
        simp (disch := omega) only [push_cast, hx, hq]
        rw [nine hn, hke]; simp (disch := omega) only [push_cast]
    · have hn : x ∉ out := fun h => h1 (hmem.1 h).1
      rw [if_neg hn]
      simp (disch := omega) only [push_cast]
      rw [nine hn, hke]; simp (disch := omega) only [push_cast]
theorem sorted_ok (l : List Bs) (hl : l.length ≤ 1000000) : ∃ out : List Bs, Lqi none [.l (encS l)] = some [.l (encS out)] ∧ Asc out ∧ (∀ x, x ∈ out ↔ x ∈ l) ∧ out.length ≤ l.length := by
  rw [eqi_i]
  refine inv_loop_ex (f := fun (i : Nat) (out : List Bs) => Lqi (some 3) [.l (encS l), .i (i : Int), .l (encS out)]) (n := l.length) (I := fun i out => Asc out ∧ (∀ x, x ∈ out ↔ x ∈ l.take i) ∧ out.length ≤ i)
    (T := fun r => ∃ out : List Bs, r = some [.l (encS out)] ∧ Asc out ∧ (∀ x, x ∈ out ↔ x ∈ l) ∧ out.length ≤ l.length) (fun i out hi hI => .inl ?_) (fun out hI => ?_) 0 [] (Nat.zero_le _) ⟨List.Pairwise.nil, fun x => by simp, Nat.zero_le _⟩
  · obtain ⟨ho, hm, hlen⟩ := hI
    refine ⟨if nth .empty l i ∈ out then out else out.take (lb (fun a => slt a (nth .empty l i)) out) ++ nth .empty l i :: out.drop (lb (fun a => slt a (nth .empty l i)) out), ?_, ?_, fun x => ?_, ?_⟩
    · show Lqi _ _ = Lqi _ _
      rw [← sorted_6 l i hi out ho (by omega) hl (lb (fun a => slt a (nth .empty l i)) out) 0 (by omega) (Nat.zero_le _), eqi_3]; simp (disch := omega) only [push_cast]
    · split
      · exact ho
      · rename_i h; exact insert_asc ho _ h
    · rw [take_nth .empty hi, List.mem_append, List.mem_singleton, ← hm]
      split
      · rename_i h; exact ⟨.inl, fun h1 => by rcases h1 with h1 | rfl; exact h1; exact h⟩
      · rw [List.mem_append, List.mem_cons]
        conv => rhs; rw [← List.take_append_drop (lb (fun a => slt a (nth .empty l i)) out) out, List.mem_append]
        constructor
        · rintro (h | h | h)
          · exact .inl (.inl h)
          · exact .inr h
          · exact .inl (.inr h)
        · rintro ((h | h) | h)
          · exact .inl h
          · exact .inr (.inr h)
          · exact .inr (.inl h)
    · have := lb_le (fun a => slt a (nth .empty l i)) out
      split
      · omega
      · simp; omega
  · refine ⟨out, ?_, hI.1, fun x => by rw [hI.2.1 x, List.take_length], hI.2.2⟩
    show Lqi _ _ = _
    rw [eqi_3]; simp (disch := omega) only [push_cast]
end KV
end
section
namespace KV
open Go Go.Eng
open Classical
theorem many_2 : ∀ (n : Nat) (s out : Bs) (T : Nat), out.size + n * s.size = T → T ≤ 1000000000 → s.size ≤ 1000000000 → n ≤ 1000000000 → ∃ r, Lqb8 (some 2) [.s s, .i (n : Int), .s out] = some [.s r] ∧ r.size = T := by
  intro n
  induction n using Nat.strongRecOn with
  | ind n ih =>
    intro s out T hT hB hs hn
    rw [eqb8_2]
    by_cases h0 : n = 0
    · subst h0; exact ⟨out, by simp (disch := omega) only [push_cast], by omega⟩
    have hd : IntKind.i64.wrap ((n : Int).tdiv 2) = ((n / 2 : Nat) : Int) := by
      rw [Int.tdiv_eq_ediv_of_nonneg (by omega), w64 (by omega)]; omega
    have hm : ((n : Int).tmod 2) = ((n % 2 : Nat) : Int) := by rw [Int.tmod_eq_emod_of_nonneg (by omega)]; omega
    have hss : (s ++ s).size = s.size + s.size := size_app s s
    have hmul : n * s.size = (n / 2) * (s.size + s.size) + (n % 2) * s.size := by
      conv => lhs; rw [← Nat.div_add_mod n 2]
      rw [Nat.add_mul, Nat.mul_comm 2 (n / 2), Nat.mul_assoc, Nat.two_mul]
    have hsT : s.size ≤ T := by
      have : 1 * s.size ≤ n * s.size := Nat.mul_le_mul_right _ (by omega)
      omega
    rw [hd, hm, mostE]
    by_cases h1 : n % 2 = 1
    · rw [h1] at hmul ⊢
      have hh : 2 ≤ n → s.size + s.size ≤ T := fun h2 => by
        have : 1 * (s.size + s.size) ≤ (n / 2) * (s.size + s.size) := Nat.mul_le_mul_right _ (by omega)
        omega
      by_cases h2 : 2 ≤ n
      · obtain ⟨r, hr, hr2⟩ := ih (n / 2) (by omega) (s ++ s) (out ++ s) T (by rw [size_app, hss]; omega) hB (by have := hh h2; omega) (by omega)
        refine ⟨r, ?_, hr2⟩
        rw [← hr]
        simp (disch := omega) only [push_cast]
      · have hn1 : n / 2 = 0 := by omega
        refine ⟨out ++ s, ?_, by rw [size_app]; rw [hn1] at hmul; omega⟩
        rw [hn1]
        simp (disch := omega) only [push_cast]
        rw [eqb8_2]; simp (disch := omega) only [push_cast]
    · have h2 : n % 2 = 0 := by omega
      rw [h2] at hmul ⊢
      have : 1 * (s.size + s.size) ≤ (n / 2) * (s.size + s.size) := Nat.mul_le_mul_right _ (by omega)
      obtain ⟨r, hr, hr2⟩ := ih (n / 2) (by omega) (s ++ s) out T (by rw [hss]; omega) hB (by omega) (by omega)
      refine ⟨r, ?_, hr2⟩
      rw [← hr]
      simp (disch := omega) only [push_cast]
theorem many_ok (s : Bs) (n : Int) (h0 : 0 ≤ n ∧ n ≤ 1000000000) (hs : s.size = 1) : ∃ r, Lqb8 none [.s s, .i n] = some [.s r] ∧ (r.size : Int) = n := by
  obtain ⟨n, rfl⟩ : ∃ m : Nat, n = (m : Int) := ⟨n.toNat, by omega⟩
  rw [eqb8_i]
  obtain ⟨r, h1, h2⟩ := many_2 n s ⟨#[]⟩ n (by show 0 + n * s.size = n; rw [hs]; omega) (by omega) (by omega) (by omega)
  exact ⟨r, h1, by omega⟩
inductive SpT (t t' : Thing) : Prop where
  | text (h : t'.refs = t.refs) (hs : t'.text.size ≤ 2001 ∨ t'.text.size ≤ t.text.size + 1)
  | more (r : Bs) (h : t'.text = t.text) (hr : t'.refs = t.refs ++ [r]) (hs : r.size = 1 ∨ r ∈ t.refs)
  | ones (h : t'.text = t.text) (hr : ∀ r ∈ t'.refs, r.size = 1) (hn : t'.refs.length ≤ 31)
theorem ones_15 {b : Rw} (n : Nat) (hn : n ≤ 31) (p : Int) (x y : Bs) : ∀ (m i : Nat) (acc : List Bs), n - i = m → i ≤ n → acc.length = i → (∀ r ∈ acc, r.size = 1) →
    ∃ l : List Bs, Lqcc (some 15) [.i (n : Int), .i (i : Int), .l b, .i p, .s x, .s y, .l [], .l (encS acc)] = some [.s y, .l b, .i p, .l (encS l)] ∧ (∀ r ∈ l, r.size = 1) ∧ l.length = n
  | 0, i, acc, hm, hi, ha, hr => ⟨acc, by rw [eqcc_15]; simp (disch := omega) only [push_cast], hr, by omega⟩
  | m + 1, i, acc, hm, hi, ha, hr => by
    obtain ⟨l, h1, h2, h3⟩ := ones_15 n hn p x y m (i + 1) (acc ++ [bytesOf [[.i (IntKind.u8.wrap (IntKind.i64.wrap (33 + (i : Int))))]]]) (by omega) (by omega) (by simp [ha]) (fun r h => by
      rcases List.mem_append.1 h with h | h
      · exact hr r h
      · rw [List.mem_singleton] at h; rw [h, bytesOf_size]; rfl)
    refine ⟨l, ?_, h2, h3⟩
    rw [eqcc_15, ← h1, mostE, ← encS_app]
    simp (disch := omega) only [push_cast]; rfl
theorem spoilThing_ok {b : Rw} (hb : RB b) (t : Thing) (ht : t.refs.length ≤ 1000000000 ∧ t.text.size ≤ 1000000000) (p : Int) (hp : 0 ≤ p ∧ p ≤ 999998000) :
    ∃ (t' : Thing) (p' : Int), Lqcc none [.s t.text, .l (encS t.refs), .l b, .i p] = some [.s t'.text, .l b, .i p', .l (encS t'.refs)] ∧ p ≤ p' ∧ p' ≤ p + 10 ∧ SpT t t' := by
  obtain ⟨x, hx, hx0, hx1⟩ := pick_ok hb 5 (by omega) p (by omega)
  rw [eqcc_i, zz _ _ (by rw [encS_len]; omega), mostE]
  by_cases c0 : x = 0
  · obtain ⟨y, hy, hy0, hy1⟩ := pick_ok hb 2 (by omega) (p + 1) (by omega)
    obtain ⟨r, hr, hr2⟩ := many_ok ⟨#[116]⟩ (2000 + y) (by omega) rfl
    refine ⟨⟨r, t.refs⟩, p + 1 + 1, ?_, by omega, by omega, .text rfl (.inl (by simp only; omega))⟩
    simp (disch := omega) only [push_cast, hx, hy, hr]
  by_cases c1 : x = 1
  · refine ⟨⟨t.text, t.refs ++ [⟨#[120]⟩]⟩, p + 1, ?_, by omega, by omega, .more ⟨#[120]⟩ rfl rfl (.inl rfl)⟩
    simp (disch := omega) only [push_cast, hx]
    rw [encS_one, encS_app]
  by_cases c2 : x = 2
  · by_cases h0 : 0 < t.refs.length
    · refine ⟨⟨t.text, t.refs ++ [nth .empty t.refs 0]⟩, p + 1, ?_, by omega, by omega, .more _ rfl rfl (.inr (nth_mem h0))⟩
      simp (disch := omega) only [push_cast, hx]
      rw [encS_one, encS_app]
    · refine ⟨t, p + 1, ?_, by omega, by omega, .text rfl (.inr (Nat.le_succ _))⟩
      simp (disch := omega) only [push_cast, hx]
  by_cases c3 : x = 3
  · obtain ⟨y, hy, hy0, hy1⟩ := pick_ok hb 2 (by omega) (p + 1) (by omega)
    obtain ⟨n, hn⟩ : ∃ n : Nat, 30 + y = (n : Int) := ⟨(30 + y).toNat, by omega⟩
    obtain ⟨l, h1, h2, h3⟩ := ones_15 (b := b) n (by omega) (p + 1 + 1) E0 t.text n 0 [] (by omega) (by omega) rfl (fun r hr => by cases hr)
    refine ⟨⟨t.text, l⟩, p + 1 + 1, ?_, by omega, by omega, .ones rfl h2 (by simp only; omega)⟩
    simp (disch := omega) only [push_cast, hx, hy, hn]
    exact h1
  · refine ⟨⟨t.text ++ ⟨#[122]⟩, t.refs⟩, p + 1, ?_, by omega, by omega, .text rfl (.inr (by simp only; rw [size_app]; exact Nat.le_refl _))⟩
    have : (⟨#[122]⟩ : Bs).size = 1 := rfl
    simp (disch := omega) only [push_cast, hx, this]
end KV
end
section
namespace KV
open Go Go.Eng
open Classical
theorem formT_size (t : Thing) (w : Int) : (formT t w).size ≤ 2241 := by
  unfold formT
  split
  · rename_i h
    have := okForm (thingB_iff.1 h)
    rw [formM_size]; omega
  · exact Nat.zero_le _
end KV
end
section
namespace KV
open Go Go.Eng
open Classical
structure Act where
  kind : Int
  text : Bs
  refs : Int
  name : Bs
  pick : Int
  ticks : Int
def encA (a : Act) : Lv := [.i a.kind, .s a.text, .i a.refs, .s a.name, .i a.pick, .i a.ticks]
structure ActOk (a : Act) : Prop where
  kind : (1 ≤ a.kind ∧ a.kind ≤ 6) ∨ a.kind = 8 ∨ a.kind = 9 ∨ a.kind = 10
  text : a.text.size ≤ 4
  refs : 0 ≤ a.refs ∧ a.refs < 8
  name : a.name.size ≤ 1
  pick : 0 ≤ a.pick ∧ a.pick < 40
  ticks : 1 ≤ a.ticks ∧ a.ticks ≤ 200
def nameL : Rw := [[.s (⟨#[112]⟩ : ByteArray)], [.s (⟨#[113]⟩ : ByteArray)], [.s (⟨#[114]⟩ : ByteArray)]]
def tickL : Rw := [[.i 1], [.i 3], [.i 10], [.i 40], [.i 200]]
theorem nameL_size (i : Nat) : ((rd nameL i 0).str).size ≤ 1 := by
  match i with
  | 0 => exact Nat.le_refl _
  | 1 => exact Nat.le_refl _
  | 2 => exact Nat.le_refl _
  | n + 3 => exact Nat.zero_le _
theorem tickL_rng (i : Nat) (h : i < 5) : 1 ≤ (rd tickL i 0).int ∧ (rd tickL i 0).int ≤ 200 := by
  match i, h with
  | 0, _ => exact ⟨Int.le_refl _, by show (1 : Int) ≤ 200; omega⟩
  | 1, _ => exact ⟨by show (1 : Int) ≤ 3; omega, by show (3 : Int) ≤ 200; omega⟩
  | 2, _ => exact ⟨by show (1 : Int) ≤ 10; omega, by show (10 : Int) ≤ 200; omega⟩
  | 3, _ => exact ⟨by show (1 : Int) ≤ 40; omega, by show (40 : Int) ≤ 200; omega⟩
  | 4, _ => exact ⟨by show (1 : Int) ≤ 200; omega, Int.le_refl _⟩
theorem act_ok {b : Rw} (hb : RB b) (p : Int) (hp : 0 ≤ p ∧ p ≤ 999998000) : ∃ (a : Act) (p' : Int), Lqc2 none [.l b, .i p] = some (encA a ++ [.l b, .i p']) ∧ p ≤ p' ∧ p' ≤ p + 20 ∧ ActOk a := by
  obtain ⟨s, p1, h1, h2, h3, hs⟩ := text_ok hb p (by omega)
  obtain ⟨x2, e2, r2, s2⟩ := pick_ok hb 8 (by omega) p1 (by omega)
  obtain ⟨x3, e3, r3, s3⟩ := pick_ok hb 3 (by omega) (p1 + 1) (by omega)
  obtain ⟨x4, e4, r4, s4⟩ := pick_ok hb 40 (by omega) (p1 + 1 + 1) (by omega)
  obtain ⟨x5, e5, r5, s5⟩ := pick_ok hb 5 (by omega) (p1 + 1 + 1 + 1) (by omega)
  obtain ⟨x6, e6, r6, s6⟩ := pick_ok hb 20 (by omega) (p1 + 1 + 1 + 1 + 1) (by omega)
  have ht := tickL_rng x5.toNat (by omega)
  have hnm := nameL_size x3.toNat
  refine ⟨⟨if x6 < 7 then 1 else if x6 < 10 then 2 else if x6 = 10 then 3 else if x6 = 11 then 4 else if x6 = 12 then 5 else if x6 < 15 then 6 else if x6 = 15 then 8 else if x6 = 16 then 9 else 10, s, x2, (rd nameL x3.toNat 0).str, x4, (rd tickL x5.toNat 0).int⟩, p1 + 1 + 1 + 1 + 1 + 1, ?_, by omega, by omega, ?_⟩
  · rw [eqc2_i, h1]
    simp (disch := omega) only [push_cast, e2, e3, e4, e5, e6]
    by_cases c1 : x6 < 7
    · rw [if_pos c1]; simp (disch := omega) only [push_cast]; rfl
    rw [if_neg c1]
    by_cases c2 : x6 < 10
    · rw [if_pos c2]; simp (disch := omega) only [push_cast]; rfl
    rw [if_neg c2]
    by_cases c3 : x6 = 10
    · rw [if_pos c3]; simp (disch := omega) only [push_cast]; rfl
    rw [if_neg c3]
    by_cases c4 : x6 = 11
    · rw [if_pos c4]; simp (disch := omega) only [push_cast]; rfl
    rw [if_neg c4]
    by_cases c5 : x6 = 12
    · rw [if_pos c5]; simp (disch := omega) only [push_cast]; rfl
    rw [if_neg c5]
    by_cases c6 : x6 < 15
    · rw [if_pos c6]; simp (disch := omega) only [push_cast]; rfl
    rw [if_neg c6]
    by_cases c7 : x6 = 15
    · rw [if_pos c7]; simp (disch := omega) only [push_cast]; rfl
    rw [if_neg c7]
    by_cases c8 : x6 = 16
    · rw [if_pos c8]; simp (disch := omega) only [push_cast]; rfl
    rw [if_neg c8]; simp (disch := omega) only [push_cast]; rfl
  · refine ⟨?_, hs, by simp only; omega, hnm, by simp only; omega, ht⟩
    show (1 ≤ (if x6 < 7 then (1 : Int) else _) ∧ _) ∨ _
    simp only
    repeat' split
    all_goals omega
theorem actThing_5 (a : Act) (s : State) (ha : ActOk a) (hT : 0 < s.things.length) (hn : s.things.length ≤ 1000000) : ∀ (m k : Nat) (acc : List Bs), 4 - k = m → k ≤ 4 → acc.length ≤ k → (∀ r ∈ acc, hasT s.things r) →
    ∃ l : List Bs, Lqbu (some 5) [.i (k : Int), .i a.kind, .s a.text, .i a.refs, .s a.name, .i a.pick, .i a.ticks, .i s.width, .i s.now, .i s.given, .i s.births, .l (encK s.things), .l (encP s.pins), .l (encL s.leases), .s E0, .s a.text, .l (encS acc), .l [], .l []] = some [.s a.text, .l (encS l)] ∧ l.length ≤ 4 ∧ Asc l ∧ ∀ r ∈ l, hasT s.things r := by
  intro m
  have fin : ∀ acc : List Bs, acc.length ≤ 4 → (∀ r ∈ acc, hasT s.things r) → ∃ l : List Bs, (Lqi none [.l (encS acc)]).bind (fun y1 => some ([.s a.text, .l ((g y1 0).list)] : Lv)) = some ([.s a.text, .l (encS l)] : Lv) ∧ l.length ≤ 4 ∧ Asc l ∧ ∀ r ∈ l, hasT s.things r := by
    intro acc h1 h2
    obtain ⟨out, e, h3, h4, h5⟩ := sorted_ok acc (by omega)
    exact ⟨out, by rw [e]; rfl, by omega, h3, fun r hr => h2 r ((h4 r).1 hr)⟩
  have hr := ha.refs
  have hp := ha.pick
  have hd : 0 ≤ a.refs.tdiv 2 ∧ a.refs.tdiv 2 ≤ 3 := by rw [Int.tdiv_eq_ediv_of_nonneg hr.1]; omega
  induction m with
  | zero =>
    intro k acc hm hk hl hh
    have : k = 4 := by omega
    subst this
    obtain ⟨l, e, r⟩ := fin acc (by omega) hh
    refine ⟨l, ?_, r⟩
    rw [eqbu_5]
    simp (disch := omega) only [push_cast]
    exact e
  | succ m ih =>
    intro k acc hm hk hl hh
    by_cases c : (k : Int) < a.refs.tdiv 2
    · have ht := tmod_range (a := a.pick + 5 * (k : Int)) (n := (s.things.length : Int)) (by omega) (by omega)
      obtain ⟨j, hj⟩ : ∃ j : Nat, (a.pick + 5 * (k : Int)).tmod (s.things.length : Int) = j := ⟨((a.pick + 5 * (k : Int)).tmod (s.things.length : Int)).toNat, by omega⟩
      obtain ⟨l, e, r⟩ := ih (k + 1) (acc ++ [(nth K0 s.things j).sum]) (by omega) (by omega) (by simp; omega) (fun r hr => by
        rcases List.mem_append.1 hr with h | h
        · exact hh r h
        · rw [List.mem_singleton] at h; rw [h]; exact ⟨_, nth_mem (by omega), rfl⟩)
      refine ⟨l, ?_, r⟩
      rw [eqbu_5, mostE]
      rw [← encS_app] at e
      simp (disch := omega) only [push_cast, hj]
      exact e
    · obtain ⟨l, e, r⟩ := fin acc (by omega) hh
      refine ⟨l, ?_, r⟩
      rw [eqbu_5]
      simp (disch := omega) only [push_cast]
      exact e
theorem actThing_ok (a : Act) (s : State) (ha : ActOk a) (hn : s.things.length ≤ 1000000) : ∃ l : List Bs, Lqbu none (encA a ++ encSt s) = some [.s a.text, .l (encS l)] ∧ l.length ≤ 4 ∧ Asc l ∧ ∀ r ∈ l, hasT s.things r := by
  show ∃ l : List Bs, Lqbu none [.i a.kind, .s a.text, .i a.refs, .s a.name, .i a.pick, .i a.ticks, .i s.width, .i s.now, .i s.given, .i s.births, .l (encK s.things), .l (encP s.pins), .l (encL s.leases)] = _ ∧ _
  rw [eqbu_i]
  by_cases h : 0 < s.things.length
  · obtain ⟨l, e, r⟩ := actThing_5 a s ha h hn 4 0 [] rfl (by omega) (Nat.le_refl _) (fun r hr => nomatch hr)
    exact ⟨l, by simp (disch := omega) only [push_cast]; exact e, r⟩
  · obtain ⟨out, e, h3, h4, h5⟩ := sorted_ok [] (Nat.zero_le _)
    have e' : Lqi none [.l []] = some [.l (encS out)] := e
    refine ⟨out, by simp (disch := omega) only [push_cast, e'], by have : out.length ≤ 0 := h5; omega, h3, fun r hr => nomatch (h4 r).1 hr⟩
theorem actSum_ok (a : Act) (s : State) (ha : ActOk a) (hn : s.things.length ≤ 1000000) : ∃ x : Bs, Lqck none (encA a ++ encSt s) = some [.s x] := by
  show ∃ x : Bs, Lqck none [.i a.kind, .s a.text, .i a.refs, .s a.name, .i a.pick, .i a.ticks, .i s.width, .i s.now, .i s.given, .i s.births, .l (encK s.things), .l (encP s.pins), .l (encL s.leases)] = _
  rw [eqck_i]
  have hp := ha.pick
  by_cases h : s.things.length = 0
  · refine ⟨sumM ⟨#[110, 111, 110, 101]⟩ s.width, ?_⟩
    simp (disch := omega) only [push_cast, zq (⟨#[110, 111, 110, 101]⟩ : ByteArray) s.width (by show (4 : Nat) ≤ 1099511627776; omega)]
  · have ht := tmod_range (a := a.pick) (n := (s.things.length : Int)) (by omega) (by omega)
    obtain ⟨j, hj⟩ : ∃ j : Nat, a.pick.tmod (s.things.length : Int) = j := ⟨(a.pick.tmod (s.things.length : Int)).toNat, by omega⟩
    exact ⟨(nth K0 s.things j).sum, by simp (disch := omega) only [push_cast, hj]⟩
theorem actLease_ok (a : Act) (s : State) (ha : ActOk a) (hn : s.leases.length ≤ 1000000) : ∃ x : Int, Lqcm none (encA a ++ encSt s) = some [.i x] := by
  show ∃ x : Int, Lqcm none [.i a.kind, .s a.text, .i a.refs, .s a.name, .i a.pick, .i a.ticks, .i s.width, .i s.now, .i s.given, .i s.births, .l (encK s.things), .l (encP s.pins), .l (encL s.leases)] = _
  rw [eqcm_i]
  have hp := ha.pick
  by_cases h : s.leases.length = 0
  · exact ⟨1 + a.pick, by simp (disch := omega) only [push_cast]⟩
  · have ht := tmod_range (a := a.pick) (n := (s.leases.length : Int)) (by omega) (by omega)
    obtain ⟨j, hj⟩ : ∃ j : Nat, a.pick.tmod (s.leases.length : Int) = j := ⟨(a.pick.tmod (s.leases.length : Int)).toNat, by omega⟩
    exact ⟨(nth L0 s.leases j).number, by simp (disch := omega) only [push_cast, hj]⟩
theorem clrS_VV : ∀ (n : Nat) (v : Vault) (d : List Bs) (u : Nat) (r : Vault × List Bs × Nat), VV v → clrS n v d u = some r → VV r.1
  | 0, v, d, u, r, V, h => by simp only [clrS] at h; cases h; exact V
  | n + 1, v, d, u, r, V, h => by
    simp only [clrS] at h
    split at h
    · cases h
    · rename_i hc
      have hlog := V.log.n
      split at h
      · cases h; exact V
      · rename_i hd
        have hs := step_VQ V (by omega) (by by_cases h0 : (unitM v.st v.rd).2 = E0; { exact .inl h0 }; { exact .inr (by have : ¬ 4000 ≤ v.safe.length + v.loose.length := fun h => hd ⟨h0, h⟩; omega) })
        exact clrS_VV n _ _ _ _ (hs.vv (hs.rd (by show (unitM v.st v.rd).1.queue.length ≤ 23200; omega) (by show (unitM v.st v.rd).1.marked.length ≤ 600; omega))) h
def GV (v : Vault) : Prop := VV v ∨ v = V0
theorem GV.small {v : Vault} (h : GV v) : SmallV v := by
  rcases h with h | rfl
  · exact h.small
  · exact ⟨⟨Nat.zero_le _, fun x hx => nomatch hx⟩, ⟨Nat.zero_le _, fun x hx => nomatch hx⟩, Nat.zero_le _, ⟨Nat.zero_le _, Nat.zero_le _, Nat.zero_le _, fun x hx => nomatch hx⟩, Nat.zero_le _, Nat.zero_le _, Nat.zero_le _⟩
theorem GV.nT {v : Vault} (h : GV v) : v.st.things.length ≤ 1000000 ∧ v.st.leases.length ≤ 1000000 := by
  rcases h with h | rfl
  · have h1 := h.vs.1.nT; have h2 := h.vs.1.nL; omega
  · exact ⟨Nat.zero_le _, Nat.zero_le _⟩
def vA (v : Vault) : Lv := [.i v.width, .i v.limit, .l (encS v.safe), .i v.st.width, .i v.st.now, .i v.st.given, .i v.st.births, .l (encK v.st.things), .i v.rd.phase, .l (encS v.rd.queue), .l (encS v.rd.marked), .i v.rd.top, .i v.rd.at_, .i v.rd.rounds]
def vB (v : Vault) : Lv := [.l (encS v.loose), .l (encP v.st.pins), .l (encL v.st.leases)]
theorem done_21 (v : Vault) (d : Did) : Lqbb (some 21) (vA v ++ ([.i 0, .i 0, .i 0, .i 0, .i 0, .i 0, .i 0, .i 0, .i 0, .i 0] ++ (.i d.code :: (vI d.v ++ ([.s d.sum, .i d.lease, .s d.a, .s d.b] ++ (vB v ++ (vL d.v ++ [.l [], .l [], .l [], .l [], .l [], .l [], .l []]))))))) = some (vA (if d.code = 0 then d.v else v) ++ vB (if d.code = 0 then d.v else v)) := by
  show Lqbb (some 21) [.i v.width, .i v.limit, .l (encS v.safe), .i v.st.width, .i v.st.now, .i v.st.given, .i v.st.births, .l (encK v.st.things), .i v.rd.phase, .l (encS v.rd.queue), .l (encS v.rd.marked), .i v.rd.top, .i v.rd.at_, .i v.rd.rounds,
    .i 0, .i 0, .i 0, .i 0, .i 0, .i 0, .i 0, .i 0, .i 0, .i 0, .i d.code, .i d.v.width, .i d.v.limit, .i d.v.st.width, .i d.v.st.now, .i d.v.st.given, .i d.v.st.births, .i d.v.rd.phase, .i d.v.rd.top, .i d.v.rd.at_, .i d.v.rd.rounds, .s d.sum, .i d.lease, .s d.a, .s d.b, .l (encS v.loose), .l (encP v.st.pins), .l (encL v.st.leases), .l (encS d.v.safe), .l (encS d.v.loose), .l (encK d.v.st.things), .l (encP d.v.st.pins), .l (encL d.v.st.leases), .l (encS d.v.rd.queue), .l (encS d.v.rd.marked), .l [], .l [], .l [], .l [], .l [], .l [], .l []] = _
  rw [eqbb_21]
  by_cases h : d.code = 0
  · rw [if_pos h]; simp (disch := omega) only [push_cast]; rfl
  · rw [if_neg h]; simp (disch := omega) only [push_cast]; rfl
theorem doS_GV {v : Vault} (h : GV v) (e : Entry) : GV (if (doS v e).code = 0 then (doS v e).v else v) := by
  by_cases hc : (doS v e).code = 0
  · rw [if_pos hc]; exact .inl (doE_VV hc).2.2.2
  · rw [if_neg hc]; exact h
inductive Acted (v : Vault) : Vault → Prop where
  | did (e : Entry) (hk : 1 ≤ e.kind ∧ e.kind ≤ 6) (ht : e.thing.text.size ≤ 4) : Acted v (if (doS v e).code = 0 then (doS v e).v else v)
  | flush : Acted v (flushM v)
  | lose (k : Int) : Acted v (loseM v k)
  | clear (n : Nat) (v' : Vault) (d : List Bs) (u : Nat) (V : VV v) (h : clrS n v [] 0 = some (v', d, u)) : Acted v v'
  | none : Acted v V0
inductive Led : Vault → Prop where
  | new (v : Vault) (ha : v.safe = []) (hb : v.loose = []) : Led v
  | act (v v' : Vault) (h : Led v) (g : GV v) (a : Acted v v') : Led v'
theorem l7Done_ok {v : Vault} (h : GV v) {a : Act} (ha : ActOk a) : ∃ v', Lqbb none (vA v ++ (encA a ++ vB v)) = some (vA v' ++ vB v') ∧ GV v' ∧ Acted v v' := by
  show ∃ v', Lqbb none [.i v.width, .i v.limit, .l (encS v.safe), .i v.st.width, .i v.st.now, .i v.st.given, .i v.st.births, .l (encK v.st.things), .i v.rd.phase, .l (encS v.rd.queue), .l (encS v.rd.marked), .i v.rd.top, .i v.rd.at_, .i v.rd.rounds, .i a.kind, .s a.text, .i a.refs, .s a.name, .i a.pick, .i a.ticks, .l (encS v.loose), .l (encP v.st.pins), .l (encL v.st.leases)] = _ ∧ _
  have hsm := h.small
  have hn := h.nT
  have hnm := ha.name
  rw [eqbb_i]
  have hk := ha.kind
  have hp := ha.pick
  by_cases c1 : a.kind = 1
  · obtain ⟨l, e, h4, _⟩ := actThing_ok a v.st ha hn.1
    have e' : Lqbu none [.i a.kind, .s a.text, .i a.refs, .s a.name, .i a.pick, .i a.ticks, .i v.st.width, .i v.st.now, .i v.st.given, .i v.st.births, .l (encK v.st.things), .l (encP v.st.pins), .l (encL v.st.leases)] = _ := e
    have ep := zcr hsm ⟨a.text, l⟩ a.ticks (by show l.length ≤ 1099511627776; omega)
    have ep' : Lqco none [.i v.width, .i v.limit, .l (encS v.safe), .l (encS v.loose), .i v.st.width, .i v.st.now, .i v.st.given, .i v.st.births, .l (encK v.st.things), .l (encP v.st.pins), .l (encL v.st.leases), .i v.rd.phase, .l (encS v.rd.queue), .l (encS v.rd.marked), .i v.rd.top, .i v.rd.at_, .i v.rd.rounds, .s a.text, .l (encS l), .i a.ticks] = _ := ep
    refine ⟨_, ?_, doS_GV h (ePut ⟨a.text, l⟩ a.ticks), .did (ePut ⟨a.text, l⟩ a.ticks) (by show (1 : Int) ≤ 1 ∧ (1 : Int) ≤ 6; omega) ha.text⟩
    rw [← done_21]
    simp (disch := omega) only [push_cast, e', ep']
    rfl
  by_cases c2 : a.kind = 2
  · obtain ⟨x, e⟩ := actSum_ok a v.st ha hn.1
    have e' : Lqck none [.i a.kind, .s a.text, .i a.refs, .s a.name, .i a.pick, .i a.ticks, .i v.st.width, .i v.st.now, .i v.st.given, .i v.st.births, .l (encK v.st.things), .l (encP v.st.pins), .l (encL v.st.leases)] = _ := e
    have ep := zcf hsm a.name x (by omega)
    have ep' : Lqcp none [.i v.width, .i v.limit, .l (encS v.safe), .l (encS v.loose), .i v.st.width, .i v.st.now, .i v.st.given, .i v.st.births, .l (encK v.st.things), .l (encP v.st.pins), .l (encL v.st.leases), .i v.rd.phase, .l (encS v.rd.queue), .l (encS v.rd.marked), .i v.rd.top, .i v.rd.at_, .i v.rd.rounds, .s a.name, .s x] = _ := ep
    refine ⟨_, ?_, doS_GV h (eHold a.name x), .did (eHold a.name x) (by show (1 : Int) ≤ 2 ∧ (2 : Int) ≤ 6; omega) (Nat.zero_le _)⟩
    rw [← done_21]
    simp (disch := omega) only [push_cast, e', ep']
    rfl
  by_cases c3 : a.kind = 3
  · have ep := zbu hsm a.name (by omega)
    have ep' : Lqcq none [.i v.width, .i v.limit, .l (encS v.safe), .l (encS v.loose), .i v.st.width, .i v.st.now, .i v.st.given, .i v.st.births, .l (encK v.st.things), .l (encP v.st.pins), .l (encL v.st.leases), .i v.rd.phase, .l (encS v.rd.queue), .l (encS v.rd.marked), .i v.rd.top, .i v.rd.at_, .i v.rd.rounds, .s a.name] = _ := ep
    refine ⟨_, ?_, doS_GV h (eLoosen a.name), .did (eLoosen a.name) (by show (1 : Int) ≤ 3 ∧ (3 : Int) ≤ 6; omega) (Nat.zero_le _)⟩
    rw [← done_21]
    simp (disch := omega) only [push_cast, ep']
    rfl
  by_cases c4 : a.kind = 4
  · obtain ⟨x, e⟩ := actSum_ok a v.st ha hn.1
    have e' : Lqck none [.i a.kind, .s a.text, .i a.refs, .s a.name, .i a.pick, .i a.ticks, .i v.st.width, .i v.st.now, .i v.st.given, .i v.st.births, .l (encK v.st.things), .l (encP v.st.pins), .l (encL v.st.leases)] = _ := e
    have ep := zbw hsm x a.ticks
    have ep' : Lqcr none [.i v.width, .i v.limit, .l (encS v.safe), .l (encS v.loose), .i v.st.width, .i v.st.now, .i v.st.given, .i v.st.births, .l (encK v.st.things), .l (encP v.st.pins), .l (encL v.st.leases), .i v.rd.phase, .l (encS v.rd.queue), .l (encS v.rd.marked), .i v.rd.top, .i v.rd.at_, .i v.rd.rounds, .s x, .i a.ticks] = _ := ep
    refine ⟨_, ?_, doS_GV h (eBorrow x a.ticks), .did (eBorrow x a.ticks) (by show (1 : Int) ≤ 4 ∧ (4 : Int) ≤ 6; omega) (Nat.zero_le _)⟩
    rw [← done_21]
    simp (disch := omega) only [push_cast, e', ep']
    rfl
  by_cases c5 : a.kind = 5
  · obtain ⟨x, e⟩ := actLease_ok a v.st ha hn.2
    have e' : Lqcm none [.i a.kind, .s a.text, .i a.refs, .s a.name, .i a.pick, .i a.ticks, .i v.st.width, .i v.st.now, .i v.st.given, .i v.st.births, .l (encK v.st.things), .l (encP v.st.pins), .l (encL v.st.leases)] = _ := e
    have ep := zbv hsm x
    have ep' : Lqcs none [.i v.width, .i v.limit, .l (encS v.safe), .l (encS v.loose), .i v.st.width, .i v.st.now, .i v.st.given, .i v.st.births, .l (encK v.st.things), .l (encP v.st.pins), .l (encL v.st.leases), .i v.rd.phase, .l (encS v.rd.queue), .l (encS v.rd.marked), .i v.rd.top, .i v.rd.at_, .i v.rd.rounds, .i x] = _ := ep
    refine ⟨_, ?_, doS_GV h (eGiveBack x), .did (eGiveBack x) (by show (1 : Int) ≤ 5 ∧ (5 : Int) ≤ 6; omega) (Nat.zero_le _)⟩
    rw [← done_21]
    simp (disch := omega) only [push_cast, e', ep']
    rfl
  by_cases c6 : a.kind = 6
  · have ep := zbs hsm a.ticks
    have ep' : Lqct none [.i v.width, .i v.limit, .l (encS v.safe), .l (encS v.loose), .i v.st.width, .i v.st.now, .i v.st.given, .i v.st.births, .l (encK v.st.things), .l (encP v.st.pins), .l (encL v.st.leases), .i v.rd.phase, .l (encS v.rd.queue), .l (encS v.rd.marked), .i v.rd.top, .i v.rd.at_, .i v.rd.rounds, .i a.ticks] = _ := ep
    refine ⟨_, ?_, doS_GV h (eWait a.ticks), .did (eWait a.ticks) (by show (1 : Int) ≤ 6 ∧ (6 : Int) ≤ 6; omega) (Nat.zero_le _)⟩
    rw [← done_21]
    simp (disch := omega) only [push_cast, ep']
    rfl
  by_cases c8 : a.kind = 8
  · have ep := zb3 hsm
    unfold encV at ep
    refine ⟨flushM v, ?_, ?_, .flush⟩
    · simp (disch := omega) only [push_cast, ep]; rfl
    · by_cases V : VV v
      · exact .inl (flush_VV V)
      · right; unfold flushM; rw [if_neg V]
  by_cases c9 : a.kind = 9
  · have ep := zbz hsm (a.pick.tmod 6)
    have ep' : Lqcu none [.i v.width, .i v.limit, .l (encS v.safe), .l (encS v.loose), .i v.st.width, .i v.st.now, .i v.st.given, .i v.st.births, .l (encK v.st.things), .l (encP v.st.pins), .l (encL v.st.leases), .i v.rd.phase, .l (encS v.rd.queue), .l (encS v.rd.marked), .i v.rd.top, .i v.rd.at_, .i v.rd.rounds, .i (a.pick.tmod 6)] = _ := ep
    refine ⟨loseM v (a.pick.tmod 6), ?_, ?_, .lose _⟩
    · simp (disch := omega) only [push_cast, ep']; rfl
    · by_cases V : VV v
      · exact .inl (lose_VV V _)
      · right; unfold loseM; rw [if_neg V]
  have c10 : a.kind = 10 := by omega
  have ep := zbr hsm a.pick
  have ep' : Lqbx none [.i v.width, .i v.limit, .l (encS v.safe), .l (encS v.loose), .i v.st.width, .i v.st.now, .i v.st.given, .i v.st.births, .l (encK v.st.things), .l (encP v.st.pins), .l (encL v.st.leases), .i v.rd.phase, .l (encS v.rd.queue), .l (encS v.rd.marked), .i v.rd.top, .i v.rd.at_, .i v.rd.rounds, .i a.pick] = _ := ep
  cases hr : (if VV v ∧ 0 ≤ a.pick ∧ a.pick ≤ 10000 then clrS a.pick.toNat v [] 0 else none) with
  | none =>
    rw [hr] at ep'
    refine ⟨V0, ?_, .inr rfl, .none⟩
    simp (disch := omega) only [push_cast, ep']; rfl
  | some r =>
    rw [hr] at ep'
    obtain ⟨v', d, u⟩ := r
    have hcv : VV v ∧ clrS a.pick.toNat v [] 0 = some (v', d, u) := by
      split at hr
      · rename_i hc; exact ⟨hc.1, hr⟩
      · cases hr
    refine ⟨v', ?_, .inl (clrS_VV _ _ _ _ _ hcv.1 hcv.2), .clear _ _ _ _ hcv.1 hcv.2⟩
    simp (disch := omega) only [push_cast, ep']; rfl
end KV
end
section
namespace KV
open Go Go.Eng
open Classical
def GL (v : Vault) : Prop := GV v ∧ Led v
theorem reached_8 {b : Rw} (hb : RB b) : ∀ (n : Nat) (v : Vault) (p : Int), GL v → 0 ≤ p ∧ p + 20 * n ≤ 999998000 →
    ∃ (v' : Vault) (p' : Int), Lqbc (some 8) ([.i (n : Int), .l b, .i p, .i 0, .i 0, .i 0, .i 0, .i 0, .i 0, .i 0, .i 0, .i 0, .i 0] ++ (vA v ++ ([.l [], .l [], .l [], .l [], .l [], .l [], .l []] ++ vB v))) = some (vA v' ++ ([.l b, .i p'] ++ vB v')) ∧ p ≤ p' ∧ p' ≤ p + 20 * n ∧ GL v' := by
  intro n
  induction n with
  | zero =>
    intro v p hv hp
    refine ⟨v, p, ?_, by omega, by omega, hv⟩
    show Lqbc (some 8) [.i ((0 : Nat) : Int), .l b, .i p, .i 0, .i 0, .i 0, .i 0, .i 0, .i 0, .i 0, .i 0, .i 0, .i 0, .i v.width, .i v.limit, .l (encS v.safe), .i v.st.width, .i v.st.now, .i v.st.given, .i v.st.births, .l (encK v.st.things), .i v.rd.phase, .l (encS v.rd.queue), .l (encS v.rd.marked), .i v.rd.top, .i v.rd.at_, .i v.rd.rounds, .l [], .l [], .l [], .l [], .l [], .l [], .l [], .l (encS v.loose), .l (encP v.st.pins), .l (encL v.st.leases)] = _
    rw [eqbc_8]
    simp (disch := omega) only [push_cast]
    rfl
  | succ n ih =>
    intro v p hv hp
    obtain ⟨a, p1, ea, h1, h2, ha⟩ := act_ok hb p (by omega)
    obtain ⟨v1, ed, hv1, ac⟩ := l7Done_ok hv.1 ha
    obtain ⟨v2, p2, er, h3, h4, hv2⟩ := ih v1 p1 ⟨hv1, .act v v1 hv.2 hv.1 ac⟩ (by omega)
    refine ⟨v2, p2, ?_, by omega, by omega, hv2⟩
    show Lqbc (some 8) [.i ((n + 1 : Nat) : Int), .l b, .i p, .i 0, .i 0, .i 0, .i 0, .i 0, .i 0, .i 0, .i 0, .i 0, .i 0, .i v.width, .i v.limit, .l (encS v.safe), .i v.st.width, .i v.st.now, .i v.st.given, .i v.st.births, .l (encK v.st.things), .i v.rd.phase, .l (encS v.rd.queue), .l (encS v.rd.marked), .i v.rd.top, .i v.rd.at_, .i v.rd.rounds, .l [], .l [], .l [], .l [], .l [], .l [], .l [], .l (encS v.loose), .l (encP v.st.pins), .l (encL v.st.leases)] = _
    rw [eqbc_8, ea]
    have ed' : Lqbb none [.i v.width, .i v.limit, .l (encS v.safe), .i v.st.width, .i v.st.now, .i v.st.given, .i v.st.births, .l (encK v.st.things), .i v.rd.phase, .l (encS v.rd.queue), .l (encS v.rd.marked), .i v.rd.top, .i v.rd.at_, .i v.rd.rounds, .i a.kind, .s a.text, .i a.refs, .s a.name, .i a.pick, .i a.ticks, .l (encS v.loose), .l (encP v.st.pins), .l (encL v.st.leases)] = _ := ed
    unfold encA
    simp only [List.cons_append, List.nil_append]
    simp (disch := omega) only [push_cast, ed']
    rw [show (n : Int) + 1 - 1 = (n : Int) by omega]
    exact er
theorem open_GV (w lim : Int) (hw : w = 1 ∨ w = 2 ∨ w = 8) (hl : 0 ≤ lim ∧ lim ≤ 1000000) : ∃ v, Lqcb none [.i w, .i lim, .l [], .l []] = some (encO (.inl v)) ∧ VV v ∧ v.rd = R0 ∧ v.safe = [] ∧ v.loose = [] := by
  have := zbe w lim [] [] ⟨Nat.zero_le _, fun x hx => nomatch hx⟩ ⟨Nat.zero_le _, fun x hx => nomatch hx⟩ (Nat.zero_le _)
  have hwb : widthB w = true := widthB_iff.2 (by omega)
  have hlog : LogOk [] [] := ⟨(fun x hx => nomatch hx), (fun x hx => nomatch hx), Nat.zero_le _⟩
  have ho : openM w lim [] [] = .inl ⟨w, lim, [], [], empty w, R0⟩ := by
    unfold openM
    rw [if_pos ⟨hwb, hl, hlog⟩]
    simp [runL]
  rw [ho] at this
  refine ⟨_, this, ⟨hwb, hl, hlog, by simp [runL], ?_⟩, rfl, rfl, rfl⟩
  exact (show RoundOk w 0 R0 from ⟨⟨Int.le_refl _, (by show (0 : Int) ≤ 2; omega)⟩, ⟨Int.le_refl _, (by show (0 : Int) ≤ 1000000000; omega)⟩, Nat.zero_le _, Nat.zero_le _, (fun x hx => nomatch hx), List.nodup_nil, (fun x hx => nomatch hx), fun _ => ⟨rfl, rfl, rfl, rfl⟩, fun h => absurd rfl h⟩)
theorem reached_ok {b : Rw} (hb : RB b) (p : Int) (hp : 0 ≤ p ∧ p ≤ 900000000) : ∃ (v : Vault) (p' : Int), Lqbc none [.l b, .i p] = some (vA v ++ ([.l b, .i p'] ++ vB v)) ∧ p ≤ p' ∧ p' ≤ p + 600 ∧ GL v := by
  obtain ⟨x1, e1, r1, s1⟩ := pick_ok hb 6 (by omega) p (by omega)
  have go : ∀ (lim q : Int), 0 ≤ lim ∧ lim ≤ 1000000 → p ≤ q ∧ q ≤ p + 2 → ∃ (w : Int) (v0 : Vault) (x5 x6 : Int), Lqcl none [.l b, .i q] = some [.i w, .l b, .i (q + 1)] ∧ Lqcb none [.i w, .i lim, .l [], .l []] = some (encO (.inl v0)) ∧ GL v0 ∧ v0.rd = R0 ∧
      Lqd none [.i 14, .l b, .i (q + 1)] = some [.i x5, .l b, .i (q + 1 + 1)] ∧ Lqd none [.i 6, .l b, .i (q + 1 + 1)] = some [.i x6, .l b, .i (q + 1 + 1 + 1)] ∧ 0 ≤ x5 ∧ x5 < 14 := by
    intro lim q hl hq
    obtain ⟨w, ew, hw⟩ := width_ok hb q (by omega)
    obtain ⟨v0, eo, hv, hr, ha, hb'⟩ := open_GV w lim hw hl
    obtain ⟨x5, e5, r5, s5⟩ := pick_ok hb 14 (by omega) (q + 1) (by omega)
    obtain ⟨x6, e6, r6, s6⟩ := pick_ok hb 6 (by omega) (q + 1 + 1) (by omega)
    exact ⟨w, v0, x5, x6, ew, eo, ⟨.inl hv, .new v0 ha hb'⟩, hr, e5, e6, by omega, by omega⟩
  have fin : ∀ (v0 : Vault) (x5 x6 q : Int), v0.rd = R0 → GL v0 → 0 ≤ x5 ∧ x5 < 14 → p ≤ q ∧ q ≤ p + 10 → ∃ (v : Vault) (p' : Int), p ≤ p' ∧ p' ≤ p + 600 ∧ GL v ∧ (cond (decide (x6 = 0)) (Lqbc (some 8) ([.i (x5 + 12), .l b, .i q, .i 0, .i 0, .i 0, .i 0, .i 0, .i 0, .i 0, .i 0, .i 0, .i 0] ++ (vA v0 ++ ([.l [], .l [], .l [], .l [], .l [], .l [], .l []] ++ vB v0)))) (Lqbc (some 8) ([.i x5, .l b, .i q, .i 0, .i 0, .i 0, .i 0, .i 0, .i 0, .i 0, .i 0, .i 0, .i 0] ++ (vA v0 ++ ([.l [], .l [], .l [], .l [], .l [], .l [], .l []] ++ vB v0))))) = some (vA v ++ ([.l b, .i p'] ++ vB v)) := by
    intro v0 x5 x6 q hr hg hx hq
    by_cases c : x6 = 0
    · obtain ⟨n, hn⟩ : ∃ n : Nat, x5 + 12 = n := ⟨(x5 + 12).toNat, by omega⟩
      obtain ⟨v, p', e, h1, h2, h3⟩ := reached_8 hb n v0 q hg (by omega)
      refine ⟨v, p', by omega, by omega, h3, ?_⟩
      rw [decide_eq_true c, cond_true, hn]; exact e
    · obtain ⟨n, hn⟩ : ∃ n : Nat, x5 = n := ⟨x5.toNat, by omega⟩
      obtain ⟨v, p', e, h1, h2, h3⟩ := reached_8 hb n v0 q hg (by omega)
      refine ⟨v, p', by omega, by omega, h3, ?_⟩
      rw [decide_eq_false c, cond_false, hn]; exact e
  rw [eqbc_i, e1]
  by_cases c : x1 = 0
  · obtain ⟨x2, e2, r2, s2⟩ := pick_ok hb 60 (by omega) (p + 1) (by omega)
    obtain ⟨w, v0, x5, x6, ew, eo, hg, hr, e5, e6, h0, h14⟩ := go (20 + x2) (p + 1 + 1) (by omega) (by omega)
    obtain ⟨v, p', h1, h2, h3, e⟩ := fin v0 x5 x6 (p + 1 + 1 + 1 + 1 + 1) hr hg ⟨h0, h14⟩ (by omega)
    refine ⟨v, p', ?_, h1, h2, h3⟩
    unfold encO at eo
    unfold vA vB at e
    rw [hr] at e
    simp (disch := omega) only [push_cast, e2, ew, eo, e5, e6]
    exact e
  · obtain ⟨w, v0, x5, x6, ew, eo, hg, hr, e5, e6, h0, h14⟩ := go 1000000 (p + 1) (by omega) (by omega)
    obtain ⟨v, p', h1, h2, h3, e⟩ := fin v0 x5 x6 (p + 1 + 1 + 1 + 1) hr hg ⟨h0, h14⟩ (by omega)
    refine ⟨v, p', ?_, h1, h2, h3⟩
    unfold encO at eo
    unfold vA vB at e
    rw [hr] at e
    simp (disch := omega) only [push_cast, ew, eo, e5, e6]
    exact e
end KV
end
section
namespace KV
open Go Go.Eng
open Classical
theorem bytesOf_one (n : Int) : (bytesOf ([[.i n]] : Rw)).size = 1 := bytesOf_size _
theorem dec_R : ∀ (k : Nat) (n : Int), n < 10 ^ (k + 1) → n ≤ 1000000000 → k ≤ 100 → ∃ s, Rqbg (k + 1) none [.i n] = some [.s s] ∧ 1 ≤ s.size ∧ s.size ≤ k + 1
  | 0, n, h, hn, hk => by
    have h10 : n < 10 := by simpa using h
    refine ⟨_, by rw [eqbg_i, cpos h10], ?_⟩
    rw [bytesOf_one]; omega
  | k + 1, n, h, hn, hk => by
    rw [eqbg_i]
    by_cases h10 : n < 10
    · refine ⟨_, by rw [cpos h10], ?_⟩
      rw [bytesOf_one]; omega
    · have hd : n.tdiv 10 < 10 ^ (k + 1) := by
        rw [Int.tdiv_eq_ediv_of_nonneg (by omega)]
        have : (10 : Int) ^ (k + 1 + 1) = 10 ^ (k + 1) * 10 := Int.pow_succ ..
        omega
      have h0 : 0 ≤ n.tdiv 10 ∧ n.tdiv 10 ≤ n := by rw [Int.tdiv_eq_ediv_of_nonneg (by omega)]; omega
      obtain ⟨s, e, h1, h2⟩ := dec_R k (n.tdiv 10) hd (by omega) (by omega)
      refine ⟨s ++ bytesOf ([[.i (IntKind.u8.wrap (IntKind.i64.wrap (48 + (n.tmod 10))))]] : Rw), ?_, ?_⟩
      · rw [cneg h10, w64 (n := n.tdiv 10) (by omega), e, mostE, Option.bind_some]
        show cond (decide (s.size + _ ≤ 1099511627776)) _ _ = _
        rw [cpos (by rw [bytesOf_one]; omega)]; rfl
      · rw [size_app, bytesOf_one]; omega
theorem dec_ok (n : Int) (h : n ≤ 1000000) : ∃ s, Lqbg none [.i n] = some [.s s] ∧ 1 ≤ s.size ∧ s.size ≤ 20 :=
  dec_R 19 n (by have : (10 : Int) ^ (19 + 1) = 100000000000000000000 := by decide
                 omega) (by omega) (by omega)
theorem many_11 (n i : Int) (ap : Bool) (last x : Bs) (refs : List Bs) (hi : 0 ≤ i ∧ i ≤ 1000000) (T : List Kept) (hT : T.length ≤ 100000) : ∀ (m k : Nat), T.length - k = m → k ≤ T.length →
    ∃ T' : List Kept, Lq4 (some 11) [.i n, .b ap, .s last, .i i, .i (k : Int), .i 0, .i 0, .i 0, .i 0, .i 8, .i 0, .i 0, .i n, .s x, .l [], .l [], .l [], .l (encK T), .l [], .l [], .l (encS refs)] =
      Lq4 (some 4) [.i n, .b ap, .s last, .i (i + 1), .i 0, .i 0, .i 0, .i 0, .i 8, .i 0, .i 0, .i n, .l [], .l [], .l [], .l (encK T'), .l [], .l []] ∧ T'.length = T.length + 1 ∧ ∀ k ∈ T', k ∈ T ∨ k = ⟨last, i, ⟨x, refs⟩⟩ := by
  intro m
  have ins : ∀ k : Nat, k ≤ T.length → ((([] : Rw) ++ (Eng.sub (encK T) 0 k)) ++ ([[.s last, .i i, .s x, .l (encS refs)]] : Rw)) ++ (Eng.sub (encK T) k T.length) = encK (T.take k ++ ⟨last, i, ⟨x, refs⟩⟩ :: T.drop k) := by
    intro k hk
    rw [encK_sub, encK_sub, encK_one, List.nil_append, encK_app, encK_app, List.drop_zero, Nat.sub_zero, List.take_of_length_le (l := T.drop k) (by rw [List.length_drop]; exact Nat.le_refl _), List.append_assoc]; rfl
  have fin : ∀ k : Nat, k ≤ T.length → (T.take k ++ (⟨last, i, ⟨x, refs⟩⟩ : Kept) :: T.drop k).length = T.length + 1 ∧ ∀ y ∈ T.take k ++ (⟨last, i, ⟨x, refs⟩⟩ : Kept) :: T.drop k, y ∈ T ∨ y = ⟨last, i, ⟨x, refs⟩⟩ := by
    intro k hk
    refine ⟨by rw [List.length_append, List.length_cons, List.length_take, List.length_drop]; omega, fun y hy => ?_⟩
    rcases List.mem_append.1 hy with h | h
    · exact .inl (List.mem_of_mem_take h)
    · rcases List.mem_cons.1 h with h | h
      · exact .inr h
      · exact .inl (List.mem_of_mem_drop h)
  have l1 : ∀ k : Nat, k ≤ T.length → (Eng.sub (encK T) 0 k).length = k := fun k hk => by rw [encK_sub, encK_len, List.length_take, List.length_drop]; omega
  have l2 : ∀ k : Nat, k ≤ T.length → (Eng.sub (encK T) k T.length).length = T.length - k := fun k hk => by rw [encK_sub, encK_len, List.length_take, List.length_drop]; omega
  induction m with
  | zero =>
    intro k hm hk
    have : k = T.length := by omega
    subst this
    refine ⟨_, ?_, fin T.length (Nat.le_refl _)⟩
    have := ins T.length (Nat.le_refl _)
    have a1 := l1 T.length (Nat.le_refl _); have a2 := l2 T.length (Nat.le_refl _)
    rw [eq4_11, mostE]
    simp (disch := omega) only [push_cast, a1, a2, List.length_append, List.length_nil, ← this]
  | succ m ih =>
    intro k hm hk
    have hlt : k < T.length := by omega
    cases hs : slt (nth K0 T k).sum last
    · refine ⟨_, ?_, fin k hk⟩
      have := ins k hk
      have a1 := l1 k hk; have a2 := l2 k hk
      rw [eq4_11, mostE]
      simp (disch := omega) only [push_cast, hs, a1, a2, List.length_append, List.length_nil, ← this]
    · obtain ⟨T', e, r⟩ := ih (k + 1) (by omega) (by omega)
      refine ⟨T', ?_, r⟩
      rw [eq4_11]
      simp (disch := omega) only [push_cast, hs]
      exact e
structure MT (k : Kept) : Prop where
  text : k.thing.text.size ≤ 20
  refs : k.thing.refs.length ≤ 1
  size : ∀ r ∈ k.thing.refs, r.size = 8
theorem many_4 (n : Nat) (hn : n ≤ 1000) (ap : Bool) : ∀ (m i : Nat) (last : Bs) (T : List Kept), n + 1 - i = m → 1 ≤ i → i ≤ n + 1 → T.length + 1 = i → (last = E0 ∨ last.size = 8) → (∀ k ∈ T, MT k) →
    ∃ T' : List Kept, Lq4 (some 4) [.i (n : Int), .b ap, .s last, .i (i : Int), .i 0, .i 0, .i 0, .i 0, .i 8, .i 0, .i 0, .i (n : Int), .l [], .l [], .l [], .l (encK T), .l [], .l []] = some [.i 8, .i 0, .i 0, .i (n : Int), .l (encK T'), .l [], .l []] ∧ T'.length = n ∧ ∀ k ∈ T', MT k := by
  intro m
  induction m with
  | zero =>
    intro i last T hm h1 hi hT hl hM
    refine ⟨T, ?_, by omega, hM⟩
    rw [eq4_4]; simp (disch := omega) only [push_cast]
  | succ m ih =>
    intro i last T hm h1 hi hT hl hM
    obtain ⟨x, ex, hx1, hx2⟩ := dec_ok (i : Int) (by omega)
    have h8 : widthB 8 = true := by rfl
    have go : ∀ refs : List Bs, refs.length ≤ 1 → (∀ r ∈ refs, r.size = 8) → ∃ T' : List Kept, Lq4 (some 11) [.i (n : Int), .b ap, .s (sumM (formT ⟨x, refs⟩ 8) 8), .i (i : Int), .i 0, .i 0, .i 0, .i 0, .i 0, .i 8, .i 0, .i 0, .i (n : Int), .s x, .l [], .l [], .l [], .l (encK T), .l [], .l [], .l (encS refs)] = some [.i 8, .i 0, .i 0, .i (n : Int), .l (encK T'), .l [], .l []] ∧ T'.length = n ∧ ∀ k ∈ T', MT k := by
      intro refs hr1 hr2
      obtain ⟨T1, e1, h3, h4⟩ := many_11 (n : Int) (i : Int) ap (sumM (formT ⟨x, refs⟩ 8) 8) x refs (by omega) T (by omega) T.length 0 (by omega) (Nat.zero_le _)
      have hz := sumM_size (s := formT ⟨x, refs⟩ 8) h8
      obtain ⟨T2, e2, h5, h6⟩ := ih (i + 1) (sumM (formT ⟨x, refs⟩ 8) 8) T1 (by omega) (by omega) (by omega) (by omega) (.inr (by omega)) (fun k hk => by
        rcases h4 k hk with h | h
        · exact hM k h
        · rw [h]; exact ⟨hx2, hr1, hr2⟩)
      exact ⟨T2, e1.trans e2, h5, h6⟩
    have hft : ∀ refs : List Bs, Lqk none [.s (formT ⟨x, refs⟩ 8), .i 8] = some [.s (sumM (formT ⟨x, refs⟩ 8) 8)] := fun refs => zq _ 8 (by have := formT_size ⟨x, refs⟩ 8; omega)
    have hfo : ∀ refs : List Bs, Lqr none [.s x, .l (encS refs), .i 8] = some [.s (formT ⟨x, refs⟩ 8)] := fun refs => zn ⟨x, refs⟩ 8
    have hf0 : Lqr none [.s x, .l [], .i 8] = some [.s (formT ⟨x, []⟩ 8)] := hfo []
    have hf1 : Lqr none [.s x, .l [[.s last]], .i 8] = some [.s (formT ⟨x, [last]⟩ 8)] := hfo [last]
    rw [eq4_4]
    cases ap
    · by_cases hE : last = E0
      · obtain ⟨T', e, r⟩ := go [] (by simp) (fun r hr => nomatch hr)
        refine ⟨T', ?_, r⟩
        simp (disch := omega) only [push_cast, ex, hf0, hft]
        exact e
      · obtain ⟨T', e, r⟩ := go [last] (by simp) (fun r hr => by rw [List.mem_singleton] at hr; rw [hr]; exact hl.resolve_left hE)
        refine ⟨T', ?_, r⟩
        simp (disch := omega) only [push_cast, ex, hf1, hft]
        exact e
    · obtain ⟨T', e, r⟩ := go [] (by simp) (fun r hr => nomatch hr)
      refine ⟨T', ?_, r⟩
      simp (disch := omega) only [push_cast, ex, hf0, hft]
      exact e
theorem many_ok7 (n : Nat) (hn : n ≤ 1000) (ap : Bool) : ∃ T' : List Kept, Lq4 none [.i (n : Int), .b ap] = some [.i 8, .i 0, .i 0, .i (n : Int), .l (encK T'), .l [], .l []] ∧ T'.length = n ∧ ∀ k ∈ T', MT k := by
  obtain ⟨T', e, r⟩ := many_4 n hn ap n 1 E0 [] (by omega) (Nat.le_refl _) (by omega) rfl (.inl rfl) (fun k hk => nomatch hk)
  exact ⟨T', by rw [eq4_i]; exact e, r⟩
end KV
end
section
namespace KV
open Go Go.Eng
open Classical
def bl (s : Bs) : List UInt8 := s.data.toList
theorem bl_app (x y : Bs) : bl (x ++ y) = bl x ++ bl y := by
  unfold bl; rw [ByteArray.data_append, Array.toList_append]
theorem bl_inj {x y : Bs} (h : bl x = bl y) : x = y := Go.WideShapes.bytes_inj h
theorem bl_len (x : Bs) : (bl x).length = x.size := by unfold bl; rw [Array.length_toList]; rfl
theorem cat_bl (l : List Bs) : ∀ a, bl (cat a l) = bl a ++ l.flatMap bl := by
  induction l with
  | nil => intro a; simp [cat]
  | cons x l ih => intro a; show bl (cat (a ++ x) l) = _; rw [ih, bl_app, List.flatMap_cons, List.append_assoc]
theorem chunks {w : Nat} : ∀ (l m : List Bs), (∀ r ∈ l, r.size = w) → (∀ r ∈ m, r.size = w) → l.length = m.length → l.flatMap bl = m.flatMap bl → l = m
  | [], [], _, _, _, _ => rfl
  | [], _ :: _, _, _, h, _ => by simp at h
  | _ :: _, [], _, _, h, _ => by simp at h
  | x :: l, y :: m, h1, h2, h3, h4 => by
    rw [List.flatMap_cons, List.flatMap_cons] at h4
    have := List.append_inj h4 (by rw [bl_len, bl_len, h1 x (by simp), h2 y (by simp)])
    rw [bl_inj this.1, chunks l m (fun r hr => h1 r (by simp [hr])) (fun r hr => h2 r (by simp [hr])) (by simpa using h3) this.2]
theorem szs_uni {l : List Bs} {w : Nat} (h : ∀ r ∈ l, r.size = w) : szs l = l.length * w := by
  induction l with
  | nil => simp [szs]
  | cons a l ih => rw [szs_cons, List.length_cons, ih fun r hr => h r (by simp [hr]), h a (by simp), Nat.add_mul]; omega
theorem form_cut {t u : Thing} {a b : Nat} (ha : ∀ r ∈ t.refs, r.size = a) (hb : ∀ r ∈ u.refs, r.size = b) (ht : t.text = u.text) (hn : t.refs.length = u.refs.length) (hf : formM t = formM u) : t.refs = u.refs := by
  have h1 := congrArg ByteArray.size hf
  rw [formM_size, formM_size, ht, szs_uni ha, szs_uni hb, hn] at h1
  by_cases h0 : u.refs.length = 0
  · rw [List.eq_nil_of_length_eq_zero h0, List.eq_nil_of_length_eq_zero (hn.trans h0)]
  · have hab : a = b := Nat.eq_of_mul_eq_mul_left (by omega : 0 < u.refs.length) (by omega)
    subst hab
    have h2 := congrArg bl hf
    unfold formM at h2
    rw [bl_app, bl_app, cat_bl, cat_bl, ht, hn] at h2
    have h3 := List.append_cancel_right h2
    exact chunks _ _ ha hb hn (List.append_cancel_left h3)
structure BS (s : State) : Prop where
  nT : s.things.length ≤ 1000
  nP : s.pins.length ≤ 1000
  nL : s.leases.length ≤ 1000
  t : ∀ k ∈ s.things, 1 + szs k.thing.refs + k.thing.text.size ≤ 1000000 ∧ k.thing.refs.length ≤ 40 ∧ k.thing.text.size ≤ 3000
  nm : ∀ p ∈ s.pins, p.name.size ≤ 100
  ints : (-10 ≤ s.width ∧ s.width ≤ 100) ∧ (-1 ≤ s.now ∧ s.now ≤ 1000001000) ∧ (-1 ≤ s.given ∧ s.given ≤ 1000001000) ∧ (-1 ≤ s.births ∧ s.births ≤ 1000001000)
theorem BS.small {s : State} (h : BS s) : Small1 s := by
  have h1 := h.nT; have h2 := h.nP; have h3 := h.nL
  exact ⟨by omega, by omega, by omega, fun k hk => by have := h.t k hk; omega⟩
theorem BS.names {s : State} (h : BS s) : ∀ p ∈ s.pins, p.name.size ≤ 4611686018427387904 := fun p hp => by have := h.nm p hp; omega
theorem VS.bs {s : State} (V : VS s) : BS s := by
  have h1 := V.nT; have h2 := V.nP; have h3 := V.nL; have a := V.wd; have b := V.now; have c := V.given; have d := V.births
  exact ⟨by omega, by omega, by omega, fun k hk => by have := okForm (V.okT k hk).1; have := (V.okT k hk).1.text; omega, fun p hp => by have := (V.okP p hp).1.hi; omega, by omega, by omega, by omega, by omega⟩
theorem Cut.same {s s' : State} (h : s'.things = s.things) : Cut s s' := fun i h1 h2 _ _ _ => by rw [h]
theorem Cut.uni {s s' : State} {a b : Nat} (ha : ∀ k ∈ s.things, ∀ r ∈ k.thing.refs, r.size = a) (hb : ∀ k ∈ s'.things, ∀ r ∈ k.thing.refs, r.size = b) : Cut s s' := fun i h1 h2 h3 h4 h5 =>
  form_cut (ha _ (nth_mem h1)) (hb _ (nth_mem h2)) h3 h4 h5
theorem VS.uni {s : State} (V : VS s) : ∀ k ∈ s.things, ∀ r ∈ k.thing.refs, r.size = s.width.toNat := fun k hk r hr => by
  have := (V.okT k hk).1.size r hr; omega
theorem Cut.spoil {s s' : State} (V : VS s) (j : Nat) (k : Kept) (hj : j < s.things.length) (h : s'.things = s.things.set j k) (hs : SpT (nth K0 s.things j).thing k.thing) : Cut s s' := by
  intro i h1 h2 h3 h4 h5
  by_cases hij : j = i
  · subst hij
    have e : nth K0 s'.things j = k := by
      rw [nth_get _ _ _ h2]; simp only [h]; rw [List.getElem_set_self]
    rw [e] at h3 h4 h5 ⊢
    cases hs with
    | text hr _ => rw [hr]
    | more r _ hr _ => rw [hr, List.length_append] at h4; simp at h4
    | ones ht hr hn => exact form_cut (V.uni _ (nth_mem hj)) hr h3 h4 h5
  · have e : nth K0 s'.things i = nth K0 s.things i := by
      rw [nth_get _ _ _ h2, nth_get _ _ _ h1]; simp only [h]; rw [List.getElem_set_ne hij]
    rw [e]
end KV
end
section
namespace KV
open Go Go.Eng
open Classical
theorem wrK1 (l : List Kept) (i : Nat) (n : Int) (h : i < l.length) : wrs (encK l) i 1 [.i n] = encK (l.set i { nth K0 l i with born := n }) := by
  have : (l.map cK).getD i [] = cK (nth K0 l i) := by rw [nth_get K0 l i h, List.getD_eq_getElem?_getD]; simp [h]
  unfold wrs wrs wr encK
  rw [List.map_set, this]; rfl
theorem wrK2 (l : List Kept) (i : Nat) (x : Bs) (r : List Bs) (h : i < l.length) : wrs (encK l) i 2 [.s x, .l (encS r)] = encK (l.set i ⟨(nth K0 l i).sum, (nth K0 l i).born, ⟨x, r⟩⟩) := by
  have : (l.map cK).getD i [] = cK (nth K0 l i) := by rw [nth_get K0 l i h, List.getD_eq_getElem?_getD]; simp [h]
  unfold wrs wrs wrs wr encK
  rw [this, List.map_set, List.getD_eq_getElem?_getD, List.getElem?_set_self (by simpa using h), List.set_set]; rfl
theorem wrL (l : List Lease) (i o : Nat) (n : Int) (h : i < l.length) (L' : Lease) (he : setAt (cL (nth L0 l i)) o (.i n) = cL L') : wrs (encL l) i o [.i n] = encL (l.set i L') := by
  have : (l.map cL).getD i [] = cL (nth L0 l i) := by rw [nth_get L0 l i h, List.getD_eq_getElem?_getD]; simp [h]
  unfold wrs wrs wr encL
  rw [List.map_set, this, ← he]
def GS (s : State) : Prop := VS s ∨ s = ⟨0, 0, 0, 0, [], [], []⟩
theorem GS.bs {s : State} (h : GS s) : BS s := by
  rcases h with h | rfl
  · exact h.bs
  · exact ⟨Nat.zero_le _, Nat.zero_le _, Nat.zero_le _, (fun k hk => nomatch hk), (fun k hk => nomatch hk), by simp⟩
theorem GS.th {s : State} (h : GS s) : s.things.length ≤ 600 ∧ s.pins.length ≤ 100 ∧ s.leases.length ≤ 200 ∧ ∀ k ∈ s.things, 1 + szs k.thing.refs + k.thing.text.size ≤ 2241 ∧ k.thing.refs.length ≤ 30 ∧ k.thing.text.size ≤ 2000 ∧ ∀ r ∈ k.thing.refs, r.size ≤ 8 := by
  rcases h with h | rfl
  · refine ⟨h.nT, h.nP, h.nL, fun k hk => ?_⟩
    have h1 := (h.okT k hk).1; have h2 := okForm h1
    exact ⟨h2.1, h2.2, h1.text, fun r hr => by have := h1.size r hr; have := h.wd; omega⟩
  · exact ⟨Nat.zero_le _, Nat.zero_le _, Nat.zero_le _, fun k hk => nomatch hk⟩
theorem GS.now {s : State} (h : GS s) : (0 ≤ s.now ∧ s.now ≤ 1000000000) ∧ (0 ≤ s.given ∧ s.given ≤ 1000000000) ∧ (0 ≤ s.births ∧ s.births ≤ 1000000000) ∧ (0 ≤ s.width ∧ s.width ≤ 8) := by
  rcases h with h | rfl
  · have := h.wd; exact ⟨h.now, h.given, h.births, by omega⟩
  · simp
theorem MT.size' {k : Kept} (h : MT k) : 1 + szs k.thing.refs + k.thing.text.size ≤ 1000000 ∧ k.thing.refs.length ≤ 40 ∧ k.thing.text.size ≤ 3000 := by
  have h1 := szs_uni h.size; have h2 := h.refs; have h3 := h.text
  have : k.thing.refs.length * 8 ≤ 8 := by omega
  omega
def l3 : Rw := [[.i (-1)], [.i 1000000000], [.i 1000000001]]
def l5 : Rw := [[.i (-1)], [.i 0], [.i 1], [.i 1000000000], [.i 1000000001]]
def l4 : Rw := [[.i (-1)], [.i 0], [.i 1000000000], [.i 1000000001]]
theorem l3_rng (n : Nat) (h : n < 3) : -1 ≤ (rd l3 n 0).int ∧ (rd l3 n 0).int ≤ 1000000001 := by
  match n, h with
  | 0, _ => exact ⟨by show (-1 : Int) ≤ -1; omega, by show (-1 : Int) ≤ 1000000001; omega⟩
  | 1, _ => exact ⟨by show (-1 : Int) ≤ 1000000000; omega, by show (1000000000 : Int) ≤ 1000000001; omega⟩
  | 2, _ => exact ⟨by show (-1 : Int) ≤ 1000000001; omega, by show (1000000001 : Int) ≤ 1000000001; omega⟩
theorem l4_rng (n : Nat) (h : n < 4) : -1 ≤ (rd l4 n 0).int ∧ (rd l4 n 0).int ≤ 1000000001 := by
  match n, h with
  | 0, _ => exact ⟨by show (-1 : Int) ≤ -1; omega, by show (-1 : Int) ≤ 1000000001; omega⟩
  | 1, _ => exact ⟨by show (-1 : Int) ≤ 0; omega, by show (0 : Int) ≤ 1000000001; omega⟩
  | 2, _ => exact ⟨by show (-1 : Int) ≤ 1000000000; omega, by show (1000000000 : Int) ≤ 1000000001; omega⟩
  | 3, _ => exact ⟨by show (-1 : Int) ≤ 1000000001; omega, by show (1000000001 : Int) ≤ 1000000001; omega⟩
theorem l5_rng (n : Nat) (h : n < 5) : -1 ≤ (rd l5 n 0).int ∧ (rd l5 n 0).int ≤ 1000000001 := by
  match n, h with
  | 0, _ => exact ⟨by show (-1 : Int) ≤ -1; omega, by show (-1 : Int) ≤ 1000000001; omega⟩
  | 1, _ => exact ⟨by show (-1 : Int) ≤ 0; omega, by show (0 : Int) ≤ 1000000001; omega⟩
  | 2, _ => exact ⟨by show (-1 : Int) ≤ 1; omega, by show (1 : Int) ≤ 1000000001; omega⟩
  | 3, _ => exact ⟨by show (-1 : Int) ≤ 1000000000; omega, by show (1000000000 : Int) ≤ 1000000001; omega⟩
  | 4, _ => exact ⟨by show (-1 : Int) ≤ 1000000001; omega, by show (1000000001 : Int) ≤ 1000000001; omega⟩
end KV
end
section
namespace KV
open Go Go.Eng
open Classical
def nm4 : Rw := [[.s (⟨#[112]⟩ : ByteArray)], [.s (⟨#[122]⟩ : ByteArray)], [.s (⟨#[]⟩ : ByteArray)], [.s (⟨#[120, 32, 121]⟩ : ByteArray)]]
def nm2 : Rw := [[.s (⟨#[97]⟩ : ByteArray)], [.s (⟨#[122]⟩ : ByteArray)]]
def h4 : Rw := [[.i 0], [.i 1], [.i 100000], [.i 100001]]
theorem nm4_size (i : Nat) : ((rd nm4 i 0).str).size ≤ 3 := by
  match i with
  | 0 => exact (by show (1 : Nat) ≤ 3; omega)
  | 1 => exact (by show (1 : Nat) ≤ 3; omega)
  | 2 => exact Nat.zero_le _
  | 3 => exact Nat.le_refl _
  | n + 4 => exact Nat.zero_le _
theorem nm2_size (i : Nat) : ((rd nm2 i 0).str).size ≤ 3 := by
  match i with
  | 0 => exact (by show (1 : Nat) ≤ 3; omega)
  | 1 => exact (by show (1 : Nat) ≤ 3; omega)
  | n + 2 => exact Nat.zero_le _
theorem h4_rng (n : Nat) (h : n < 4) : 0 ≤ (rd h4 n 0).int ∧ (rd h4 n 0).int ≤ 100001 := by
  match n, h with
  | 0, _ => exact ⟨by show (0 : Int) ≤ 0; omega, by show (0 : Int) ≤ 100001; omega⟩
  | 1, _ => exact ⟨by show (0 : Int) ≤ 1; omega, by show (1 : Int) ≤ 100001; omega⟩
  | 2, _ => exact ⟨by show (0 : Int) ≤ 100000; omega, by show (100000 : Int) ≤ 100001; omega⟩
  | 3, _ => exact ⟨by show (0 : Int) ≤ 100001; omega, by show (100001 : Int) ≤ 100001; omega⟩
def spO (s : State) (b : Rw) (p : Int) : Lv := [.i s.width, .i s.now, .i s.given, .i s.births, .l b, .i p, .l (encK s.things), .l (encP s.pins), .l (encL s.leases)]
theorem cond_c {α : Type} {c c' : Bool} {a b : α} (h : c = c') : cond c a b = cond c' a b := by rw [h]
theorem bind_c {α β : Type} {x y : Option α} {f : α → Option β} (h : x = y) : x.bind f = y.bind f := by rw [h]
attribute [local congr] cond_c bind_c
set_option maxHeartbeats 8000000 in
theorem spoil_ok {b : Rw} (hb : RB b) {s : State} (h : GS s) (p : Int) (hp : 0 ≤ p ∧ p ≤ 900000000) : ∃ (s' : State) (p' : Int), Lqcv none (encSt s ++ [.l b, .i p]) = some (spO s' b p') ∧ p ≤ p' ∧ p' ≤ p + 30 ∧ BS s' ∧ (VS s → Cut s s') := by
  show ∃ (s' : State) (p' : Int), Lqcv none [.i s.width, .i s.now, .i s.given, .i s.births, .l (encK s.things), .l (encP s.pins), .l (encL s.leases), .l b, .i p] = _ ∧ _
  obtain ⟨n1, n2, n3, hk⟩ := h.th
  obtain ⟨i1, i2, i3, i4⟩ := h.now
  have B := h.bs
  have hcp := zr s.width s.now s.given s.births s.things (encP s.pins) (encL s.leases) (by omega) (fun k hk2 => by have := hk k hk2; omega) (by rw [encP_len]; omega) (by rw [encL_len]; omega)
  obtain ⟨x, ex, rx, sx⟩ := pick_ok hb (s.things.length : Int) (by omega) p (by omega)
  obtain ⟨c, ec, rc, sc⟩ := pick_ok hb 12 (by omega) (p + 1) (by omega)
  rw [eqcv_i, hcp, mostE]
  by_cases c0 : c = 0
  · obtain ⟨y, ey, ry, sy⟩ := pick_ok hb 11 (by omega) (p + 1 + 1) (by omega)
    refine ⟨{ s with width := y - 1 }, p + 1 + 1 + 1, ?_, by omega, by omega, ⟨B.nT, B.nP, B.nL, B.t, B.nm, ⟨by simp only; omega, B.ints.2⟩⟩, fun _ => Cut.same rfl⟩
    simp (disch := omega) only [push_cast, ex, ec, ey]; rfl
  by_cases c1 : c = 1
  · obtain ⟨y, ey, ry, sy⟩ := pick_ok hb 3 (by omega) (p + 1 + 1) (by omega)
    have hr := l3_rng y.toNat (by omega)
    refine ⟨{ s with now := (rd l3 y.toNat 0).int }, p + 1 + 1 + 1, ?_, by omega, by omega, ⟨B.nT, B.nP, B.nL, B.t, B.nm, ⟨B.ints.1, by simp only; omega, B.ints.2.2⟩⟩, fun _ => Cut.same rfl⟩
    simp (disch := omega) only [push_cast, ex, ec, ey]; rfl
  by_cases c2 : c = 2
  · obtain ⟨y, ey, ry, sy⟩ := pick_ok hb 5 (by omega) (p + 1 + 1) (by omega)
    have hr := l5_rng y.toNat (by omega)
    refine ⟨{ s with births := (rd l5 y.toNat 0).int }, p + 1 + 1 + 1, ?_, by omega, by omega, ⟨B.nT, B.nP, B.nL, B.t, B.nm, ⟨B.ints.1, B.ints.2.1, B.ints.2.2.1, by simp only; omega⟩⟩, fun _ => Cut.same rfl⟩
    simp (disch := omega) only [push_cast, ex, ec, ey]; rfl
  by_cases c3 : c = 3
  · obtain ⟨y, ey, ry, sy⟩ := pick_ok hb 4 (by omega) (p + 1 + 1) (by omega)
    have hr := l4_rng y.toNat (by omega)
    refine ⟨{ s with given := (rd l4 y.toNat 0).int }, p + 1 + 1 + 1, ?_, by omega, by omega, ⟨B.nT, B.nP, B.nL, B.t, B.nm, ⟨B.ints.1, B.ints.2.1, by simp only; omega, B.ints.2.2.2⟩⟩, fun _ => Cut.same rfl⟩
    simp (disch := omega) only [push_cast, ex, ec, ey]; rfl
  have stay : ∃ (s' : State) (p' : Int), some (spO s b (p + 1 + 1)) = some (spO s' b p') ∧ p ≤ p' ∧ p' ≤ p + 30 ∧ BS s' ∧ (VS s → Cut s s') := ⟨s, p + 1 + 1, rfl, by omega, by omega, B, fun _ => Cut.refl s⟩
  by_cases c4 : c = 4
  · by_cases h0 : 0 < s.things.length
    rotate_left
    · refine ⟨s, p + 1 + 1, ?_, by omega, by omega, B, fun _ => Cut.refl s⟩
      simp (disch := omega) only [push_cast, ex, ec]; rfl
    obtain ⟨j, hj⟩ : ∃ j : Nat, x = j := ⟨x.toNat, by omega⟩
    have hjl : j < s.things.length := by omega
    have hkj := hk _ (nth_mem (d := K0) hjl)
    obtain ⟨t', p', e, h1, h2, hs⟩ := spoilThing_ok hb (nth K0 s.things j).thing (by omega) (p + 1 + 1) (by omega)
    have hw := wrK2 s.things j t'.text t'.refs hjl
    refine ⟨{ s with things := s.things.set j ⟨(nth K0 s.things j).sum, (nth K0 s.things j).born, t'⟩ }, p', ?_, by omega, by omega, ⟨by simp only [List.length_set]; omega, B.nP, B.nL, fun k hk2 => ?_, B.nm, B.ints⟩, fun V => Cut.spoil V j ⟨(nth K0 s.things j).sum, (nth K0 s.things j).born, t'⟩ hjl rfl hs⟩
    · simp (disch := omega) only [push_cast, ex, ec, hj, e, hw]; rfl
    · rcases List.mem_or_eq_of_mem_set hk2 with h3 | h3
      · exact B.t k h3
      · rw [h3]
        cases hs with
        | text hr hz => simp only; rw [hr]; omega
        | more r ht hr hz =>
          have hrs : r.size ≤ 8 := by
            rcases hz with h | h
            · omega
            · exact hkj.2.2.2 r h
          have q1 : szs [r] = r.size := by simp [szs]
          have q2 : [r].length = 1 := rfl
          simp only; rw [ht, hr, szs_app, List.length_append, q1, q2]; omega
        | ones ht hr hn => have := szs_uni hr; simp only; rw [ht]; omega
  by_cases c5 : c = 5
  · by_cases h0 : 1 < s.things.length
    rotate_left
    · refine ⟨s, p + 1 + 1, ?_, by omega, by omega, B, fun _ => Cut.refl s⟩
      simp (disch := omega) only [push_cast, ex, ec]; rfl
    have hw := wrK1 s.things 0 (nth K0 s.things 1).born (by omega)
    refine ⟨{ s with things := s.things.set 0 { nth K0 s.things 0 with born := (nth K0 s.things 1).born } }, p + 1 + 1, ?_, by omega, by omega, ⟨by simp only [List.length_set]; omega, B.nP, B.nL, fun k hk2 => ?_, B.nm, B.ints⟩, fun V => Cut.spoil V 0 { nth K0 s.things 0 with born := (nth K0 s.things 1).born } (by omega) rfl (.text rfl (.inr (Nat.le_succ _)))⟩
    · simp (disch := omega) only [push_cast, ex, ec, hw]; rfl
    · rcases List.mem_or_eq_of_mem_set hk2 with h3 | h3
      · exact B.t k h3
      · rw [h3]; exact B.t (nth K0 s.things 0) (nth_mem (d := K0) (by omega))
  by_cases c6 : c = 6
  · by_cases h0 : 0 < s.things.length
    rotate_left
    · refine ⟨s, p + 1 + 1, ?_, by omega, by omega, B, fun _ => Cut.refl s⟩
      simp (disch := omega) only [push_cast, ex, ec]; rfl
    obtain ⟨j, hj⟩ : ∃ j : Nat, x = j := ⟨x.toNat, by omega⟩
    have hjl : j < s.things.length := by omega
    have a1 : Eng.sub (encK s.things) 0 j = encK (s.things.take j) := by rw [encK_sub]; simp
    have a2 : Eng.sub (encK s.things) (j + 1) s.things.length = encK (s.things.drop (j + 1)) := by rw [encK_sub, List.take_of_length_le (by rw [List.length_drop]; exact Nat.le_refl _)]
    have b1 : (s.things.take j).length = j := by rw [List.length_take]; omega
    have b2 : (s.things.drop (j + 1)).length = s.things.length - (j + 1) := List.length_drop
    have hin : ∀ k ∈ s.things.take j ++ s.things.drop (j + 1), k ∈ s.things := fun k hk2 => (List.mem_append.1 hk2).elim List.mem_of_mem_take List.mem_of_mem_drop
    refine ⟨{ s with things := s.things.take j ++ s.things.drop (j + 1) }, p + 1 + 1, ?_, by omega, by omega, ⟨by simp only [List.length_append]; omega, B.nP, B.nL, fun k hk2 => B.t k (hin k hk2), B.nm, B.ints⟩, fun V => Cut.uni V.uni fun k hk2 => V.uni k (hin k hk2)⟩
    have c1' : (encK (s.things.take j)).length = j := by rw [encK_len]; exact b1
    have c2' : (encK (s.things.drop (j + 1))).length = s.things.length - (j + 1) := by rw [encK_len]; exact b2
    simp (disch := omega) only [push_cast, ex, ec, hj, a1, a2, List.nil_append, c1', c2', List.length_append]
    rw [encK_app]; rfl
  by_cases c7 : c = 7
  · obtain ⟨y, ey, ry, sy⟩ := pick_ok hb 4 (by omega) (p + 1 + 1) (by omega)
    have hnm : ((rd nm4 y.toNat 0).str).size ≤ 3 := nm4_size _
    refine ⟨{ s with pins := s.pins ++ [⟨(rd nm4 y.toNat 0).str, sumM ⟨#[113]⟩ s.width⟩] }, p + 1 + 1 + 1, ?_, by omega, by omega, ⟨B.nT, by simp; omega, B.nL, B.t, fun q hq => ?_, B.ints⟩, fun _ => Cut.same rfl⟩
    · have hsu := zq (⟨#[113]⟩ : ByteArray) s.width (by show (1 : Nat) ≤ 1099511627776; omega)
      simp (disch := omega) only [push_cast, ex, ec, ey, hsu]
      rw [encP_one, encP_app]; rfl
    · rcases List.mem_append.1 hq with h1 | h1
      · exact B.nm q h1
      · rw [List.mem_singleton] at h1; rw [h1]; simp only; omega
  by_cases c8 : c = 8
  · by_cases h0 : 0 < s.things.length
    rotate_left
    · refine ⟨s, p + 1 + 1, ?_, by omega, by omega, B, fun _ => Cut.refl s⟩
      simp (disch := omega) only [push_cast, ex, ec]; rfl
    obtain ⟨j, hj⟩ : ∃ j : Nat, x = j := ⟨x.toNat, by omega⟩
    have hjl : j < s.things.length := by omega
    obtain ⟨y, ey, ry, sy⟩ := pick_ok hb 2 (by omega) (p + 1 + 1) (by omega)
    have hnm : ((rd nm2 y.toNat 0).str).size ≤ 3 := nm2_size _
    refine ⟨{ s with pins := s.pins ++ [⟨(rd nm2 y.toNat 0).str, (nth K0 s.things j).sum⟩] }, p + 1 + 1 + 1, ?_, by omega, by omega, ⟨B.nT, by simp; omega, B.nL, B.t, fun q hq => ?_, B.ints⟩, fun _ => Cut.same rfl⟩
    · simp (disch := omega) only [push_cast, ex, ec, ey, hj]
      rw [encP_one, encP_app]; rfl
    · rcases List.mem_append.1 hq with h1 | h1
      · exact B.nm q h1
      · rw [List.mem_singleton] at h1; rw [h1]; simp only; omega
  by_cases c9 : c = 9
  · by_cases h0 : 0 < s.leases.length
    rotate_left
    · refine ⟨s, p + 1 + 1, ?_, by omega, by omega, B, fun _ => Cut.refl s⟩
      simp (disch := omega) only [push_cast, ex, ec]; rfl
    obtain ⟨y, ey, ry, sy⟩ := pick_ok hb 4 (by omega) (p + 1 + 1) (by omega)
    have hr := h4_rng y.toNat (by omega)
    have hw := wrL s.leases 0 2 (s.now + (rd h4 y.toNat 0).int) h0 { nth L0 s.leases 0 with till := s.now + (rd h4 y.toNat 0).int } rfl
    refine ⟨{ s with leases := s.leases.set 0 { nth L0 s.leases 0 with till := s.now + (rd h4 y.toNat 0).int } }, p + 1 + 1 + 1, ?_, by omega, by omega, ⟨B.nT, B.nP, by simp; omega, B.t, B.nm, B.ints⟩, fun _ => Cut.same rfl⟩
    unfold h4 at hw hr ⊢
    simp (disch := omega) only [push_cast, ex, ec, ey, hw]; rfl
  by_cases c10 : c = 10
  · by_cases h0 : 0 < s.leases.length
    rotate_left
    · refine ⟨s, p + 1 + 1, ?_, by omega, by omega, B, fun _ => Cut.refl s⟩
      simp (disch := omega) only [push_cast, ex, ec]; rfl
    obtain ⟨y, ey, ry, sy⟩ := pick_ok hb 3 (by omega) (p + 1 + 1) (by omega)
    have hw := wrL s.leases 0 0 (rd ([[.i 0], [.i s.given], [.i (s.given + 1)]] : Rw) y.toNat 0).int h0 { nth L0 s.leases 0 with number := (rd ([[.i 0], [.i s.given], [.i (s.given + 1)]] : Rw) y.toNat 0).int } rfl
    refine ⟨{ s with leases := s.leases.set 0 { nth L0 s.leases 0 with number := (rd ([[.i 0], [.i s.given], [.i (s.given + 1)]] : Rw) y.toNat 0).int } }, p + 1 + 1 + 1, ?_, by omega, by omega, ⟨B.nT, B.nP, by simp; omega, B.t, B.nm, B.ints⟩, fun _ => Cut.same rfl⟩
    simp (disch := omega) only [push_cast, ex, ec, ey, hw]; rfl
  · obtain ⟨y, ey, ry, sy⟩ := pick_ok hb 2 (by omega) (p + 1 + 1) (by omega)
    obtain ⟨z, ez, rz, sz⟩ := pick_ok hb 2 (by omega) (p + 1 + 1 + 1) (by omega)
    obtain ⟨n, hn⟩ : ∃ n : Nat, 600 + y = n := ⟨(600 + y).toNat, by omega⟩
    obtain ⟨T', e, h1, h2⟩ := many_ok7 n (by omega) (decide (z = 0))
    refine ⟨⟨8, 0, 0, (n : Int), T', [], []⟩, p + 1 + 1 + 1 + 1, ?_, by omega, by omega, ⟨by simp only; omega, Nat.zero_le _, Nat.zero_le _, fun k hk2 => (h2 k hk2).size', (fun q hq => nomatch hq), by simp only; omega⟩, fun V => Cut.uni V.uni fun k hk2 => (h2 k hk2).size⟩
    simp (disch := omega) only [push_cast, ex, ec, ey, ez, hn, e]; rfl
end KV
end
section
namespace KV
open Go Go.Eng
open Classical
theorem GV.gs {v : Vault} (h : GV v) : GS v.st := by
  rcases h with h | rfl
  · exact .inl h.vs.1
  · exact .inr rfl
def anO (s : State) (b : Rw) (p : Int) : Lv := [.i s.width, .i s.now, .i s.given, .i s.births, .l (encK s.things), .l (encP s.pins), .l (encL s.leases), .l b, .i p]
theorem any_13 {b : Rw} (p : Int) : ∀ (m : Nat) (s : State), 200 - s.leases.length = m → s.leases.length ≤ 200 → 0 < s.things.length → s.things.length ≤ 1000 → BS s → s.given + m ≤ 1000000900 → s.now ≤ 1000000900 →
    ∃ s' : State, Lq8 (some 13) [.l b, .i p, .i 0, .i 0, .i 0, .i 0, .i s.width, .i s.now, .i s.given, .i s.births, .l (encK s.things), .l [], .l [], .l [], .l (encP s.pins), .l (encL s.leases)] = some (anO s' b p) ∧ BS s' := by
  intro m
  induction m with
  | zero =>
    intro s hm hl h0 hT B hg hn
    refine ⟨s, ?_, B⟩
    rw [eq8_13]; simp (disch := omega) only [push_cast]; rfl
  | succ m ih =>
    intro s hm hl h0 hT B hg hn
    have hi := B.ints
    obtain ⟨s', e, hB⟩ := ih { s with given := s.given + 1, leases := s.leases ++ [⟨s.given + 1, (nth K0 s.things 0).sum, s.now + 5⟩] } (by simp; omega) (by simp; omega) h0 hT ⟨B.nT, B.nP, by simp; omega, B.t, B.nm, ⟨hi.1, hi.2.1, by simp only; omega, hi.2.2.2⟩⟩ (by simp only; omega) hn
    refine ⟨s', ?_, hB⟩
    simp only at e
    rw [← encL_app] at e
    rw [eq8_13, mostE]
    simp (disch := omega) only [push_cast]
    exact e
theorem any_9 {b : Rw} (p : Int) : ∀ (m : Nat) (i : Nat) (s : State), 100 - s.pins.length = m → s.pins.length ≤ 100 → i ≤ s.pins.length → 0 < s.things.length → s.things.length ≤ 1000 → BS s →
    ∃ s' : State, Lq8 (some 9) [.i 4, .i (i : Int), .l b, .i p, .i 0, .i 0, .i 0, .i 0, .i s.width, .i s.now, .i s.given, .i s.births, .l (encK s.things), .l [], .l [], .l [], .l (encP s.pins), .l (encL s.leases)] = some (anO s' b p) ∧ BS s' := by
  intro m
  induction m with
  | zero =>
    intro i s hm hl hi h0 hT B
    refine ⟨s, ?_, B⟩
    rw [eq8_9]; simp (disch := omega) only [push_cast]; rfl
  | succ m ih =>
    intro i s hm hl hi h0 hT B
    obtain ⟨nm, hnm⟩ : ∃ nm : Bs, nm = (⟨#[122]⟩ : ByteArray) ++ (bytesOf ([[.i (IntKind.u8.wrap (IntKind.i64.wrap (48 + (IntKind.i64.wrap ((i : Int).tdiv 10)))))], [.i (IntKind.u8.wrap (IntKind.i64.wrap (48 + ((i : Int).tmod 10))))]] : Rw)) := ⟨_, rfl⟩
    have hz : nm.size = 3 := by rw [hnm, size_app, bytesOf_size]; rfl
    have hz2 : (bytesOf ([[.i (IntKind.u8.wrap (IntKind.i64.wrap (48 + (IntKind.i64.wrap ((i : Int).tdiv 10)))))], [.i (IntKind.u8.wrap (IntKind.i64.wrap (48 + ((i : Int).tmod 10))))]] : Rw)).size = 2 := by rw [bytesOf_size]; rfl
    obtain ⟨s', e, hB⟩ := ih (i + 1) { s with pins := s.pins ++ [⟨nm, (nth K0 s.things 0).sum⟩] } (by simp; omega) (by simp; omega) (by simp; omega) h0 hT ⟨B.nT, by simp; omega, B.nL, B.t, fun q hq => by
      rcases List.mem_append.1 hq with h1 | h1
      · exact B.nm q h1
      · rw [List.mem_singleton] at h1; rw [h1]; simp only; omega, B.ints⟩
    refine ⟨s', ?_, hB⟩
    simp only at e
    rw [← encP_app] at e
    have h1 : (⟨#[122]⟩ : ByteArray).size = 1 := rfl
    rw [eq8_9, mostE, ← hnm, hz2, h1]
    simp (disch := omega) only [push_cast]
    exact e
theorem any_ok {b : Rw} (hb : RB b) (p : Int) (hp : 0 ≤ p ∧ p ≤ 800000000) : ∃ (s : State) (p' : Int), Lq8 none [.l b, .i p] = some (anO s b p') ∧ p ≤ p' ∧ p' ≤ p + 1000 ∧ BS s := by
  obtain ⟨v, p1, e1, h1, h2, hg, _⟩ := reached_ok hb p (by omega)
  obtain ⟨c, ec, rc, sc⟩ := pick_ok hb 20 (by omega) p1 (by omega)
  have B := hg.gs.bs
  obtain ⟨n1, n2, n3, _⟩ := hg.gs.th
  obtain ⟨j1, j2, j3, j4⟩ := hg.gs.now
  unfold vA vB at e1
  simp only [List.cons_append, List.nil_append] at e1
  rw [eq8_i, e1]
  by_cases c0 : c < 3
  · obtain ⟨s', p', e, h3, h4, hB, _⟩ := spoil_ok hb hg.gs (p1 + 1) (by omega)
    refine ⟨s', p', ?_, by omega, by omega, hB⟩
    have e' : Lqcv none [.i v.st.width, .i v.st.now, .i v.st.given, .i v.st.births, .l (encK v.st.things), .l (encP v.st.pins), .l (encL v.st.leases), .l b, .i (p1 + 1)] = _ := e
    unfold spO at e'
    simp (disch := omega) only [push_cast, ec, e']; rfl
  by_cases c3 : c = 3
  · obtain ⟨y, ey, ry, sy⟩ := pick_ok hb 30 (by omega) (p1 + 1) (by omega)
    obtain ⟨z, ez, rz, sz⟩ := pick_ok hb 2 (by omega) (p1 + 1 + 1) (by omega)
    obtain ⟨n, hn⟩ : ∃ n : Nat, 20 + y = n := ⟨(20 + y).toNat, by omega⟩
    obtain ⟨T', e, h3, h4⟩ := many_ok7 n (by omega) (decide (z = 0))
    refine ⟨⟨8, 0, 0, (n : Int), T', [], []⟩, p1 + 1 + 1 + 1, ?_, by omega, by omega, ⟨by simp only; omega, Nat.zero_le _, Nat.zero_le _, fun k hk2 => (h4 k hk2).size', (fun q hq => nomatch hq), by simp only; omega⟩⟩
    simp (disch := omega) only [push_cast, ec, ey, ez, hn, e]; rfl
  by_cases c4 : c = 4
  · by_cases h0 : 0 < v.st.things.length
    · obtain ⟨s', e, hB⟩ := any_9 (b := b) (p1 + 1) (100 - v.st.pins.length) 0 v.st rfl n2 (Nat.zero_le _) h0 (by omega) B
      refine ⟨s', p1 + 1, ?_, by omega, by omega, hB⟩
      rw [c4] at ec
      simp (disch := omega) only [push_cast, ec]
      exact e
    · refine ⟨v.st, p1 + 1, ?_, by omega, by omega, B⟩
      simp (disch := omega) only [push_cast, ec]; rfl
  by_cases c5 : c = 5
  · by_cases h0 : 0 < v.st.things.length
    · obtain ⟨s', e, hB⟩ := any_13 (b := b) (p1 + 1) (200 - v.st.leases.length) v.st rfl n3 h0 (by omega) B (by omega) (by omega)
      refine ⟨s', p1 + 1, ?_, by omega, by omega, hB⟩
      simp (disch := omega) only [push_cast, ec]
      exact e
    · refine ⟨v.st, p1 + 1, ?_, by omega, by omega, B⟩
      simp (disch := omega) only [push_cast, ec]; rfl
  · refine ⟨v.st, p1 + 1, ?_, by omega, by omega, B⟩
    simp (disch := omega) only [push_cast, ec]; rfl
theorem drawLive_ok {c : Rw} (hc : ∀ i, 0 ≤ (rd c i 0).int ∧ (rd c i 0).int ≤ 255) : ∃ s : State, Lqc7 none [.l c] = some (encSt s) ∧ BS s := by
  obtain ⟨b, hop, hb⟩ := open_ok hc
  obtain ⟨s, p', e, _, _, hB⟩ := any_ok hb 0 (by omega)
  refine ⟨s, ?_, hB⟩
  unfold anO at e
  rw [eqc7_i, hop]
  simp (disch := omega) only [push_cast, e]; rfl
end KV
end
section
namespace KV
open Go Go.Eng
open Classical
theorem adj_iff {α : Type} (d : α) {R : α → α → Prop} (tr : ∀ a b c, R a b → R b c → R a c) (l : List α) : l.Pairwise R ↔ ∀ j, 0 < j → j < l.length → R (nth d l (j - 1)) (nth d l j) := by
  constructor
  · intro h j h1 h2; exact pair_nth d h (by omega) h2
  · intro h
    rw [List.pairwise_iff_getElem]
    intro i j hi hj hij
    rw [← nth_get d l i hi, ← nth_get d l j hj]
    have : ∀ k, i + k + 1 < l.length → R (nth d l i) (nth d l (i + k + 1)) := by
      intro k
      induction k with
      | zero => intro hk; have := h (i + 1) (by omega) hk; rwa [Nat.add_sub_cancel] at this
      | succ k ih => intro hk; exact tr _ _ _ (ih (by omega)) (by have := h (i + (k + 1) + 1) (by omega) hk; rwa [Nat.add_sub_cancel] at this)
    have := this (j - i - 1) (by omega)
    rwa [show i + (j - i - 1) + 1 = j by omega] at this
def setI (ks : List Int) : List (C × C) := ks.map fun k => (.i k, .b true)
theorem ceq_i (k : IntKind) (x y : Int) : ceq (.i k) (.i x) (.i y) = decide (x = y) := by
  show (x == y) = _
  by_cases h : x = y
  · subst h; simp
  · simp [h]
theorem mget_setI (x : Int) : ∀ ks : List Int, mget (.i .i64) (.i x) (setI ks) = if x ∈ ks then some (.b true) else none
  | [] => by simp [setI, mget]
  | k :: ks => by
    show cond (ceq (.i .i64) (.i x) (.i k)) (some (.b true)) (mget (.i .i64) (.i x) (setI ks)) = _
    rw [ceq_i, mget_setI x ks]
    by_cases h : x = k
    · subst h; simp
    · simp [h]
theorem mput_setI (x : Int) : ∀ ks : List Int, x ∉ ks → mput (.i .i64) (.i x) (.b true) (setI ks) = setI (ks ++ [x])
  | [], _ => by simp [setI, mput]
  | k :: ks, h => by
    show cond (ceq (.i .i64) (.i x) (.i k)) _ _ = _
    rw [ceq_i, decide_eq_false (fun e => h (by rw [e]; simp)), cond_false]
    show (C.i k, C.b true) :: mput (.i .i64) (.i x) (.b true) (setI ks) = _
    rw [mput_setI x ks (fun e => h (by simp [e]))]; rfl
theorem inI (x : Int) (ks : List Int) : (((mget (.i .i64) (.i x) (setI ks)).getD (.b false)).bool) = decide (x ∈ ks) := by
  rw [mget_setI]
  by_cases h : x ∈ ks
  · rw [if_pos h, decide_eq_true h]; rfl
  · rw [if_neg h, decide_eq_false h]; rfl
def bsT (T : List Kept) (i : Nat) : List Int := (T.take i).map (·.born)
theorem bsT_S (T : List Kept) (i : Nat) (h : i < T.length) : bsT T (i + 1) = bsT T i ++ [(nth K0 T i).born] := by
  unfold bsT
  rw [nth_get K0 T i h, List.take_add_one, List.map_append, List.getElem?_eq_getElem h]; rfl
structure tP (w births : Int) (T : List Kept) (j : Nat) : Prop where
  adj : 0 < j → slt (nth K0 T (j - 1)).sum (nth K0 T j).sum = true
  ok : ThingOk (nth K0 T j).thing w
  sum : (nth K0 T j).sum = sumM (formM (nth K0 T j).thing) w
  lo : 1 ≤ (nth K0 T j).born
  hi : (nth K0 T j).born ≤ births
  new : (nth K0 T j).born ∉ bsT T j
theorem nd_iff (T : List Kept) : (T.map (·.born)).Nodup ↔ ∀ j, 0 ≤ j → j < T.length → (nth K0 T j).born ∉ bsT T j := by
  constructor
  · intro h j _ hj hm
    obtain ⟨a, ha, he⟩ := List.mem_map.1 hm
    obtain ⟨i, hi, rfl⟩ := List.mem_iff_getElem.1 ha
    rw [List.length_take] at hi
    rw [List.getElem_take] at he
    have := List.pairwise_iff_getElem.1 h i j (by rw [List.length_map]; omega) (by rw [List.length_map]; omega) (by omega)
    rw [List.getElem_map, List.getElem_map] at this
    rw [nth_get K0 T j hj] at he
    exact this he
  · intro h
    rw [List.Nodup, List.pairwise_iff_getElem]
    intro i j hi hj hij he
    rw [List.length_map] at hi hj
    rw [List.getElem_map, List.getElem_map] at he
    apply h j (Nat.zero_le _) hj
    rw [nth_get K0 T j hj, ← he]
    exact List.mem_map.2 ⟨_, List.mem_take_iff_getElem.2 ⟨i, by omega, rfl⟩, rfl⟩
theorem tP_all (w births : Int) (T : List Kept) : (∀ j, 0 ≤ j → j < T.length → tP w births T j) ↔ SrtK T ∧ (∀ k ∈ T, ThingOk k.thing w ∧ k.sum = sumM (formM k.thing) w ∧ 1 ≤ k.born ∧ k.born ≤ births) ∧ (T.map (·.born)).Nodup := by
  rw [nd_iff, show SrtK T ↔ _ from adj_iff K0 (R := fun a b => slt a.sum b.sum = true) (fun a b c h1 h2 => slt_trans h1 h2) T]
  constructor
  · intro h
    refine ⟨fun j h1 h2 => (h j (by omega) h2).adj h1, fun k hk => ?_, fun j h1 h2 => (h j h1 h2).new⟩
    obtain ⟨j, hj, rfl⟩ := mem_nth K0 hk
    have := h j (Nat.zero_le _) hj
    exact ⟨this.ok, this.sum, this.lo, this.hi⟩
  · rintro ⟨h1, h2, h3⟩ j h4 h5
    have := h2 _ (nth_mem (d := K0) h5)
    exact ⟨fun h => h1 j h h5, this.1, this.2.1, this.2.2.1, this.2.2.2, h3 j h4 h5⟩
def refIn (T : List Kept) (b : Int) (r : Bs) : Prop := hasT T r ∧ (nth K0 T (lb (qK r) T)).born < b
theorem refIn_iff {T : List Kept} (h : SrtK T) (b : Int) (r : Bs) : refIn T b r ↔ ∃ j ∈ T, j.sum = r ∧ j.born < b := by
  constructor
  · rintro ⟨h1, h2⟩
    obtain ⟨h3, h4⟩ := (hasT_iff h r).1 h1
    exact ⟨_, nth_mem h3, h4, h2⟩
  · rintro ⟨k, hk, rfl, hb⟩
    obtain ⟨j, hj, rfl⟩ := mem_nth K0 hk
    have := key_at K0 h (kp (nth K0 T j).sum) (kR (nth K0 T j).sum) hj rfl
    refine ⟨⟨_, nth_mem hj, rfl⟩, ?_⟩
    rw [← this]; exact hb
structure pP (T : List Kept) (P : List Pin) (j : Nat) : Prop where
  has : hasT T (nth P0 P j).sum
  nm : NameOk (nth P0 P j).name
  adj : 0 < j → slt (nth P0 P (j - 1)).name (nth P0 P j).name = true
theorem pP_all (T : List Kept) (P : List Pin) : (∀ j, 0 ≤ j → j < P.length → pP T P j) ↔ SrtP P ∧ ∀ p ∈ P, NameOk p.name ∧ hasT T p.sum := by
  rw [show SrtP P ↔ _ from adj_iff P0 (R := fun a b => slt a.name b.name = true) (fun a b c h1 h2 => slt_trans h1 h2) P]
  constructor
  · intro h
    refine ⟨fun j h1 h2 => (h j (by omega) h2).adj h1, fun k hk => ?_⟩
    obtain ⟨j, hj, rfl⟩ := mem_nth P0 hk
    have := h j (Nat.zero_le _) hj
    exact ⟨this.nm, this.has⟩
  · rintro ⟨h1, h2⟩ j h4 h5
    have := h2 _ (nth_mem (d := P0) h5)
    exact ⟨this.2, this.1, fun h => h1 j h h5⟩
structure lP (now given : Int) (T : List Kept) (L : List Lease) (j : Nat) : Prop where
  has : hasT T (nth L0 L j).sum
  lo : 1 ≤ (nth L0 L j).number
  hi : (nth L0 L j).number ≤ given
  adj : 0 < j → (nth L0 L (j - 1)).number < (nth L0 L j).number
  t1 : now < (nth L0 L j).till
  t2 : (nth L0 L j).till ≤ now + 100000
theorem lP_all (now given : Int) (T : List Kept) (L : List Lease) : (∀ j, 0 ≤ j → j < L.length → lP now given T L j) ↔ SrtL L ∧ ∀ l ∈ L, 1 ≤ l.number ∧ l.number ≤ given ∧ hasT T l.sum ∧ now < l.till ∧ l.till ≤ now + 100000 := by
  rw [show SrtL L ↔ _ from adj_iff L0 (R := fun a b => a.number < b.number) (fun a b c h1 h2 => Int.lt_trans h1 h2) L]
  constructor
  · intro h
    refine ⟨fun j h1 h2 => (h j (by omega) h2).adj h1, fun k hk => ?_⟩
    obtain ⟨j, hj, rfl⟩ := mem_nth L0 hk
    have := h j (Nat.zero_le _) hj
    exact ⟨this.lo, this.hi, this.has, this.t1, this.t2⟩
  · rintro ⟨h1, h2⟩ j h4 h5
    have := h2 _ (nth_mem (d := L0) h5)
    exact ⟨this.2.2.1, this.1, this.2.1, fun h => h1 j h h5, this.2.2.2.1, this.2.2.2.2⟩
theorem vs_iff (s : State) : VS s ↔ (1 ≤ s.width ∧ s.width ≤ 8) ∧ (0 ≤ s.now ∧ s.now ≤ 1000000000) ∧ (0 ≤ s.given ∧ s.given ≤ 1000000000) ∧ (0 ≤ s.births ∧ s.births ≤ 1000000000) ∧ s.things.length ≤ 600 ∧ s.pins.length ≤ 100 ∧ s.leases.length ≤ 200 ∧
    (∀ j, 0 ≤ j → j < s.things.length → tP s.width s.births s.things j) ∧ (∀ j, 0 ≤ j → j < s.things.length → ∀ i, 0 ≤ i → i < (nth K0 s.things j).thing.refs.length → refIn s.things (nth K0 s.things j).born (nth .empty (nth K0 s.things j).thing.refs i)) ∧
    (∀ j, 0 ≤ j → j < s.pins.length → pP s.things s.pins j) ∧ (∀ j, 0 ≤ j → j < s.leases.length → lP s.now s.given s.things s.leases j) := by
  rw [tP_all, pP_all, lP_all]
  constructor
  · intro V
    refine ⟨V.wd, V.now, V.given, V.births, V.nT, V.nP, V.nL, ⟨V.srtT, V.okT, V.ndT⟩, fun j _ hj i _ hi => (refIn_iff V.srtT _ _).2 (V.refs _ (nth_mem hj) _ (nth_mem hi)), ⟨V.srtP, V.okP⟩, ⟨V.srtL, V.okL⟩⟩
  · rintro ⟨a, b, c, d, e, f, g, ⟨h1, h2, h3⟩, i, ⟨j1, j2⟩, ⟨k1, k2⟩⟩
    refine ⟨a, b, c, d, e, f, g, h1, h2, h3, fun k hk r hr => ?_, j1, j2, k1, k2⟩
    obtain ⟨m, hm, rfl⟩ := mem_nth K0 hk
    obtain ⟨n, hn, rfl⟩ := mem_nth .empty hr
    exact (refIn_iff h1 _ _).1 (i m (Nat.zero_le _) hm n (Nat.zero_le _) hn)
section
variable {s : State}
theorem ivs_30 (hn : 0 ≤ s.now ∧ s.now ≤ 1000000000) (hT : SrtK s.things) (nT : s.things.length ≤ 600) (nL : s.leases.length ≤ 200) : Lqb (some 30) [.l (encL s.leases), .i (s.leases.length : Int), .i 0, .i s.width, .i s.now, .i s.given, .i s.births, .l (encK s.things), .l (encP s.pins), .l (encL s.leases)]
    = if (∀ j, 0 ≤ j → j < s.leases.length → lP s.now s.given s.things s.leases j) then some [.b true] else some [.b false] := by
  refine all_loop (f := fun i : Nat => Lqb (some 30) [.l (encL s.leases), .i (s.leases.length : Int), .i (i : Int), .i s.width, .i s.now, .i s.given, .i s.births, .l (encK s.things), .l (encP s.pins), .l (encL s.leases)]) (fun i hi => ?_) ?_ 0 (Nat.zero_le _)
  · show (_ → Lqb _ _ = Lqb _ _) ∧ (_ → Lqb _ _ = _)
    rw [eqb_30]
    simp (disch := omega) only [push_cast, zf s.width s.now s.given s.births s.things (encP s.pins) (encL s.leases) (nth L0 s.leases i).sum hT (by omega)]
    by_cases c1 : hasT s.things (nth L0 s.leases i).sum
    rotate_left; · exact ⟨fun h => absurd h.has c1, fun _ => by simp (disch := omega) only [push_cast]⟩
    by_cases c2 : 1 ≤ (nth L0 s.leases i).number
    rotate_left; · exact ⟨fun h => absurd h.lo c2, fun _ => by simp (disch := omega) only [push_cast]⟩
    by_cases c3 : (nth L0 s.leases i).number ≤ s.given
    rotate_left; · exact ⟨fun h => absurd h.hi c3, fun _ => by simp (disch := omega) only [push_cast]⟩
    by_cases c0 : 0 < i
    · by_cases c4 : (nth L0 s.leases (i - 1)).number < (nth L0 s.leases i).number
      rotate_left; · exact ⟨fun h => absurd (h.adj c0) c4, fun _ => by simp (disch := omega) only [push_cast]⟩
      by_cases c5 : s.now < (nth L0 s.leases i).till
      rotate_left; · exact ⟨fun h => absurd h.t1 c5, fun _ => by simp (disch := omega) only [push_cast]⟩
      by_cases c6 : (nth L0 s.leases i).till ≤ s.now + 100000
      rotate_left; · exact ⟨fun h => absurd h.t2 c6, fun _ => by simp (disch := omega) only [push_cast]⟩
      exact ⟨fun _ => by simp (disch := omega) only [push_cast] <;> rfl, fun h => absurd ⟨c1, c2, c3, fun _ => c4, c5, c6⟩ h⟩
    · by_cases c5 : s.now < (nth L0 s.leases i).till
      rotate_left; · exact ⟨fun h => absurd h.t1 c5, fun _ => by simp (disch := omega) only [push_cast]⟩
      by_cases c6 : (nth L0 s.leases i).till ≤ s.now + 100000
      rotate_left; · exact ⟨fun h => absurd h.t2 c6, fun _ => by simp (disch := omega) only [push_cast]⟩
      exact ⟨fun _ => by simp (disch := omega) only [push_cast] <;> rfl, fun h => absurd ⟨c1, c2, c3, fun h => absurd h c0, c5, c6⟩ h⟩
  · show Lqb _ _ = _
    rw [eqb_30]; simp (disch := omega) only [push_cast]
theorem ivs_23 (hT : SrtK s.things) (nT : s.things.length ≤ 600) (nP : s.pins.length ≤ 100) (hN : ∀ p ∈ s.pins, p.name.size ≤ 4611686018427387904) : Lqb (some 23) [.l (encP s.pins), .i (s.pins.length : Int), .i 0, .i s.width, .i s.now, .i s.given, .i s.births, .l (encK s.things), .l (encP s.pins), .l (encL s.leases)]
    = if (∀ j, 0 ≤ j → j < s.pins.length → pP s.things s.pins j) then Lqb (some 30) [.l (encL s.leases), .i (s.leases.length : Int), .i 0, .i s.width, .i s.now, .i s.given, .i s.births, .l (encK s.things), .l (encP s.pins), .l (encL s.leases)] else some [.b false] := by
  refine all_loop (f := fun i : Nat => Lqb (some 23) [.l (encP s.pins), .i (s.pins.length : Int), .i (i : Int), .i s.width, .i s.now, .i s.given, .i s.births, .l (encK s.things), .l (encP s.pins), .l (encL s.leases)]) (fun i hi => ?_) ?_ 0 (Nat.zero_le _)
  · show (_ → Lqb _ _ = Lqb _ _) ∧ (_ → Lqb _ _ = _)
    rw [eqb_23]
    simp (disch := omega) only [push_cast, zf s.width s.now s.given s.births s.things (encP s.pins) (encL s.leases) (nth P0 s.pins i).sum hT (by omega), zcq (nth P0 s.pins i).name (hN _ (nth_mem hi))]
    by_cases c1 : hasT s.things (nth P0 s.pins i).sum
    rotate_left; · exact ⟨fun h => absurd h.has c1, fun _ => by simp (disch := omega) only [push_cast]⟩
    by_cases c2 : NameOk (nth P0 s.pins i).name
    rotate_left; · exact ⟨fun h => absurd h.nm c2, fun _ => by unfold nameB; simp (disch := omega) only [push_cast]⟩
    unfold nameB
    by_cases c0 : 0 < i
    · cases c4 : slt (nth P0 s.pins (i - 1)).name (nth P0 s.pins i).name
      · exact ⟨fun h => absurd (h.adj c0) (by simp [c4]), fun _ => by simp (disch := omega) only [push_cast, c4]⟩
      · exact ⟨fun _ => by simp (disch := omega) only [push_cast, c4] <;> rfl, fun h => absurd ⟨c1, c2, fun _ => c4⟩ h⟩
    · exact ⟨fun _ => by simp (disch := omega) only [push_cast] <;> rfl, fun h => absurd ⟨c1, c2, fun h => absurd h c0⟩ h⟩
  · show Lqb _ _ = _
    rw [eqb_23]; simp (disch := omega) only [push_cast]
theorem ivs_12 (hT : SrtK s.things) (nT : s.things.length ≤ 600) (hR : ∀ k ∈ s.things, k.thing.refs.length ≤ 30) : Lqb (some 12) [.l (encK s.things), .i (s.things.length : Int), .i 0, .i s.width, .i s.now, .i s.given, .i s.births, .l (encK s.things), .l (encP s.pins), .l (encL s.leases)]
    = if (∀ j, 0 ≤ j → j < s.things.length → ∀ i, 0 ≤ i → i < (nth K0 s.things j).thing.refs.length → refIn s.things (nth K0 s.things j).born (nth .empty (nth K0 s.things j).thing.refs i)) then Lqb (some 23) [.l (encP s.pins), .i (s.pins.length : Int), .i 0, .i s.width, .i s.now, .i s.given, .i s.births, .l (encK s.things), .l (encP s.pins), .l (encL s.leases)] else some [.b false] := by
  refine all_loop (f := fun i : Nat => Lqb (some 12) [.l (encK s.things), .i (s.things.length : Int), .i (i : Int), .i s.width, .i s.now, .i s.given, .i s.births, .l (encK s.things), .l (encP s.pins), .l (encL s.leases)]) (P := fun j => ∀ i, 0 ≤ i → i < (nth K0 s.things j).thing.refs.length → refIn s.things (nth K0 s.things j).born (nth .empty (nth K0 s.things j).thing.refs i)) (fun i hi => ?_) ?_ 0 (Nat.zero_le _)
  · have hr := hR _ (nth_mem (d := K0) hi)
    have inner := all_loop (f := fun j : Nat => Lqb (some 15) [.l (encK s.things), .i (s.things.length : Int), .i (i : Int), .l (encS (nth K0 s.things i).thing.refs), .i ((nth K0 s.things i).thing.refs.length : Int), .i (j : Int), .i s.width, .i s.now, .i s.given, .i s.births, .l (encK s.things), .l (encP s.pins), .l (encL s.leases), .s (nth K0 s.things i).sum, .i (nth K0 s.things i).born, .s (nth K0 s.things i).thing.text, .l (encS (nth K0 s.things i).thing.refs)])
      (P := fun j => refIn s.things (nth K0 s.things i).born (nth .empty (nth K0 s.things i).thing.refs j)) (n := (nth K0 s.things i).thing.refs.length) (T := Lqb (some 12) [.l (encK s.things), .i (s.things.length : Int), .i ((i + 1 : Nat) : Int), .i s.width, .i s.now, .i s.given, .i s.births, .l (encK s.things), .l (encP s.pins), .l (encL s.leases)]) (F := some [.b false])
      (fun j hj => by
        show (_ → Lqb _ _ = Lqb _ _) ∧ (_ → Lqb _ _ = _)
        rw [eqb_15]
        simp (disch := omega) only [push_cast, zf s.width s.now s.given s.births s.things (encP s.pins) (encL s.leases) (nth .empty (nth K0 s.things i).thing.refs j) hT (by omega)]
        by_cases c1 : hasT s.things (nth .empty (nth K0 s.things i).thing.refs j)
        rotate_left; · exact ⟨fun h => absurd h.1 c1, fun _ => by simp (disch := omega) only [push_cast]⟩
        have hl := ((hasT_iff hT _).1 c1).1
        by_cases c2 : (nth K0 s.things (lb (qK (nth .empty (nth K0 s.things i).thing.refs j)) s.things)).born < (nth K0 s.things i).born
        rotate_left; · exact ⟨fun h => absurd h.2 c2, fun _ => by simp (disch := omega) only [push_cast]⟩
        exact ⟨fun _ => by simp (disch := omega) only [push_cast] <;> rfl, fun h => absurd ⟨c1, c2⟩ h⟩)
      (by show Lqb _ _ = Lqb _ _; rw [eqb_15]; simp (disch := omega) only [push_cast] <;> rfl) 0 (Nat.zero_le _)
    show (_ → Lqb _ _ = Lqb _ _) ∧ (_ → Lqb _ _ = _)
    rw [eqb_12]
    simp (disch := omega) only [push_cast]
    have inner' : Lqb (some 15) [.l (encK s.things), .i (s.things.length : Int), .i (i : Int), .l (encS (nth K0 s.things i).thing.refs), .i ((nth K0 s.things i).thing.refs.length : Int), .i 0, .i s.width, .i s.now, .i s.given, .i s.births, .l (encK s.things), .l (encP s.pins), .l (encL s.leases), .s (nth K0 s.things i).sum, .i (nth K0 s.things i).born, .s (nth K0 s.things i).thing.text, .l (encS (nth K0 s.things i).thing.refs)] = _ := inner
    rw [inner']
    exact ⟨fun h => if_pos h, fun h => if_neg h⟩
  · show Lqb _ _ = _
    rw [eqb_12]; simp (disch := omega) only [push_cast]
theorem ivs_5 (nT : s.things.length ≤ 600) : Lqb (some 5) [.l (encK s.things), .i (s.things.length : Int), .i 0, .i s.width, .i s.now, .i s.given, .i s.births, .l (encK s.things), .l (encP s.pins), .l (encL s.leases), .m []]
    = if (∀ j, 0 ≤ j → j < s.things.length → tP s.width s.births s.things j) then Lqb (some 12) [.l (encK s.things), .i (s.things.length : Int), .i 0, .i s.width, .i s.now, .i s.given, .i s.births, .l (encK s.things), .l (encP s.pins), .l (encL s.leases)] else some [.b false] := by
  refine all_loop (f := fun i : Nat => Lqb (some 5) [.l (encK s.things), .i (s.things.length : Int), .i (i : Int), .i s.width, .i s.now, .i s.given, .i s.births, .l (encK s.things), .l (encP s.pins), .l (encL s.leases), .m (setI (bsT s.things i))]) (fun i hi => ?_) ?_ 0 (Nat.zero_le _)
  · show (_ → Lqb _ _ = Lqb _ _) ∧ (_ → Lqb _ _ = _)
    rw [eqb_5, bsT_S _ _ hi]
    by_cases c1 : ThingOk (nth K0 s.things i).thing s.width
    rotate_left
    · refine ⟨fun h => absurd h.ok c1, fun _ => ?_⟩
      have : thingB (nth K0 s.things i).thing s.width = false := decide_eq_false c1
      by_cases c0 : 0 < i
      · cases c4 : slt (nth K0 s.things (i - 1)).sum (nth K0 s.things i).sum <;> simp (disch := omega) only [push_cast, zh, c4, this]
      · simp (disch := omega) only [push_cast, zh, this]
    have ht : thingB (nth K0 s.things i).thing s.width = true := decide_eq_true c1
    have hz : (formM (nth K0 s.things i).thing).size ≤ 1099511627776 := by
      rw [formM_size]; have := okForm c1; omega
    by_cases c2 : (nth K0 s.things i).sum = sumM (formM (nth K0 s.things i).thing) s.width
    rotate_left
    · refine ⟨fun h => absurd h.sum c2, fun _ => ?_⟩
      by_cases c0 : 0 < i
      · cases c4 : slt (nth K0 s.things (i - 1)).sum (nth K0 s.things i).sum <;> simp (disch := omega) only [push_cast, zh, c4, ht, zg c1, zi _ s.width hz]
      · simp (disch := omega) only [push_cast, zh, ht, zg c1, zi _ s.width hz]
    by_cases c3 : 1 ≤ (nth K0 s.things i).born
    rotate_left
    · refine ⟨fun h => absurd h.lo c3, fun _ => ?_⟩
      by_cases c0 : 0 < i
      · cases c4 : slt (nth K0 s.things (i - 1)).sum (nth K0 s.things i).sum <;> simp (disch := omega) only [push_cast, zh, c4, ht, zg c1, zi _ s.width hz]
      · simp (disch := omega) only [push_cast, zh, ht, zg c1, zi _ s.width hz]
    by_cases c5 : (nth K0 s.things i).born ≤ s.births
    rotate_left
    · refine ⟨fun h => absurd h.hi c5, fun _ => ?_⟩
      by_cases c0 : 0 < i
      · cases c4 : slt (nth K0 s.things (i - 1)).sum (nth K0 s.things i).sum <;> simp (disch := omega) only [push_cast, zh, c4, ht, zg c1, zi _ s.width hz]
      · simp (disch := omega) only [push_cast, zh, ht, zg c1, zi _ s.width hz]
    by_cases c6 : (nth K0 s.things i).born ∈ bsT s.things i
    · refine ⟨fun h => absurd c6 h.new, fun _ => ?_⟩
      by_cases c0 : 0 < i
      · cases c4 : slt (nth K0 s.things (i - 1)).sum (nth K0 s.things i).sum <;> simp (disch := omega) only [push_cast, zh, c4, ht, zg c1, zi _ s.width hz, inI]
      · simp (disch := omega) only [push_cast, zh, ht, zg c1, zi _ s.width hz, inI]
    by_cases c0 : 0 < i
    · cases c4 : slt (nth K0 s.things (i - 1)).sum (nth K0 s.things i).sum
      · exact ⟨fun h => absurd (h.adj c0) (by simp [c4]), fun _ => by simp (disch := omega) only [push_cast, c4]⟩
      · exact ⟨fun _ => by simp (disch := omega) only [push_cast, zh, c4, ht, zg c1, zi _ s.width hz, ← c2, inI, mput_setI _ _ c6] <;> rfl, fun h => absurd ⟨fun _ => c4, c1, c2, c3, c5, c6⟩ h⟩
    · exact ⟨fun _ => by simp (disch := omega) only [push_cast, zh, ht, zg c1, zi _ s.width hz, ← c2, inI, mput_setI _ _ c6] <;> rfl, fun h => absurd ⟨fun h => absurd h c0, c1, c2, c3, c5, c6⟩ h⟩
  · show Lqb _ _ = _
    rw [eqb_5]; simp (disch := omega) only [push_cast]
theorem zco (s : State) (hN : ∀ p ∈ s.pins, p.name.size ≤ 4611686018427387904) : Lqb none (encSt s) = some [.b (decide (VS s))] := by
  unfold encSt
  rw [eqb_i]
  have hv := vs_iff s
  by_cases h1 : 1 ≤ s.width ∧ s.width ≤ 8
  rotate_left; · rw [decide_eq_false fun V : VS s => h1 V.wd]; have : widthB s.width = false := by cases h : widthB s.width; { rfl }; { exact absurd (widthB_iff.1 h) h1 }
                 simp (disch := omega) only [push_cast, zl, this]
  have hw : widthB s.width = true := widthB_iff.2 h1
  by_cases h2 : 0 ≤ s.now ∧ s.now ≤ 1000000000
  rotate_left; · rw [decide_eq_false fun V : VS s => h2 V.now]; simp (disch := omega) only [push_cast, zl, hw, zj]
  by_cases h3 : 0 ≤ s.given ∧ s.given ≤ 1000000000
  rotate_left; · rw [decide_eq_false fun V : VS s => h3 V.given]; simp (disch := omega) only [push_cast, zl, hw, zj]
  by_cases h4 : 0 ≤ s.births ∧ s.births ≤ 1000000000
  rotate_left; · rw [decide_eq_false fun V : VS s => h4 V.births]; simp (disch := omega) only [push_cast, zl, hw, zj]
  by_cases h5 : s.things.length ≤ 600
  rotate_left; · rw [decide_eq_false fun V : VS s => h5 V.nT]; simp (disch := omega) only [push_cast, zl, hw, zj]
  by_cases h6 : s.pins.length ≤ 100
  rotate_left; · rw [decide_eq_false fun V : VS s => h6 V.nP]; simp (disch := omega) only [push_cast, zl, hw, zj]
  by_cases h7 : s.leases.length ≤ 200
  rotate_left; · rw [decide_eq_false fun V : VS s => h7 V.nL]; simp (disch := omega) only [push_cast, zl, hw, zj]
  simp (disch := omega) only [push_cast, zl, hw, zj, ivs_5 h5]
  by_cases h8 : ∀ j, 0 ≤ j → j < s.things.length → tP s.width s.births s.things j
  rotate_left; · rw [if_neg h8, decide_eq_false fun V : VS s => h8 (hv.1 V).2.2.2.2.2.2.2.1]
  have hs := (tP_all _ _ _).1 h8
  rw [if_pos h8, ivs_12 hs.1 h5 fun k hk => (hs.2.1 k hk).1.refs]
  by_cases h9 : ∀ j, 0 ≤ j → j < s.things.length → ∀ i, 0 ≤ i → i < (nth K0 s.things j).thing.refs.length → refIn s.things (nth K0 s.things j).born (nth .empty (nth K0 s.things j).thing.refs i)
  rotate_left; · rw [if_neg h9, decide_eq_false fun V : VS s => h9 (hv.1 V).2.2.2.2.2.2.2.2.1]
  rw [if_pos h9, ivs_23 hs.1 h5 h6 hN]
  by_cases h10 : ∀ j, 0 ≤ j → j < s.pins.length → pP s.things s.pins j
  rotate_left; · rw [if_neg h10, decide_eq_false fun V : VS s => h10 (hv.1 V).2.2.2.2.2.2.2.2.2.1]
  rw [if_pos h10, ivs_30 h2 hs.1 h5 h7]
  by_cases h11 : ∀ j, 0 ≤ j → j < s.leases.length → lP s.now s.given s.things s.leases j
  rotate_left; · rw [if_neg h11, decide_eq_false fun V : VS s => h11 (hv.1 V).2.2.2.2.2.2.2.2.2.2]
  rw [if_pos h11, decide_eq_true (hv.2 ⟨h1, h2, h3, h4, h5, h6, h7, h8, h9, h10, h11⟩)]
end
theorem VS.names {s : State} (V : VS s) : ∀ p ∈ s.pins, p.name.size ≤ 4611686018427387904 := fun p hp => by have := (V.okP p hp).1.hi; omega
end KV
end
section
namespace KV
open Go Go.Eng
open Classical
noncomputable def near (T : List Kept) (i : Nat) : Rw := (List.range 601).map fun b : Nat => [.b (decide ((b : Int) ∈ bsT T i))]
def farL (T : List Kept) (i : Nat) : List Int := (bsT T i).filter fun b => decide (600 < b)
def encN (l : List Int) : Rw := l.map fun n => [.i n]
@[push_cast] theorem encN_len (l : List Int) : (encN l).length = l.length := by simp [encN]
@[push_cast] theorem encN_0 (l : List Int) (i : Nat) : (rd (encN l) i 0).int = nth 0 l i := by
  rcases Nat.lt_or_ge i l.length with h | h
  · rw [encN, rd_map _ _ _ _ h, nth_get _ _ _ h]; rfl
  · rw [nth_end _ _ _ h]; unfold encN; rw [rd_end _ _ _ _ h]; rfl
@[push_cast] theorem near_len (T : List Kept) (i : Nat) : (near T i).length = 601 := by simp [near]
theorem near_rd (T : List Kept) (i b : Nat) (h : b ≤ 600) : (rd (near T i) b 0).bool = decide ((b : Int) ∈ bsT T i) := by
  rw [near, rd_map _ _ _ _ (by rw [List.length_range]; omega), List.getElem_range]; rfl
theorem near_wr (T : List Kept) (i b : Nat) (hi : i < T.length) (h : b ≤ 600) (hb : (nth K0 T i).born = (b : Int)) : wrs (near T i) b 0 [.b true] = near T (i + 1) := by
  have e : (near T i).getD b [] = [.b (decide ((b : Int) ∈ bsT T i))] := by
    unfold near
    rw [List.getD_eq_getElem?_getD, List.getElem?_map, List.getElem?_range (by omega)]; rfl
  have h1 : wrs (near T i) b 0 [.b true] = (near T i).set b [.b true] := by
    unfold wrs wrs wr
    rw [e]; rfl
  rw [h1]
  apply List.ext_getElem?
  intro j
  rw [List.getElem?_set]
  rcases Nat.lt_or_ge j 601 with hj | hj
  · by_cases hjb : b = j
    · subst hjb
      rw [if_pos rfl, if_pos (by rw [near_len]; exact hj)]
      unfold near
      rw [List.getElem?_map, List.getElem?_range hj, Option.map_some, bsT_S _ _ hi, hb]
      simp
    · rw [if_neg hjb]
      unfold near
      rw [List.getElem?_map, List.getElem?_map, List.getElem?_range hj, Option.map_some, Option.map_some, bsT_S _ _ hi, hb]
      have : ((j : Int) ∈ bsT T i) ↔ ((j : Int) ∈ bsT T i ++ [(b : Int)]) := by
        rw [List.mem_append, List.mem_singleton]
        exact ⟨.inl, fun h => h.elim id fun h => absurd (by omega : b = j) hjb⟩
      rw [decide_eq_decide.2 this]
  · rw [if_neg (by omega), List.getElem?_eq_none (by rw [near_len]; exact hj), List.getElem?_eq_none (by rw [near_len]; exact hj)]
theorem far_S (T : List Kept) (i : Nat) (hi : i < T.length) : farL T (i + 1) = farL T i ++ (if 600 < (nth K0 T i).born then [(nth K0 T i).born] else []) := by
  unfold farL
  rw [bsT_S _ _ hi, List.filter_append]
  congr 1
  split
  · rename_i h; simp [h]
  · rename_i h; simp [h]
theorem near_S (T : List Kept) (i : Nat) (hi : i < T.length) (h : 600 < (nth K0 T i).born) : near T (i + 1) = near T i := by
  unfold near
  apply List.map_congr_left
  intro b hb
  rw [List.mem_range] at hb
  rw [bsT_S _ _ hi]
  have : ((b : Int) ∈ bsT T i ++ [(nth K0 T i).born]) ↔ ((b : Int) ∈ bsT T i) := by
    rw [List.mem_append, List.mem_singleton]
    exact ⟨fun h1 => h1.elim id fun h1 => absurd h1 (by omega), .inl⟩
  rw [decide_eq_decide.2 this]
theorem far_len (T : List Kept) (i : Nat) : (farL T i).length ≤ T.length := by
  unfold farL bsT
  refine Nat.le_trans (List.length_filter_le _ _) ?_
  rw [List.length_map, List.length_take]; omega
theorem mem_far (T : List Kept) (i : Nat) {b : Int} (h : 600 < b) : b ∈ farL T i ↔ b ∈ bsT T i := by
  unfold farL; rw [List.mem_filter]; simp [h]
section
variable {s : State}
theorem sto_20 (hT : SrtK s.things) (nT : s.things.length ≤ 600) (hR : ∀ k ∈ s.things, k.thing.refs.length ≤ 30) : Lqc (some 20) [.i 0, .i s.width, .i s.now, .i s.given, .i s.births, .l (encK s.things), .l (encP s.pins), .l (encL s.leases)]
    = if (∀ j, 0 ≤ j → j < s.things.length → ∀ i, 0 ≤ i → i < (nth K0 s.things j).thing.refs.length → refIn s.things (nth K0 s.things j).born (nth .empty (nth K0 s.things j).thing.refs i)) then some [.b true] else some [.b false] := by
  refine all_loop (f := fun i : Nat => Lqc (some 20) [.i (i : Int), .i s.width, .i s.now, .i s.given, .i s.births, .l (encK s.things), .l (encP s.pins), .l (encL s.leases)]) (P := fun j => ∀ i, 0 ≤ i → i < (nth K0 s.things j).thing.refs.length → refIn s.things (nth K0 s.things j).born (nth .empty (nth K0 s.things j).thing.refs i)) (fun i hi => ?_) ?_ 0 (Nat.zero_le _)
  · have hr := hR _ (nth_mem (d := K0) hi)
    have inner := all_loop (f := fun j : Nat => Lqc (some 23) [.i (i : Int), .i (j : Int), .i s.width, .i s.now, .i s.given, .i s.births, .l (encK s.things), .l (encP s.pins), .l (encL s.leases)])
      (P := fun j => refIn s.things (nth K0 s.things i).born (nth .empty (nth K0 s.things i).thing.refs j)) (n := (nth K0 s.things i).thing.refs.length) (T := Lqc (some 20) [.i ((i + 1 : Nat) : Int), .i s.width, .i s.now, .i s.given, .i s.births, .l (encK s.things), .l (encP s.pins), .l (encL s.leases)]) (F := some [.b false])
      (fun j hj => by
        show (_ → Lqc _ _ = Lqc _ _) ∧ (_ → Lqc _ _ = _)
        rw [eqc_23]
        have hf := findT_neg (T := s.things) (x := nth .empty (nth K0 s.things i).thing.refs j)
        simp (disch := omega) only [push_cast, zm s.width s.now s.given s.births s.things (encP s.pins) (encL s.leases) (nth .empty (nth K0 s.things i).thing.refs j) hT (by omega)]
        by_cases c1 : hasT s.things (nth .empty (nth K0 s.things i).thing.refs j)
        rotate_left; · exact ⟨fun h => absurd h.1 c1, fun _ => by have := hf.2 c1; simp (disch := omega) only [push_cast]⟩
        have hl := ((hasT_iff hT _).1 c1).1
        have hfi : findT s.things (nth .empty (nth K0 s.things i).thing.refs j) = (lb (qK (nth .empty (nth K0 s.things i).thing.refs j)) s.things : Int) := if_pos c1
        rw [hfi]
        by_cases c2 : (nth K0 s.things (lb (qK (nth .empty (nth K0 s.things i).thing.refs j)) s.things)).born < (nth K0 s.things i).born
        rotate_left; · exact ⟨fun h => absurd h.2 c2, fun _ => by simp (disch := omega) only [push_cast]⟩
        exact ⟨fun _ => by simp (disch := omega) only [push_cast] <;> rfl, fun h => absurd ⟨c1, c2⟩ h⟩)
      (by show Lqc _ _ = Lqc _ _; rw [eqc_23]; simp (disch := omega) only [push_cast] <;> rfl) 0 (Nat.zero_le _)
    show (_ → Lqc _ _ = Lqc _ _) ∧ (_ → Lqc _ _ = _)
    rw [eqc_20]
    simp (disch := omega) only [push_cast]
    have inner' : Lqc (some 23) [.i (i : Int), .i 0, .i s.width, .i s.now, .i s.given, .i s.births, .l (encK s.things), .l (encP s.pins), .l (encL s.leases)] = _ := inner
    rw [inner']
    exact ⟨fun h => if_pos h, fun h => if_neg h⟩
  · show Lqc _ _ = _
    rw [eqc_20]; simp (disch := omega) only [push_cast]
theorem sto_14 (nT : s.things.length ≤ 600) (i : Nat) (hi : i < s.things.length) (l : List Int) (hl : l.length ≤ 1000000) (nrw : Rw) (b : Int) (x y : Bs) (z : Rw) :
    Lqc (some 14) [.i (i : Int), .i 0, .i s.width, .i s.now, .i s.given, .i s.births, .l (encK s.things), .l (encP s.pins), .l (encL s.leases), .l nrw, .l (encN l), .s x, .i b, .s y, .l z] =
      if b ∈ l then some [.b false] else Lqc (some 4) [.i ((i + 1 : Nat) : Int), .i s.width, .i s.now, .i s.given, .i s.births, .l (encK s.things), .l (encP s.pins), .l (encL s.leases), .l nrw, .l (encN (l ++ [b]))] := by
  have := ex_loop (f := fun j : Nat => Lqc (some 14) [.i (i : Int), .i (j : Int), .i s.width, .i s.now, .i s.given, .i s.births, .l (encK s.things), .l (encP s.pins), .l (encL s.leases), .l nrw, .l (encN l), .s x, .i b, .s y, .l z]) (0 : Int) (l := l) (p := fun r => r = b) (T := some [.b false])
    (E := Lqc (some 4) [.i ((i + 1 : Nat) : Int), .i s.width, .i s.now, .i s.given, .i s.births, .l (encK s.things), .l (encP s.pins), .l (encL s.leases), .l nrw, .l (encN (l ++ [b]))]) (fun j hj => by
    show Lqc _ _ = cond _ _ (Lqc _ _)
    rw [eqc_14, mostE]; simp (disch := omega) only [push_cast]) (by
    show Lqc _ _ = Lqc _ _
    have : encN (l ++ [b]) = encN l ++ [[.i b]] := by simp [encN]
    rw [eqc_14, mostE, this]; simp (disch := omega) only [push_cast])
  refine Eq.trans this ?_
  by_cases h : b ∈ l
  · rw [if_pos h, if_pos ⟨b, h, rfl⟩]
  · rw [if_neg h, if_neg (by rintro ⟨r, hr, rfl⟩; exact h hr)]
theorem sto_4 (nT : s.things.length ≤ 600) (hb : 0 ≤ s.births ∧ s.births ≤ 1000000000) : Lqc (some 4) [.i 0, .i s.width, .i s.now, .i s.given, .i s.births, .l (encK s.things), .l (encP s.pins), .l (encL s.leases), .l (near s.things 0), .l (encN (farL s.things 0))]
    = if (∀ j, 0 ≤ j → j < s.things.length → tP s.width s.births s.things j) then Lqc (some 20) [.i 0, .i s.width, .i s.now, .i s.given, .i s.births, .l (encK s.things), .l (encP s.pins), .l (encL s.leases)] else some [.b false] := by
  refine all_loop (f := fun i : Nat => Lqc (some 4) [.i (i : Int), .i s.width, .i s.now, .i s.given, .i s.births, .l (encK s.things), .l (encP s.pins), .l (encL s.leases), .l (near s.things i), .l (encN (farL s.things i))]) (fun i hi => ?_) ?_ 0 (Nat.zero_le _)
  · show (_ → Lqc _ _ = Lqc _ _) ∧ (_ → Lqc _ _ = _)
    have hfl := far_len s.things i
    rw [eqc_4]
    by_cases c1 : ThingOk (nth K0 s.things i).thing s.width
    rotate_left
    · refine ⟨fun h => absurd h.ok c1, fun _ => ?_⟩
      have : thingB (nth K0 s.things i).thing s.width = false := decide_eq_false c1
      simp (disch := omega) only [push_cast, zp, this]
    have ht : thingB (nth K0 s.things i).thing s.width = true := decide_eq_true c1
    have hz : (formM (nth K0 s.things i).thing).size ≤ 1099511627776 := by
      rw [formM_size]; have := okForm c1; omega
    have hft : formT (nth K0 s.things i).thing s.width = formM (nth K0 s.things i).thing := if_pos ht
    by_cases c2 : (nth K0 s.things i).sum = sumM (formM (nth K0 s.things i).thing) s.width
    rotate_left
    · refine ⟨fun h => absurd h.sum c2, fun _ => ?_⟩
      simp (disch := omega) only [push_cast, zp, ht, zn, hft, zq _ s.width hz]
    have tail : ∀ X : Option Lv, X = (Lqv none [.i (nth K0 s.things i).born, .i 1, .i s.births]).bind (fun y4 =>
         cond (!(g y4 0).bool) (some [.b false]) (
         cond (decide ((nth K0 s.things i).born ≤ 600)) (
          cond (inb ((nth K0 s.things i).born) (near s.things i).length) (
           cond ((rd (near s.things i) (((nth K0 s.things i).born).toNat) 0).bool) (some [.b false]) (
            cond (inb ((nth K0 s.things i).born) (near s.things i).length) (
             Lqc (some 4) [.i ((i + 1 : Nat) : Int), .i s.width, .i s.now, .i s.given, .i s.births, .l (encK s.things), .l (encP s.pins), .l (encL s.leases), .l (wrs (near s.things i) (((nth K0 s.things i).born).toNat) 0 ([.b true] : List C)), .l (encN (farL s.things i))]) (none))) (none)) (
          Lqc (some 14) [.i (i : Int), .i 0, .i s.width, .i s.now, .i s.given, .i s.births, .l (encK s.things), .l (encP s.pins), .l (encL s.leases), .l (near s.things i), .l (encN (farL s.things i)), .s (nth K0 s.things i).sum, .i (nth K0 s.things i).born, .s (nth K0 s.things i).thing.text, .l (encS (nth K0 s.things i).thing.refs)]))) →
        (0 < i → slt (nth K0 s.things (i - 1)).sum (nth K0 s.things i).sum = true) →
        (tP s.width s.births s.things i → X = Lqc (some 4) [.i ((i + 1 : Nat) : Int), .i s.width, .i s.now, .i s.given, .i s.births, .l (encK s.things), .l (encP s.pins), .l (encL s.leases), .l (near s.things (i + 1)), .l (encN (farL s.things (i + 1)))]) ∧ (¬ tP s.width s.births s.things i → X = some [.b false]) := by
      rintro X rfl hadj
      by_cases c3 : 1 ≤ (nth K0 s.things i).born ∧ (nth K0 s.things i).born ≤ s.births
      rotate_left; · exact ⟨fun h => absurd ⟨h.lo, h.hi⟩ c3, fun _ => by simp (disch := omega) only [push_cast, zb]⟩
      by_cases c5 : (nth K0 s.things i).born ≤ 600
      · obtain ⟨b, hbb⟩ : ∃ b : Nat, (nth K0 s.things i).born = b := ⟨((nth K0 s.things i).born).toNat, by omega⟩
        have hrd := near_rd s.things i b (by omega)
        by_cases c6 : (nth K0 s.things i).born ∈ bsT s.things i
        · refine ⟨fun h => absurd c6 h.new, fun _ => ?_⟩
          rw [hbb] at c6
          simp (disch := omega) only [push_cast, zb, hbb, hrd, decide_eq_true c6]
        · refine ⟨fun _ => ?_, fun h => absurd ⟨hadj, c1, c2, c3.1, c3.2, c6⟩ h⟩
          have hw := near_wr s.things i b hi (by omega) hbb
          rw [far_S _ _ hi, if_neg (by omega), List.append_nil]
          rw [hbb] at c6
          simp (disch := omega) only [push_cast, zb, hbb, hrd, decide_eq_false c6, hw]
      · have h14 := sto_14 nT i hi (farL s.things i) (by omega) (near s.things i) (nth K0 s.things i).born (nth K0 s.things i).sum (nth K0 s.things i).thing.text (encS (nth K0 s.things i).thing.refs)
        by_cases c6 : (nth K0 s.things i).born ∈ bsT s.things i
        · refine ⟨fun h => absurd c6 h.new, fun _ => ?_⟩
          rw [if_pos ((mem_far _ _ (by omega)).2 c6)] at h14
          simp (disch := omega) only [push_cast, zb]
          exact h14
        · refine ⟨fun _ => ?_, fun h => absurd ⟨hadj, c1, c2, c3.1, c3.2, c6⟩ h⟩
          rw [if_neg (fun h => c6 ((mem_far _ _ (by omega)).1 h))] at h14
          rw [far_S _ _ hi, if_pos (by omega), near_S _ _ hi (by omega)]
          simp (disch := omega) only [push_cast, zb]
          exact h14
    by_cases c0 : 0 < i
    · cases c4 : slt (nth K0 s.things (i - 1)).sum (nth K0 s.things i).sum
      · exact ⟨fun h => absurd (h.adj c0) (by simp [c4]), fun _ => by simp (disch := omega) only [push_cast, zp, ht, zn, hft, zq _ s.width hz, ← c2, c4]⟩
      · refine tail _ ?_ (fun _ => c4)
        simp (disch := omega) only [push_cast, zp, ht, zn, hft, zq _ s.width hz, ← c2, c4]
    · refine tail _ ?_ (fun h => absurd h c0)
      simp (disch := omega) only [push_cast, zp, ht, zn, hft, zq _ s.width hz, ← c2]
  · show Lqc _ _ = _
    rw [eqc_4]; simp (disch := omega) only [push_cast]
theorem svs_11 (hn : 0 ≤ s.now ∧ s.now ≤ 1000000000) (hT : SrtK s.things) (nT : s.things.length ≤ 600) (nL : s.leases.length ≤ 200) : Lql (some 11) [.i 0, .i s.width, .i s.now, .i s.given, .i s.births, .l (encK s.things), .l (encP s.pins), .l (encL s.leases)]
    = if (∀ j, 0 ≤ j → j < s.leases.length → lP s.now s.given s.things s.leases j) then some [.b true] else some [.b false] := by
  refine all_loop (f := fun i : Nat => Lql (some 11) [.i (i : Int), .i s.width, .i s.now, .i s.given, .i s.births, .l (encK s.things), .l (encP s.pins), .l (encL s.leases)]) (fun i hi => ?_) ?_ 0 (Nat.zero_le _)
  · show (_ → Lql _ _ = Lql _ _) ∧ (_ → Lql _ _ = _)
    rw [eql_11]
    have hf := findT_neg (T := s.things) (x := (nth L0 s.leases i).sum)
    have hfe := zm s.width s.now s.given s.births s.things (encP s.pins) (encL s.leases) (nth L0 s.leases i).sum hT (by omega)
    by_cases c2 : 1 ≤ (nth L0 s.leases i).number ∧ (nth L0 s.leases i).number ≤ s.given
    rotate_left; · exact ⟨fun h => absurd ⟨h.lo, h.hi⟩ c2, fun _ => by simp (disch := omega) only [push_cast, zb]⟩
    by_cases c0 : 0 < i
    · by_cases c4 : (nth L0 s.leases (i - 1)).number < (nth L0 s.leases i).number
      rotate_left; · exact ⟨fun h => absurd (h.adj c0) c4, fun _ => by simp (disch := omega) only [push_cast, zb]⟩
      by_cases c1 : hasT s.things (nth L0 s.leases i).sum
      rotate_left; · exact ⟨fun h => absurd h.has c1, fun _ => by have := hf.2 c1; simp (disch := omega) only [push_cast, zb, hfe]⟩
      have c1' : ¬ findT s.things (nth L0 s.leases i).sum < 0 := fun h => hf.1 h c1
      by_cases c5 : s.now < (nth L0 s.leases i).till
      rotate_left; · exact ⟨fun h => absurd h.t1 c5, fun _ => by simp (disch := omega) only [push_cast, zb, hfe]⟩
      by_cases c6 : (nth L0 s.leases i).till ≤ s.now + 100000
      rotate_left; · exact ⟨fun h => absurd h.t2 c6, fun _ => by simp (disch := omega) only [push_cast, zb, hfe]⟩
      exact ⟨fun _ => by simp (disch := omega) only [push_cast, zb, hfe] <;> rfl, fun h => absurd ⟨c1, c2.1, c2.2, fun _ => c4, c5, c6⟩ h⟩
    · by_cases c1 : hasT s.things (nth L0 s.leases i).sum
      rotate_left; · exact ⟨fun h => absurd h.has c1, fun _ => by have := hf.2 c1; simp (disch := omega) only [push_cast, zb, hfe]⟩
      have c1' : ¬ findT s.things (nth L0 s.leases i).sum < 0 := fun h => hf.1 h c1
      by_cases c5 : s.now < (nth L0 s.leases i).till
      rotate_left; · exact ⟨fun h => absurd h.t1 c5, fun _ => by simp (disch := omega) only [push_cast, zb, hfe]⟩
      by_cases c6 : (nth L0 s.leases i).till ≤ s.now + 100000
      rotate_left; · exact ⟨fun h => absurd h.t2 c6, fun _ => by simp (disch := omega) only [push_cast, zb, hfe]⟩
      exact ⟨fun _ => by simp (disch := omega) only [push_cast, zb, hfe] <;> rfl, fun h => absurd ⟨c1, c2.1, c2.2, fun h => absurd h c0, c5, c6⟩ h⟩
  · show Lql _ _ = _
    rw [eql_11]; simp (disch := omega) only [push_cast]
theorem svs_6 (hT : SrtK s.things) (nT : s.things.length ≤ 600) (nP : s.pins.length ≤ 100) (hN : ∀ p ∈ s.pins, p.name.size ≤ 4611686018427387904) : Lql (some 6) [.i 0, .i s.width, .i s.now, .i s.given, .i s.births, .l (encK s.things), .l (encP s.pins), .l (encL s.leases)]
    = if (∀ j, 0 ≤ j → j < s.pins.length → pP s.things s.pins j) then Lql (some 11) [.i 0, .i s.width, .i s.now, .i s.given, .i s.births, .l (encK s.things), .l (encP s.pins), .l (encL s.leases)] else some [.b false] := by
  refine all_loop (f := fun i : Nat => Lql (some 6) [.i (i : Int), .i s.width, .i s.now, .i s.given, .i s.births, .l (encK s.things), .l (encP s.pins), .l (encL s.leases)]) (fun i hi => ?_) ?_ 0 (Nat.zero_le _)
  · show (_ → Lql _ _ = Lql _ _) ∧ (_ → Lql _ _ = _)
    rw [eql_6]
    have hf := findT_neg (T := s.things) (x := (nth P0 s.pins i).sum)
    have hfe := zm s.width s.now s.given s.births s.things (encP s.pins) (encL s.leases) (nth P0 s.pins i).sum hT (by omega)
    have hne := zbb (nth P0 s.pins i).name (hN _ (nth_mem hi))
    unfold nameB at hne
    by_cases c2 : NameOk (nth P0 s.pins i).name
    rotate_left; · exact ⟨fun h => absurd h.nm c2, fun _ => by simp (disch := omega) only [push_cast, hne]⟩
    by_cases c0 : 0 < i
    · cases c4 : slt (nth P0 s.pins (i - 1)).name (nth P0 s.pins i).name
      · exact ⟨fun h => absurd (h.adj c0) (by simp [c4]), fun _ => by simp (disch := omega) only [push_cast, hne, c4]⟩
      · by_cases c1 : hasT s.things (nth P0 s.pins i).sum
        rotate_left; · exact ⟨fun h => absurd h.has c1, fun _ => by have := hf.2 c1; simp (disch := omega) only [push_cast, hne, c4, hfe]⟩
        have c1' : ¬ findT s.things (nth P0 s.pins i).sum < 0 := fun h => hf.1 h c1
        exact ⟨fun _ => by simp (disch := omega) only [push_cast, hne, c4, hfe] <;> rfl, fun h => absurd ⟨c1, c2, fun _ => c4⟩ h⟩
    · by_cases c1 : hasT s.things (nth P0 s.pins i).sum
      rotate_left; · exact ⟨fun h => absurd h.has c1, fun _ => by have := hf.2 c1; simp (disch := omega) only [push_cast, hne, hfe]⟩
      have c1' : ¬ findT s.things (nth P0 s.pins i).sum < 0 := fun h => hf.1 h c1
      exact ⟨fun _ => by simp (disch := omega) only [push_cast, hne, hfe] <;> rfl, fun h => absurd ⟨c1, c2, fun h => absurd h c0⟩ h⟩
  · show Lql _ _ = _
    rw [eql_6]; simp (disch := omega) only [push_cast]
theorem near_0 (T : List Kept) : List.replicate 601 ([.b false] : List C) = near T 0 := by
  unfold near bsT
  simp only [List.take_zero, List.map_nil, List.not_mem_nil, decide_false]
  rw [List.map_const', List.length_range]
theorem z7 (s : State) (hN : ∀ p ∈ s.pins, p.name.size ≤ 4611686018427387904) : Lql none (encSt s) = some [.b (decide (VS s))] := by
  unfold encSt
  rw [eql_i]
  have hv := vs_iff s
  by_cases h1 : 1 ≤ s.width ∧ s.width ≤ 8
  rotate_left; · rw [decide_eq_false fun V : VS s => h1 V.wd]; have : widthB s.width = false := by cases h : widthB s.width; { rfl }; { exact absurd (widthB_iff.1 h) h1 }
                 simp (disch := omega) only [push_cast, ze, this]
  have hw : widthB s.width = true := widthB_iff.2 h1
  by_cases h2 : 0 ≤ s.now ∧ s.now ≤ 1000000000
  rotate_left; · rw [decide_eq_false fun V : VS s => h2 V.now]; simp (disch := omega) only [push_cast, ze, hw, zb]
  by_cases h3 : 0 ≤ s.given ∧ s.given ≤ 1000000000
  rotate_left; · rw [decide_eq_false fun V : VS s => h3 V.given]; simp (disch := omega) only [push_cast, ze, hw, zb]
  by_cases h4 : 0 ≤ s.births ∧ s.births ≤ 1000000000
  rotate_left; · rw [decide_eq_false fun V : VS s => h4 V.births]; simp (disch := omega) only [push_cast, ze, hw, zb]
  by_cases h5 : s.things.length ≤ 600
  rotate_left; · rw [decide_eq_false fun V : VS s => h5 V.nT]; simp (disch := omega) only [push_cast, ze, hw, zb]
  by_cases h6 : s.pins.length ≤ 100
  rotate_left; · rw [decide_eq_false fun V : VS s => h6 V.nP]; simp (disch := omega) only [push_cast, ze, hw, zb]
  by_cases h7 : s.leases.length ≤ 200
  rotate_left; · rw [decide_eq_false fun V : VS s => h7 V.nL]; simp (disch := omega) only [push_cast, ze, hw, zb]
  have hto : Lqc none [.i s.width, .i s.now, .i s.given, .i s.births, .l (encK s.things), .l (encP s.pins), .l (encL s.leases)] = _ := (eqc_i _ _ _ _ _ _ _).trans ((by rw [near_0 s.things]; rfl : _ = Lqc (some 4) [.i 0, .i s.width, .i s.now, .i s.given, .i s.births, .l (encK s.things), .l (encP s.pins), .l (encL s.leases), .l (near s.things 0), .l (encN (farL s.things 0))]).trans (sto_4 h5 h4))
  by_cases h8 : ∀ j, 0 ≤ j → j < s.things.length → tP s.width s.births s.things j
  rotate_left; · rw [if_neg h8] at hto; rw [decide_eq_false fun V : VS s => h8 (hv.1 V).2.2.2.2.2.2.2.1]; simp (disch := omega) only [push_cast, ze, hw, zb, hto]
  have hs := (tP_all _ _ _).1 h8
  rw [if_pos h8, sto_20 hs.1 h5 fun k hk => (hs.2.1 k hk).1.refs] at hto
  by_cases h9 : ∀ j, 0 ≤ j → j < s.things.length → ∀ i, 0 ≤ i → i < (nth K0 s.things j).thing.refs.length → refIn s.things (nth K0 s.things j).born (nth .empty (nth K0 s.things j).thing.refs i)
  rotate_left; · rw [if_neg h9] at hto; rw [decide_eq_false fun V : VS s => h9 (hv.1 V).2.2.2.2.2.2.2.2.1]; simp (disch := omega) only [push_cast, ze, hw, zb, hto]
  rw [if_pos h9] at hto
  simp (disch := omega) only [push_cast, ze, hw, zb, hto, svs_6 hs.1 h5 h6 hN]
  by_cases h10 : ∀ j, 0 ≤ j → j < s.pins.length → pP s.things s.pins j
  rotate_left; · rw [if_neg h10, decide_eq_false fun V : VS s => h10 (hv.1 V).2.2.2.2.2.2.2.2.2.1]
  rw [if_pos h10, svs_11 h2 hs.1 h5 h7]
  by_cases h11 : ∀ j, 0 ≤ j → j < s.leases.length → lP s.now s.given s.things s.leases j
  rotate_left; · rw [if_neg h11, decide_eq_false fun V : VS s => h11 (hv.1 V).2.2.2.2.2.2.2.2.2.2]
  rw [if_pos h11, decide_eq_true (hv.2 ⟨h1, h2, h3, h4, h5, h6, h7, h8, h9, h10, h11⟩)]
end
end KV
end
section
namespace KV
open Go Go.Eng
open Classical
theorem len_sub {α : Type} : ∀ (l m : List α), l.Nodup → (∀ x ∈ l, x ∈ m) → l.length ≤ m.length
  | [], m, _, _ => Nat.zero_le _
  | a :: l, m, h, hs => by
    rw [List.nodup_cons] at h
    have ha := hs a (by simp)
    have h1 := len_sub l (m.erase a) h.2 fun x hx => by
      have hne : x ≠ a := fun e => h.1 (e ▸ hx)
      exact (List.mem_erase_of_ne hne).2 (hs x (by simp [hx]))
    rw [List.length_erase_of_mem ha] at h1
    have : 0 < m.length := List.length_pos_of_mem ha
    rw [List.length_cons]; omega
structure RI (N : Int) (v : Vault) : Prop where
  vv : VV v
  sub : ∀ x ∈ v.rd.marked, hasT v.st.things x
  q : v.rd.queue.length ≤ 300 + 30 * v.rd.marked.length + (v.safe.length + v.loose.length)
  cnt : ((v.safe.length + v.loose.length : Nat) : Int) + v.rd.rounds ≤ N
  t1 : v.rd.phase ≠ 0 → ∀ x, held v.st x → x ∈ v.rd.marked ∨ x ∈ v.rd.queue
  t2 : v.rd.phase ≠ 0 → ∀ k ∈ v.st.things, k.sum ∈ v.rd.marked → ∀ r ∈ k.thing.refs, r ∈ v.rd.marked ∨ r ∈ v.rd.queue
  t3 : v.rd.phase ≠ 0 → ∀ k ∈ v.st.things, v.rd.at_ ≤ k.born → k.sum ∈ v.rd.marked ∨ k.sum ∈ v.rd.queue
theorem marked_len {T : List Kept} {l : List Bs} (h : l.Nodup) (hs : ∀ x ∈ l, hasT T x) : l.length ≤ T.length := by
  have := len_sub l (T.map (·.sum)) h fun x hx => by
    obtain ⟨k, hk, rfl⟩ := hs x hx
    exact List.mem_map.2 ⟨k, hk, rfl⟩
  rw [List.length_map] at this; exact this
theorem VS.born_inj {s : State} (V : VS s) {a b : Kept} (ha : a ∈ s.things) (hb : b ∈ s.things) (h : a.born = b.born) : a = b := by
  obtain ⟨i, hi, rfl⟩ := mem_nth K0 ha
  obtain ⟨j, hj, rfl⟩ := mem_nth K0 hb
  have nd := V.ndT
  rw [nd_iff] at nd
  rcases Nat.lt_trichotomy i j with h1 | h1 | h1
  · exfalso
    apply nd j (Nat.zero_le _) hj
    unfold bsT
    rw [← h]
    exact List.mem_map.2 ⟨_, by rw [nth_get K0 _ _ hi]; exact List.mem_take_iff_getElem.2 ⟨i, by omega, rfl⟩, rfl⟩
  · rw [h1]
  · exfalso
    apply nd i (Nat.zero_le _) hi
    unfold bsT
    rw [h]
    exact List.mem_map.2 ⟨_, by rw [nth_get K0 _ _ hj]; exact List.mem_take_iff_getElem.2 ⟨j, by omega, rfl⟩, rfl⟩
theorem hasT_delK {T : List Kept} {x y : Bs} (h : hasT T y) (hne : y ≠ x) : hasT (delK x T) y := by
  obtain ⟨k, hk, rfl⟩ := h
  exact ⟨k, mem_delK.2 ⟨hk, hne⟩, rfl⟩
end KV
end
section
namespace KV
open Go Go.Eng
open Classical
inductive Rch (T : List Kept) (F : List Bs) : Bs → Prop where
  | base (x : Bs) (h : x ∈ F) : Rch T F x
  | ref (k : Kept) (x : Bs) (hk : k ∈ T) (h : Rch T F k.sum) (hx : x ∈ k.thing.refs) : Rch T F x
theorem addU_pre (l : List Bs) (x : Bs) : ∃ t, addU l x = l ++ t := by
  unfold addU; split
  · exact ⟨[], by simp⟩
  · exact ⟨[x], rfl⟩
theorem foldU_pre (l : List Bs) : ∀ a, ∃ t, l.foldl addU a = a ++ t := by
  induction l with
  | nil => intro a; exact ⟨[], by simp⟩
  | cons x l ih =>
    intro a
    obtain ⟨t, ht⟩ := addU_pre a x
    obtain ⟨t2, ht2⟩ := ih (addU a x)
    rw [List.foldl_cons, ht2, ht]
    exact ⟨t ++ t2, by simp⟩
theorem addU_nd {l : List Bs} {x : Bs} (h : l.Nodup) : (addU l x).Nodup := by
  unfold addU; split
  · exact h
  · rename_i hx
    rw [List.nodup_append]
    refine ⟨h, by simp, fun a ha b hb => ?_⟩
    rw [List.mem_singleton] at hb
    rintro rfl
    rw [hb] at ha; exact hx ha
theorem foldU_nd (l : List Bs) : ∀ a : List Bs, a.Nodup → (l.foldl addU a).Nodup := by
  induction l with
  | nil => intro a h; exact h
  | cons x l ih => intro a h; rw [List.foldl_cons]; exact ih _ (addU_nd h)
structure BI (s : State) (F : List Bs) (i : Nat) (out : List Bs) : Prop where
  nd : out.Nodup
  has : ∀ x ∈ out, hasT s.things x
  base : ∀ x ∈ F, x ∈ out
  rch : ∀ x ∈ out, Rch s.things F x
  le : i ≤ out.length
  cl : ∀ j, j < i → ∀ k ∈ s.things, k.sum = nth .empty out j → ∀ r ∈ k.thing.refs, r ∈ out
theorem below_14 {s : State} (V : VS s) (i : Int) (refs : List Bs) (hr : refs.length ≤ 30) (out : List Bs) (ho : out.length ≤ 1000000) : Lqj (some 14) [.i i, .l (encS refs), .i 0, .i s.width, .i s.now, .i s.given, .i s.births, .l (encK s.things), .l (encP s.pins), .l (encL s.leases), .l (encS out)] =
    Lqj (some 8) [.i (IntKind.i64.wrap (i + 1)), .i s.width, .i s.now, .i s.given, .i s.births, .l (encK s.things), .l (encP s.pins), .l (encL s.leases), .l (encS (refs.foldl addU out))] := by
  exact inv_loop (f := fun (j : Nat) (a : List Bs) => Lqj (some 14) [.i i, .l (encS refs), .i (j : Int), .i s.width, .i s.now, .i s.given, .i s.births, .l (encK s.things), .l (encP s.pins), .l (encL s.leases), .l (encS a)]) (n := refs.length)
    (I := fun j a => a = (refs.take j).foldl addU out) (fun j a hj hI => ⟨addU a (nth .empty refs j), by
      show Lqj _ _ = Lqj _ _
      have hl : a.length ≤ 1000000 + j := by rw [hI]; have := foldU_len (refs.take j) out; rw [List.length_take] at this; omega
      rw [eqj_14, mostE]
      unfold addU
      by_cases hm : nth .empty refs j ∈ a
      · rw [if_pos hm]; simp (disch := omega) only [push_cast, zd a (nth .empty refs j) (show a.length ≤ 4611686018427387904 by omega), decide_eq_true hm] <;> rfl
      · rw [if_neg hm, ← encS_app]; simp (disch := omega) only [push_cast, zd a (nth .empty refs j) (show a.length ≤ 4611686018427387904 by omega), decide_eq_false hm] <;> rfl, by
      show addU a _ = _
      rw [take_fold _ _ _ hj, hI]⟩) (fun a hI => by
      show Lqj _ _ = Lqj _ _
      rw [eqj_14]
      rw [cneg (show ¬ (refs.length : Int) < ((encS refs).length : Int) by rw [encS_len]; omega), hI, List.take_length]) 0 out (Nat.zero_le _) rfl
theorem below_8 {s : State} (V : VS s) (F : List Bs) : ∀ (m i : Nat) (out : List Bs), s.things.length - i = m → BI s F i out →
    ∃ o : List Bs, Lqj (some 8) [.i (i : Int), .i s.width, .i s.now, .i s.given, .i s.births, .l (encK s.things), .l (encP s.pins), .l (encL s.leases), .l (encS out)] = some [.l (encS o)] ∧ o.Nodup ∧ (∀ x, x ∈ o ↔ Rch s.things F x) ∧ ∀ x ∈ o, hasT s.things x := by
  intro m
  have n1 := V.nT
  have fin : ∀ (i : Nat) (out : List Bs), BI s F i out → out.length = i → ∃ o : List Bs, Lqj (some 8) [.i (i : Int), .i s.width, .i s.now, .i s.given, .i s.births, .l (encK s.things), .l (encP s.pins), .l (encL s.leases), .l (encS out)] = some [.l (encS o)] ∧ o.Nodup ∧ (∀ x, x ∈ o ↔ Rch s.things F x) ∧ ∀ x ∈ o, hasT s.things x := by
    intro i out h hi
    refine ⟨out, ?_, h.nd, fun x => ⟨h.rch x, fun hx => ?_⟩, h.has⟩
    · rw [eqj_8]; simp (disch := omega) only [push_cast]
    · induction hx with
      | base x hx => exact h.base x hx
      | ref k x hk hks hx ih =>
        obtain ⟨j, hj, he⟩ := mem_nth .empty ih
        exact h.cl j (by omega) k hk he.symm x hx
  induction m with
  | zero =>
    intro i out hm h
    have hl := marked_len h.nd h.has
    exact fin i out h (by have := h.le; omega)
  | succ m ih =>
    intro i out hm h
    have hl := marked_len h.nd h.has
    rcases Nat.lt_or_ge i out.length with hlt | hge
    rotate_left; · exact fin i out h (by have := h.le; omega)
    obtain ⟨x, hx⟩ : ∃ x, nth .empty out i = x := ⟨_, rfl⟩
    have hmem : x ∈ out := by rw [← hx]; exact nth_mem hlt
    have hT := h.has x hmem
    have hi2 := (hasT_iff V.srtT x).1 hT
    have hfi : findT s.things x = (lb (qK x) s.things : Int) := if_pos hT
    obtain ⟨k, hk⟩ : ∃ k, nth K0 s.things (lb (qK x) s.things) = k := ⟨_, rfl⟩
    have hkm : k ∈ s.things := by rw [← hk]; exact nth_mem hi2.1
    have hks : k.sum = x := by rw [← hk]; exact hi2.2
    have hrl := (V.okT k hkm).1.refs
    obtain ⟨t, ht⟩ := foldU_pre k.thing.refs out
    have hb : BI s F (i + 1) (k.thing.refs.foldl addU out) := by
      refine ⟨foldU_nd _ _ h.nd, fun y hy => ?_, fun y hy => (mem_foldU _ _ _).2 (.inl (h.base y hy)), fun y hy => ?_, by rw [ht, List.length_append]; omega, fun j hj k' hk' he r hr => ?_⟩
      · rcases (mem_foldU _ _ _).1 hy with h1 | h1
        · exact h.has y h1
        · obtain ⟨j, hj, e, _⟩ := V.refs k hkm y h1; exact ⟨j, hj, e⟩
      · rcases (mem_foldU _ _ _).1 hy with h1 | h1
        · exact h.rch y h1
        · exact .ref k y hkm (by rw [hks]; exact h.rch x hmem) h1
      · have hnj : nth .empty (k.thing.refs.foldl addU out) j = nth .empty out j := by
          rw [nth_get _ _ _ (by rw [ht, List.length_append]; omega), nth_get _ _ _ (by omega : j < out.length)]
          simp only [ht]
          rw [List.getElem_append_left]
        rw [hnj] at he
        rcases Nat.lt_or_ge j i with h1 | h1
        · exact (mem_foldU _ _ _).2 (.inl (h.cl j h1 k' hk' he r hr))
        · have hji : j = i := by omega
          subst hji
          rw [hx, ← hks] at he
          have hkk : k' = k := by
            obtain ⟨a, ha, rfl⟩ := mem_nth K0 hk'
            have := key_at K0 V.srtT (kp k.sum) (kR k.sum) ha he
            rw [this, hks, hk]
          rw [hkk] at hr
          exact (mem_foldU _ _ _).2 (.inr hr)
    obtain ⟨o, e, r⟩ := ih (i + 1) _ (by omega) hb
    refine ⟨o, ?_, r⟩
    rw [eqj_8]
    have h14 := below_14 V (i : Int) k.thing.refs hrl out (by omega)
    rw [w64 (by omega)] at h14
    simp (disch := omega) only [push_cast, hx, zm s.width s.now s.given s.births s.things (encP s.pins) (encL s.leases) x V.srtT (by omega), hfi, hk]
    exact h14.trans e
theorem below_ok {s : State} (V : VS s) (F : List Bs) (hF : ∀ x ∈ F, hasT s.things x) (hl : F.length ≤ 1000000) : ∃ o : List Bs, Lqj none (encSt s ++ [.l (encS F)]) = some [.l (encS o)] ∧ o.Nodup ∧ (∀ x, x ∈ o ↔ Rch s.things F x) ∧ ∀ x ∈ o, hasT s.things x := by
  show ∃ o : List Bs, Lqj none [.i s.width, .i s.now, .i s.given, .i s.births, .l (encK s.things), .l (encP s.pins), .l (encL s.leases), .l (encS F)] = _ ∧ _
  obtain ⟨o, e, r⟩ := below_8 V F s.things.length 0 (F.foldl addU []) (by omega) ⟨foldU_nd _ _ List.nodup_nil, fun x hx => by
    rcases (mem_foldU _ _ _).1 hx with h | h
    · cases h
    · exact hF x h, fun x hx => (mem_foldU _ _ _).2 (.inr hx), fun x hx => by
    rcases (mem_foldU _ _ _).1 hx with h | h
    · cases h
    · exact .base x h, Nat.zero_le _, fun j hj => by omega⟩
  refine ⟨o, ?_, r⟩
  rw [eqj_i]
  exact (inv_loop (f := fun (j : Nat) (a : List Bs) => Lqj (some 3) [.l (encS F), .i (j : Int), .i s.width, .i s.now, .i s.given, .i s.births, .l (encK s.things), .l (encP s.pins), .l (encL s.leases), .l (encS a)]) (n := F.length)
    (I := fun j a => a = (F.take j).foldl addU []) (fun j a hj hI => ⟨addU a (nth .empty F j), by
      show Lqj _ _ = Lqj _ _
      have hl : a.length ≤ j := by rw [hI]; have := foldU_len (F.take j) []; rw [List.length_take] at this; simp at this; omega
      rw [eqj_3, mostE]
      unfold addU
      by_cases hm : nth .empty F j ∈ a
      · rw [if_pos hm]; simp (disch := omega) only [push_cast, zd a (nth .empty F j) (show a.length ≤ 4611686018427387904 by omega), decide_eq_true hm] <;> rfl
      · rw [if_neg hm, ← encS_app]; simp (disch := omega) only [push_cast, zd a (nth .empty F j) (show a.length ≤ 4611686018427387904 by omega), decide_eq_false hm] <;> rfl, by
      show addU a _ = _
      rw [take_fold _ _ _ hj, hI]⟩) (fun a hI => by
      show Lqj _ _ = _
      rw [eqj_3]
      rw [hI, List.take_length]
      simp (disch := omega) only [push_cast]
      exact e) 0 [] (Nat.zero_le _) rfl)
def Liv (s : State) (x : Bs) : Prop := Rch s.things (rootsM s) x
theorem zb9 {s : State} (V : VS s) : ∃ o : List Bs, Lqcf none (encSt s) = some [.l (encS o)] ∧ Asc o ∧ (∀ x, x ∈ o ↔ Liv s x) ∧ o.length ≤ 600 ∧ ∀ x ∈ o, hasT s.things x := by
  have n1 := V.nT; have n2 := V.nP; have n3 := V.nL
  have hv := z7 s V.names
  have hr := z8 s (by omega) (by omega)
  have hrl := roots_len s
  obtain ⟨o, e, hnd, hm, hh⟩ := below_ok V (rootsM s) (fun x hx => roots_has V hx) (by omega)
  have hol := marked_len hnd hh
  obtain ⟨o2, e2, ha, hm2, hl2⟩ := sorted_ok o (by omega)
  refine ⟨o2, ?_, ha, fun x => (hm2 x).trans (hm x), by omega, fun x hx => hh x ((hm2 x).1 hx)⟩
  have e' : Lqj none [.i s.width, .i s.now, .i s.given, .i s.births, .l (encK s.things), .l (encP s.pins), .l (encL s.leases), .l (encS (rootsM s))] = _ := e
  rw [decide_eq_true V] at hv
  unfold encSt at hv hr ⊢
  rw [eqcf_i]
  simp (disch := omega) only [push_cast, hv, hr, e', e2]
end KV
end
section
namespace KV
open Go Go.Eng
open Classical
inductive UC (s : State) (r : Round) : Round × Bs → Prop where
  | start (h0 : r.phase = 0) : UC s r (⟨1, rootsM s, r.marked, s.births, s.births + 1, r.rounds⟩, E0)
  | mark (h0 : r.phase ≠ 0) (q : List Bs) (k : Kept) (hq : r.queue = k.sum :: q) (hk : k ∈ s.things) (hm : k.sum ∉ r.marked) : UC s r (⟨r.phase, q ++ k.thing.refs.filter fun y => !decide (y ∈ r.marked ++ [k.sum]), r.marked ++ [k.sum], r.top, r.at_, r.rounds⟩, E0)
  | skip (h0 : r.phase ≠ 0) (x : Bs) (q : List Bs) (hq : r.queue = x :: q) (hm : x ∈ r.marked ∨ ¬ hasT s.things x) : UC s r (⟨r.phase, q, r.marked, r.top, r.at_, r.rounds⟩, E0)
  | over (h0 : r.phase ≠ 0) (hq : r.queue = []) (hb : ∀ k ∈ s.things, r.at_ ≤ k.born) : UC s r (⟨0, [], [], 0, 0, r.rounds + 1⟩, E0)
  | keep (h0 : r.phase ≠ 0) (hq : r.queue = []) (k : Kept) (hk : k ∈ s.things) (hb : k.born < r.at_) (hbest : ∀ j ∈ s.things, j.born < r.at_ → j.born ≤ k.born) (hm : k.sum ∈ r.marked ∨ held s k.sum ∨ isRef s.things k.sum) : UC s r (⟨2, [], r.marked, r.top, k.born, r.rounds⟩, E0)
  | drop (h0 : r.phase ≠ 0) (hq : r.queue = []) (k : Kept) (hk : k ∈ s.things) (hb : k.born < r.at_) (hbest : ∀ j ∈ s.things, j.born < r.at_ → j.born ≤ k.born) (hm : k.sum ∉ r.marked) (hh : ¬ held s k.sum) (hi : ¬ isRef s.things k.sum) : UC s r (⟨2, [], r.marked, r.top, k.born, r.rounds⟩, k.sum)
theorem unit_uc {s : State} (V : VS s) (r : Round) : UC s r (unitM s r) := by
  unfold unitM
  by_cases h0 : r.phase = 0
  · rw [if_pos h0]; exact .start h0
  rw [if_neg h0]
  cases hq : r.queue with
  | cons x q =>
    by_cases c : hasT s.things x ∧ x ∉ r.marked
    · have hi := (hasT_iff V.srtT x).1 c.1
      simp only
      rw [if_pos c]
      have := UC.mark (s := s) (r := r) h0 q (nth K0 s.things (lb (qK x) s.things)) (by rw [hi.2]; exact hq) (nth_mem hi.1) (by rw [hi.2]; exact c.2)
      rw [hi.2] at this
      exact this
    · simp only
      rw [if_neg c]
      refine .skip h0 x q hq ?_
      by_cases hm : x ∈ r.marked
      · exact .inl hm
      · exact .inr fun hT => c ⟨hT, hm⟩
  | nil =>
    simp only
    have hbl := bestI_lt s.things r.at_ s.things.length
    obtain ⟨b1, b2⟩ := bestI_is s.things r.at_ s.things.length
    have hbt : bestI s.things r.at_ s.things.length = bestT s.things r.at_ := rfl
    rw [hbt] at hbl b1 b2
    by_cases c : bestT s.things r.at_ < 0
    · rw [if_pos c]
      refine .over h0 hq fun k hk => ?_
      obtain ⟨j, hj, rfl⟩ := mem_nth K0 hk
      have := b1 c j hj
      omega
    rw [if_neg c]
    obtain ⟨n, hn⟩ : ∃ n : Nat, bestT s.things r.at_ = n := ⟨(bestT s.things r.at_).toNat, by omega⟩
    obtain ⟨b3, b4⟩ := b2 (by omega)
    rw [hn, toNat_cast] at b3 b4 ⊢
    have hmem := nth_mem (d := K0) (show n < s.things.length by omega)
    have hbest : ∀ j ∈ s.things, j.born < r.at_ → j.born ≤ (nth K0 s.things n).born := fun j hj hb => by
      obtain ⟨i, hi, rfl⟩ := mem_nth K0 hj
      exact b4 i hi hb
    by_cases c2 : (nth K0 s.things n).sum ∈ r.marked ∨ held s (nth K0 s.things n).sum ∨ isRef s.things (nth K0 s.things n).sum
    · rw [if_pos c2]; exact .keep h0 hq _ hmem b3 hbest c2
    · rw [if_neg c2]; exact .drop h0 hq _ hmem b3 hbest (fun h => c2 (.inl h)) (fun h => c2 (.inr (.inl h))) (fun h => c2 (.inr (.inr h)))
noncomputable def sumU (m : List Bs) : List Kept → Nat
  | [] => 0
  | k :: l => (if k.sum ∈ m then 0 else k.thing.refs.length) + sumU m l
noncomputable def belN (a : Int) : List Kept → Nat
  | [] => 0
  | k :: l => (if k.born < a then 1 else 0) + belN a l
theorem sumU_mono {m m' : List Bs} (h : ∀ x ∈ m, x ∈ m') : ∀ l, sumU m' l ≤ sumU m l
  | [] => Nat.le_refl _
  | k :: l => by
    have := sumU_mono h l
    simp only [sumU]
    by_cases c : k.sum ∈ m
    · rw [if_pos c, if_pos (h _ c)]; omega
    · rw [if_neg c]; split <;> omega
theorem sumU_filter (m : List Bs) (p : Kept → Bool) : ∀ l, sumU m (l.filter p) ≤ sumU m l
  | [] => Nat.le_refl _
  | k :: l => by
    have := sumU_filter m p l
    rw [List.filter_cons]
    split <;> simp only [sumU] <;> omega
theorem sumU_mark {m : List Bs} {x : Bs} (hx : x ∉ m) : ∀ (l : List Kept) (k : Kept), k ∈ l → k.sum = x → sumU (m ++ [x]) l + k.thing.refs.length ≤ sumU m l
  | a :: l, k, hk, hs => by
    have hm := sumU_mono (m := m) (m' := m ++ [x]) (fun y hy => List.mem_append.2 (.inl hy)) l
    simp only [sumU]
    rcases List.mem_cons.1 hk with rfl | hk
    · rw [if_pos (by rw [hs]; simp), if_neg (by rw [hs]; exact hx)]; omega
    · have := sumU_mark hx l k hk hs
      by_cases c : a.sum ∈ m
      · rw [if_pos (List.mem_append.2 (.inl c)), if_pos c]; omega
      · rw [if_neg c]; split <;> omega
theorem sumU_le (m : List Bs) : ∀ (l : List Kept), (∀ k ∈ l, k.thing.refs.length ≤ 30) → sumU m l ≤ 30 * l.length
  | [], _ => Nat.zero_le _
  | k :: l, h => by
    have h1 := sumU_le m l fun j hj => h j (by simp [hj])
    have h2 := h k (by simp)
    simp only [sumU, List.length_cons]
    split <;> omega
theorem belN_mono {a b : Int} (h : a ≤ b) : ∀ l, belN a l ≤ belN b l
  | [] => Nat.le_refl _
  | k :: l => by
    have := belN_mono h l
    simp only [belN]
    split <;> split <;> omega
theorem belN_filter (a : Int) (p : Kept → Bool) : ∀ l, belN a (l.filter p) ≤ belN a l
  | [] => Nat.le_refl _
  | k :: l => by
    have := belN_filter a p l
    rw [List.filter_cons]
    split <;> simp only [belN] <;> omega
theorem belN_le (a : Int) : ∀ l, belN a l ≤ l.length
  | [] => Nat.le_refl _
  | k :: l => by
    have := belN_le a l
    simp only [belN, List.length_cons]
    split <;> omega
theorem belN_lt {a : Int} : ∀ (l : List Kept) (k : Kept), k ∈ l → k.born < a → belN k.born l + 1 ≤ belN a l
  | c :: l, k, hk, h => by
    have hm := belN_mono (a := k.born) (b := a) (by omega) l
    simp only [belN]
    rcases List.mem_cons.1 hk with rfl | hk
    · rw [if_neg (by omega), if_pos h]; omega
    · have := belN_lt l k hk h
      split <;> split <;> omega
noncomputable def far (s : State) (r : Round) : Nat := if r.phase = 0 then s.pins.length + s.leases.length + sumU [] s.things + s.things.length + 2 else r.queue.length + sumU r.marked s.things + belN r.at_ s.things + 1
noncomputable def whole (s : State) : Nat := s.pins.length + s.leases.length + sumU [] s.things + s.things.length + 2
theorem stepSt_drop {s : State} (V : VS s) {k : Kept} (hk : k ∈ s.things) : stepSt s k.sum = { s with things := delK k.sum s.things } := by
  unfold stepSt; rw [if_neg (V.sumNe hk)]
theorem stepSt_E0 (s : State) : stepSt s E0 = s := if_pos rfl
theorem delK_len {x : Bs} {l : List Kept} (h : hasT l x) : (delK x l).length + 1 ≤ l.length := by
  obtain ⟨k, hk, he⟩ := h
  have : (delK x l).length < l.length := by
    unfold delK
    rw [List.length_filter_lt_length_iff_exists]
    exact ⟨k, hk, by simp [he]⟩
  omega
theorem far_step {s : State} (V : VS s) (r : Round) : ((unitM s r).1.rounds = r.rounds ∧ (unitM s r).1.phase ≠ 0 ∧ far (stepSt s (unitM s r).2) (unitM s r).1 + 1 ≤ far s r) ∨ ((unitM s r).1 = ⟨0, [], [], 0, 0, r.rounds + 1⟩ ∧ (unitM s r).2 = E0 ∧ r.phase ≠ 0 ∧ r.queue = [] ∧ (∀ k ∈ s.things, r.at_ ≤ k.born) ∧ 1 ≤ far s r) := by
  have h := unit_uc V r
  generalize unitM s r = u at h ⊢
  have ph : ∀ (q : Round), q.phase ≠ 0 → far s q = q.queue.length + sumU q.marked s.things + belN q.at_ s.things + 1 := fun q hq => by unfold far; rw [if_neg hq]
  cases h with
  | start h0 =>
    left
    refine ⟨rfl, (by show ¬ (1 : Int) = 0; omega), ?_⟩
    simp only
    rw [stepSt_E0, ph _ (by show ¬ (1 : Int) = 0; omega)]
    unfold far; rw [if_pos h0]
    simp only
    have h1 := roots_len s
    have h2 := belN_le (s.births + 1) s.things
    have h3 := sumU_mono (m := []) (m' := r.marked) (fun x hx => nomatch hx) s.things
    omega
  | mark h0 q k hq hk hm =>
    left
    refine ⟨rfl, h0, ?_⟩
    simp only
    have e := ph ⟨r.phase, q ++ k.thing.refs.filter fun y => !decide (y ∈ r.marked ++ [k.sum]), r.marked ++ [k.sum], r.top, r.at_, r.rounds⟩ h0
    rw [stepSt_E0, e, ph r h0, hq]
    simp only [List.length_append, List.length_cons]
    have h1 := sumU_mark hm s.things k hk rfl
    have h2 := List.length_filter_le (fun y => !decide (y ∈ r.marked ++ [k.sum])) k.thing.refs
    omega
  | skip h0 x q hq hm =>
    left
    refine ⟨rfl, h0, ?_⟩
    simp only
    have e := ph ⟨r.phase, q, r.marked, r.top, r.at_, r.rounds⟩ h0
    rw [stepSt_E0, e, ph r h0, hq]
    simp only [List.length_cons]
    omega
  | over h0 hq hb =>
    right
    exact ⟨rfl, rfl, h0, hq, hb, by rw [ph r h0]; omega⟩
  | keep h0 hq k hk hb hbest hm =>
    left
    refine ⟨rfl, (by show ¬ (2 : Int) = 0; omega), ?_⟩
    simp only
    rw [stepSt_E0, ph _ (by show ¬ (2 : Int) = 0; omega), ph r h0, hq]
    simp only
    have := belN_lt s.things k hk hb
    omega
  | drop h0 hq k hk hb hbest hm hh hi =>
    left
    refine ⟨rfl, (by show ¬ (2 : Int) = 0; omega), ?_⟩
    simp only
    rw [stepSt_drop V hk, ph r h0, hq]
    unfold far
    rw [if_neg (by show ¬ (2 : Int) = 0; omega)]
    simp only
    have h1 := belN_lt s.things k hk hb
    have h2 := belN_filter k.born (fun j => !decide (j.sum = k.sum)) s.things
    have h3 := sumU_filter r.marked (fun j => !decide (j.sum = k.sum)) s.things
    unfold delK
    omega
noncomputable def junk (s : State) (r : Round) : Nat := (r.marked.filter fun x => !decide (hasT s.things x)).length
theorem len_parts {α : Type} (p : α → Bool) : ∀ l : List α, l.length = (l.filter p).length + (l.filter fun x => !p x).length
  | [] => rfl
  | a :: l => by
    have := len_parts p l
    rw [List.filter_cons, List.filter_cons]
    cases p a <;> simp <;> omega
theorem junk_len {s : State} {r : Round} (h : r.marked.Nodup) : r.marked.length ≤ junk s r + s.things.length := by
  have h1 := len_parts (fun x => decide (hasT s.things x)) r.marked
  have h2 := marked_len (T := s.things) (l := r.marked.filter fun x => decide (hasT s.things x)) (h.sublist List.filter_sublist) (fun x hx => of_decide_eq_true (List.mem_filter.1 hx).2)
  unfold junk
  omega
structure CL (s : State) (r : Round) : Prop where
  vs : VS s
  rok : RoundOk s.width s.births r
  jk : junk s r + s.things.length ≤ 600
  qq : r.phase ≠ 0 → r.queue.length + sumU r.marked s.things ≤ 23200
theorem VS.rl {s : State} (V : VS s) : ∀ k ∈ s.things, k.thing.refs.length ≤ 30 := fun k hk => (V.okT k hk).1.refs
theorem CL_unit {s : State} {r : Round} (h : CL s r) (hr : r.rounds < 1000000000) : CL (stepSt s (unitM s r).2) (unitM s r).1 := by
  have V := h.vs
  have hk := stepSt_keeps s (unitM s r).2
  have V' := step_VS (r := r) V
  have n1 := V.nT; have n2 := V.nP; have n3 := V.nL
  have key : ((unitM s r).1.phase ≠ 0 → (unitM s r).1.queue.length + sumU (unitM s r).1.marked (stepSt s (unitM s r).2).things ≤ 23200) ∧ (unitM s r).1.queue.length ≤ 23200 ∧ junk (stepSt s (unitM s r).2) (unitM s r).1 + (stepSt s (unitM s r).2).things.length ≤ 600 ∧ (unitM s r).1.marked.Nodup := by
    have hu := unit_uc V r
    have hj := h.jk
    have hn := h.rok.ndM
    generalize unitM s r = u at hu ⊢
    cases hu with
    | start h0 =>
      have hm := (h.rok.rest h0).2.1
      simp only
      rw [stepSt_E0, hm]
      have h1 := roots_len s
      have h2 := sumU_le [] s.things V.rl
      refine ⟨fun _ => by omega, by omega, ?_, List.nodup_nil⟩
      unfold junk; simp only [List.filter_nil, List.length_nil]; omega
    | mark h0 q k hq hk hm =>
      simp only
      rw [stepSt_E0]
      have hqq := h.qq h0
      rw [hq] at hqq
      simp only [List.length_cons] at hqq
      have h1 := sumU_mark hm s.things k hk rfl
      have h2 := List.length_filter_le (fun y => !decide (y ∈ r.marked ++ [k.sum])) k.thing.refs
      have h3 : (q ++ k.thing.refs.filter fun y => !decide (y ∈ r.marked ++ [k.sum])).length + sumU (r.marked ++ [k.sum]) s.things ≤ 23200 := by rw [List.length_append]; omega
      refine ⟨fun _ => h3, by omega, ?_, ?_⟩
      · unfold junk at hj ⊢
        simp only [List.filter_append]
        rw [List.filter_cons, if_neg (by simp; exact ⟨k, hk, rfl⟩), List.filter_nil, List.append_nil]
        exact hj
      · rw [List.nodup_append]
        refine ⟨hn, by simp, fun a ha b hb => ?_⟩
        rw [List.mem_singleton] at hb
        rintro rfl
        rw [hb] at ha; exact hm ha
    | skip h0 x q hq hm =>
      simp only
      rw [stepSt_E0]
      have hqq := h.qq h0
      rw [hq] at hqq
      simp only [List.length_cons] at hqq
      exact ⟨fun _ => by omega, by omega, hj, hn⟩
    | over h0 hq hb =>
      simp only
      rw [stepSt_E0]
      refine ⟨fun h => absurd rfl h, Nat.zero_le _, ?_, List.nodup_nil⟩
      unfold junk; simp only [List.filter_nil, List.length_nil]; omega
    | keep h0 hq k hk hb hbest hm =>
      simp only
      rw [stepSt_E0]
      have hqq := h.qq h0
      rw [hq] at hqq
      exact ⟨fun _ => by simpa using hqq, Nat.zero_le _, hj, hn⟩
    | drop h0 hq k hk hb hbest hm hh hi =>
      simp only
      rw [stepSt_drop V hk]
      have hqq := h.qq h0
      rw [hq] at hqq
      have h3 := sumU_filter r.marked (fun j => !decide (j.sum = k.sum)) s.things
      have h4 := delK_len (x := k.sum) (l := s.things) ⟨k, hk, rfl⟩
      refine ⟨fun _ => ?_, Nat.zero_le _, ?_, hn⟩
      · simp only [List.length_nil] at hqq ⊢; unfold delK; omega
      · have : junk { s with things := delK k.sum s.things } ⟨2, [], r.marked, r.top, k.born, r.rounds⟩ = junk s r := by
          unfold junk
          simp only
          congr 1
          apply List.filter_congr
          intro x hx
          congr 1
          refine decide_eq_decide.2 ⟨fun ⟨j, h1, h2⟩ => ⟨j, (mem_delK.1 h1).1, h2⟩, fun h1 => hasT_delK h1 ?_⟩
          rintro rfl; exact hm hx
        rw [this]
        simp only
        omega
  obtain ⟨k1, k2, k3, k4⟩ := key
  have hml := junk_len (s := stepSt s (unitM s r).2) k4
  refine ⟨V', ?_, k3, k1⟩
  rw [hk.1, hk.2.1]
  exact unit_ok V h.rok hr k2 (by omega)
theorem Rch_drop {T : List Kept} {F : List Bs} {x : Bs} (h1 : x ∉ F) (h2 : ¬ isRef T x) (y : Bs) : Rch (delK x T) F y ↔ Rch T F y := by
  constructor
  · intro h
    induction h with
    | base y h => exact .base y h
    | ref k y hk h hy ih => exact .ref k y (mem_delK.1 hk).1 ih hy
  · have hx : ¬ Rch T F x := by
      intro h
      cases h with
      | base _ h => exact h1 h
      | ref k _ hk h hy => exact h2 ⟨k, hk, hy⟩
    intro h
    induction h with
    | base y h => exact .base y h
    | ref k y hk h hy ih =>
      refine .ref k y (mem_delK.2 ⟨hk, ?_⟩) ih hy
      rintro e; rw [e] at h; exact hx h
theorem mem_roots {s : State} {x : Bs} : x ∈ rootsM s ↔ held s x := by
  unfold rootsM held
  rw [mem_foldU, mem_foldU]
  simp only [List.mem_map, List.not_mem_nil, false_or]
theorem Liv_drop {s : State} {x : Bs} (h1 : ¬ held s x) (h2 : ¬ isRef s.things x) (y : Bs) : Liv { s with things := delK x s.things } y ↔ Liv s y := by
  unfold Liv
  exact Rch_drop (fun h => h1 (mem_roots.1 h)) h2 y
theorem Liv_has {s : State} (V : VS s) {x : Bs} (h : Liv s x) : hasT s.things x := by
  cases h with
  | base _ h => exact roots_has V h
  | ref k _ hk h hy => obtain ⟨j, hj, e, _⟩ := V.refs k hk x hy; exact ⟨j, hj, e⟩
theorem Liv_step {s : State} {r : Round} (V : VS s) (y : Bs) : Liv (stepSt s (unitM s r).2) y ↔ Liv s y := by
  have h := unit_uc V r
  generalize unitM s r = u at h ⊢
  cases h with
  | drop h0 hq k hk hb hbest hm hh hi =>
    simp only
    rw [stepSt_drop V hk]; exact Liv_drop hh hi y
  | _ => simp only [stepSt_E0]
structure CR (s : State) (r : Round) : Prop where
  t1 : ∀ x, held s x → x ∈ r.marked ∨ x ∈ r.queue
  t2 : ∀ k ∈ s.things, k.sum ∈ r.marked → ∀ y ∈ k.thing.refs, y ∈ r.marked ∨ y ∈ r.queue
  t3 : ∀ k ∈ s.things, r.at_ ≤ k.born → k.sum ∈ r.marked ∨ k.sum ∈ r.queue
  lm : ∀ x ∈ r.marked, Liv s x
  lq : ∀ x ∈ r.queue, Liv s x
theorem CR.all {s : State} {r : Round} (h : CR s r) (hq : r.queue = []) (V : VS s) {x : Bs} (hx : Liv s x) : x ∈ r.marked := by
  induction hx with
  | base x hx => have := h.t1 x (mem_roots.1 hx); rw [hq] at this; exact this.resolve_right (fun h => nomatch h)
  | ref k x hk h1 hx ih => have := h.t2 k hk ih x hx; rw [hq] at this; exact this.resolve_right (fun h => nomatch h)
theorem key_uni {s : State} (V : VS s) {a b : Kept} (ha : a ∈ s.things) (hb : b ∈ s.things) (h : a.sum = b.sum) : a = b := by
  obtain ⟨i, hi, rfl⟩ := mem_nth K0 ha
  obtain ⟨j, hj, rfl⟩ := mem_nth K0 hb
  have h1 := key_at K0 V.srtT (kp (nth K0 s.things j).sum) (kR (nth K0 s.things j).sum) hi h
  have h2 := key_at K0 V.srtT (kp (nth K0 s.things j).sum) (kR (nth K0 s.things j).sum) hj rfl
  rw [h1, ← h2]
theorem CR.free {s : State} {r : Round} (h : CR s r) (V : VS s) (hq : r.queue = []) {k : Kept} (hk : k ∈ s.things) (hm : k.sum ∉ r.marked) (hbest : ∀ j ∈ s.things, j.born < r.at_ → j.born ≤ k.born) : ¬ held s k.sum ∧ ¬ isRef s.things k.sum := by
  constructor
  · intro hh
    rcases h.t1 _ hh with h1 | h1
    · exact hm h1
    · rw [hq] at h1; cases h1
  · rintro ⟨j, hj, hr⟩
    obtain ⟨k', hk', he, hb⟩ := V.refs j hj _ hr
    obtain rfl : k' = k := key_uni V hk' hk he
    have hjm : j.sum ∉ r.marked := by
      intro hjm
      rcases h.t2 j hj hjm _ hr with h1 | h1
      · exact hm h1
      · rw [hq] at h1; cases h1
    have hlt : j.born < r.at_ := by
      rcases (by omega : j.born < r.at_ ∨ r.at_ ≤ j.born) with h1 | h1
      · exact h1
      · rcases h.t3 j hj h1 with h2 | h2
        · exact absurd h2 hjm
        · rw [hq] at h2; cases h2
    have := hbest j hj hlt
    omega
theorem CR_unit {s : State} {r : Round} (V : VS s) (rok : RoundOk s.width s.births r) (h : r.phase ≠ 0 → CR s r) (hp : (unitM s r).1.phase ≠ 0) : CR (stepSt s (unitM s r).2) (unitM s r).1 := by
  have hu := unit_uc V r
  generalize unitM s r = u at hu hp ⊢
  cases hu with
  | start h0 =>
    have hm := (rok.rest h0).2.1
    simp only
    rw [stepSt_E0, hm]
    refine ⟨fun x hx => .inr (mem_roots.2 hx), fun k hk hm => (nomatch hm), fun k hk hb => ?_, fun x hx => (nomatch hx), fun x hx => .base x hx⟩
    simp only at hb
    have := (V.okT k hk).2.2.2; omega
  | mark h0 q k hq hk hm =>
    have C := h h0
    simp only
    rw [stepSt_E0]
    have mv : ∀ y, y ∈ r.marked ∨ y ∈ r.queue → y ∈ r.marked ++ [k.sum] ∨ y ∈ q ++ k.thing.refs.filter fun y => !decide (y ∈ r.marked ++ [k.sum]) := by
      intro y hy
      rw [hq] at hy
      rcases hy with h1 | h1
      · exact .inl (List.mem_append.2 (.inl h1))
      · rcases List.mem_cons.1 h1 with h2 | h2
        · exact .inl (List.mem_append.2 (.inr (by rw [h2]; simp)))
        · exact .inr (List.mem_append.2 (.inl h2))
    have hkl : Liv s k.sum := C.lq _ (by rw [hq]; simp)
    refine ⟨fun x hx => mv x (C.t1 x hx), fun j hj hm2 y hy => ?_, fun j hj hb => mv _ (C.t3 j hj hb), fun x hx => ?_, fun x hx => ?_⟩
    · simp only at hm2
      rcases List.mem_append.1 hm2 with h1 | h1
      · exact mv y (C.t2 j hj h1 y hy)
      · rw [List.mem_singleton] at h1
        obtain rfl := key_uni V hj hk h1
        by_cases hc : y ∈ r.marked ++ [j.sum]
        · exact .inl hc
        · exact .inr (List.mem_append.2 (.inr (List.mem_filter.2 ⟨hy, by simpa using hc⟩)))
    · rcases List.mem_append.1 hx with h1 | h1
      · exact C.lm x h1
      · rw [List.mem_singleton] at h1; rw [h1]; exact hkl
    · rcases List.mem_append.1 hx with h1 | h1
      · exact C.lq x (by rw [hq]; simp [h1])
      · exact .ref k x hk hkl (List.mem_filter.1 h1).1
  | skip h0 x q hq hm =>
    have C := h h0
    simp only
    rw [stepSt_E0]
    have hxm : x ∈ r.marked := hm.resolve_right fun h => h (Liv_has V (C.lq x (by rw [hq]; simp)))
    have mv : ∀ y, y ∈ r.marked ∨ y ∈ r.queue → y ∈ r.marked ∨ y ∈ q := by
      intro y hy
      rw [hq] at hy
      rcases hy with h1 | h1
      · exact .inl h1
      · rcases List.mem_cons.1 h1 with h2 | h2
        · rw [h2]; exact .inl hxm
        · exact .inr h2
    exact ⟨fun x hx => mv x (C.t1 x hx), fun j hj hm y hy => mv y (C.t2 j hj hm y hy), fun j hj hb => mv _ (C.t3 j hj hb), C.lm, fun x hx => C.lq x (by rw [hq]; simp [hx])⟩
  | over h0 hq hb => exact absurd rfl hp
  | keep h0 hq k hk hb hbest hm =>
    have C := h h0
    simp only
    rw [stepSt_E0]
    have hkm : k.sum ∈ r.marked := by
      rcases hm with h1 | h1
      · exact h1
      · rcases Classical.em (k.sum ∈ r.marked) with h2 | h2
        · exact h2
        · have := C.free V hq hk h2 hbest
          exact absurd h1 (fun h => h.elim this.1 this.2)
    have hq' := C.t1; have hq2 := C.t2; have hq3 := C.t3
    rw [hq] at hq' hq2 hq3
    refine ⟨hq', hq2, fun j hj hb2 => ?_, C.lm, fun x hx => nomatch hx⟩
    simp only at hb2
    rcases (by omega : j.born < r.at_ ∨ r.at_ ≤ j.born) with h1 | h1
    · have := hbest j hj h1
      obtain rfl := V.born_inj hj hk (by omega)
      exact .inl hkm
    · exact hq3 j hj h1
  | drop h0 hq k hk hb hbest hm hh hi =>
    have C := h h0
    simp only
    rw [stepSt_drop V hk]
    have hq' := C.t1; have hq2 := C.t2; have hq3 := C.t3
    rw [hq] at hq' hq2 hq3
    refine ⟨hq', fun j hj => hq2 j (mem_delK.1 hj).1, fun j hj hb2 => ?_, fun x hx => (Liv_drop hh hi x).2 (C.lm x hx), fun x hx => nomatch hx⟩
    simp only at hb2 hj
    obtain ⟨hj1, hj2⟩ := mem_delK.1 hj
    rcases (by omega : j.born < r.at_ ∨ r.at_ ≤ j.born) with h1 | h1
    · have := hbest j hj1 h1
      obtain rfl := V.born_inj hj1 hk (by omega)
      exact absurd rfl hj2
    · exact hq3 j hj1 h1
noncomputable def stepU (a : State × Round) : State × Round := (stepSt a.1 (unitM a.1 a.2).2, (unitM a.1 a.2).1)
noncomputable def iterU : Nat → State × Round → State × Round
  | 0, a => a
  | n + 1, a => iterU n (stepU a)
theorem iterU_S : ∀ (n : Nat) (a : State × Round), iterU (n + 1) a = stepU (iterU n a)
  | 0, a => rfl
  | n + 1, a => iterU_S n (stepU a)
structure UK (s s' : State) : Prop where
  ints : s'.width = s.width ∧ s'.births = s.births ∧ s'.now = s.now ∧ s'.given = s.given
  pins : s'.pins = s.pins
  leases : s'.leases = s.leases
  sub : s'.things.Sublist s.things
  liv : ∀ x, Liv s' x ↔ Liv s x
theorem UK.refl (s : State) : UK s s := ⟨⟨rfl, rfl, rfl, rfl⟩, rfl, rfl, List.Sublist.refl _, fun _ => Iff.rfl⟩
theorem UK.trans {a b c : State} (h : UK a b) (k : UK b c) : UK a c := by
  obtain ⟨a1, a2, a3, a4⟩ := h.ints
  obtain ⟨b1, b2, b3, b4⟩ := k.ints
  exact ⟨⟨b1.trans a1, b2.trans a2, b3.trans a3, b4.trans a4⟩, k.pins.trans h.pins, k.leases.trans h.leases, k.sub.trans h.sub, fun x => (k.liv x).trans (h.liv x)⟩
theorem UK.step {s : State} (V : VS s) (r : Round) : UK s (stepSt s (unitM s r).2) := by
  obtain ⟨a1, a2, a3, a4, a5, a6⟩ := stepSt_keeps s (unitM s r).2
  refine ⟨⟨a1, a2, a3, a4⟩, a5, a6, ?_, Liv_step V⟩
  unfold stepSt
  split
  · exact List.Sublist.refl _
  · exact List.filter_sublist
theorem to_end : ∀ (m : Nat) (a : State × Round), CL a.1 a.2 → far a.1 a.2 ≤ m → a.2.rounds < 1000000000 →
    ∃ n, 1 ≤ n ∧ n ≤ m ∧ (∀ j, j < n → (iterU j a).2.rounds = a.2.rounds) ∧ (∀ j, 0 < j → j < n → (iterU j a).2.phase ≠ 0) ∧ (iterU n a).2 = ⟨0, [], [], 0, 0, a.2.rounds + 1⟩ ∧ ((a.2.phase ≠ 0 → CR a.1 a.2) → ∀ k ∈ (iterU n a).1.things, Liv (iterU n a).1 k.sum)
  | 0, a, h, hf, hr => by
    exfalso
    unfold far at hf
    split at hf <;> omega
  | m + 1, a, h, hf, hr => by
    have h1 := CL_unit h (by omega)
    rcases far_step h.vs a.2 with ⟨e1, e2, e3⟩ | ⟨e1, e2, e3, e4, e5, e6⟩
    · obtain ⟨n, n1, n2, n3, n4, n5, n6⟩ := to_end m (stepU a) h1 (by show far (stepSt a.1 (unitM a.1 a.2).2) (unitM a.1 a.2).1 ≤ m; omega) (by show (unitM a.1 a.2).1.rounds < 1000000000; omega)
      refine ⟨n + 1, by omega, by omega, fun j hj => ?_, fun j hj0 hj => ?_, ?_, fun hc => n6 fun _ => CR_unit h.vs h.rok hc e2⟩
      · cases j with
        | zero => rfl
        | succ j => exact (n3 j (by omega)).trans e1
      · cases j with
        | zero => omega
        | succ j =>
          cases j with
          | zero => exact e2
          | succ j => exact n4 (j + 1) (by omega) (by omega)
      · have : (iterU n (stepU a)).2 = ⟨0, [], [], 0, 0, (unitM a.1 a.2).1.rounds + 1⟩ := n5
        rw [e1] at this; exact this
    · refine ⟨1, Nat.le_refl _, by omega, fun j hj => ?_, fun j hj0 hj => by omega, e1, fun hc k hk => ?_⟩
      · obtain rfl : j = 0 := by omega
        rfl
      · have hs : (iterU 1 a).1 = a.1 := by
          show stepSt a.1 (unitM a.1 a.2).2 = a.1
          rw [e2, stepSt_E0]
        rw [hs] at hk ⊢
        have C := hc e3
        rcases C.t3 k hk (e5 k hk) with h2 | h2
        · exact C.lm _ h2
        · rw [e4] at h2; cases h2
end KV
end
section
namespace KV
open Go Go.Eng
open Classical
structure BR (r : Round) : Prop where
  q : r.queue.length ≤ 24000
  m : r.marked.length ≤ 1000
  ints : (-1 ≤ r.phase ∧ r.phase ≤ 5) ∧ (-1 ≤ r.top ∧ r.top ≤ 1000000001) ∧ (-1 ≤ r.at_ ∧ r.at_ ≤ 1000000003) ∧ (-1 ≤ r.rounds ∧ r.rounds ≤ 1000000001)
structure IR (r : Round) : Prop where
  q : r.queue.length ≤ 23200
  m : r.marked.length ≤ 600
  ints : (0 ≤ r.phase ∧ r.phase ≤ 2) ∧ (0 ≤ r.top ∧ r.top ≤ 1000000000) ∧ (0 ≤ r.at_ ∧ r.at_ ≤ 1000000001) ∧ (0 ≤ r.rounds ∧ r.rounds ≤ 1000000000)
end KV
end
section
namespace KV
open Go Go.Eng
open Classical
theorem zcl {s : State} (hN : ∀ p ∈ s.pins, p.name.size ≤ 4611686018427387904) (r : Round) : Lqc9 none [.i s.width, .i s.now, .i s.given, .i s.births, .l (encK s.things), .l (encP s.pins), .l (encL s.leases), .i r.phase, .l (encS r.queue), .l (encS r.marked), .i r.top, .i r.at_, .i r.rounds] = some [.b (decide (VS s ∧ RoundOk s.width s.births r))] := by
  have h1 := zco s hN
  unfold encSt at h1
  rw [eqc9_i, h1]
  by_cases V : VS s
  · have h2 : Lq5 none [.i r.phase, .l (encS r.queue), .l (encS r.marked), .i r.top, .i r.at_, .i r.rounds, .i s.width, .i s.now, .i s.given, .i s.births, .l (encK s.things), .l (encP s.pins), .l (encL s.leases)] = _ := zcc s r V.births
    rw [decide_eq_true V]
    simp (disch := omega) only [push_cast, h2]
    congr 3
    exact decide_eq_decide.2 ⟨fun h => ⟨V, h⟩, fun h => h.2⟩
  · rw [decide_eq_false V, decide_eq_false (p := VS s ∧ RoundOk s.width s.births r) fun h => V h.1]; simp (disch := omega) only [push_cast]
def encUI (s : State) (u : Round × Bs) : Lv := [.i 0, .i s.width, .i s.now, .i s.given, .i s.births, .i u.1.phase, .l (encS u.1.marked), .i u.1.top, .i u.1.at_, .i u.1.rounds, .l (encK s.things), .l (encP s.pins), .l (encL s.leases), .l (encS u.1.queue), .l (encS (oneD u.2))]
def unNoI : Lv := [.i 1, .i 0, .i 0, .i 0, .i 0, .i 0, .l [], .i 0, .i 0, .i 0, .l [], .l [], .l [], .l [], .l []]
theorem zbd {s : State} (hN : ∀ p ∈ s.pins, p.name.size ≤ 4611686018427387904) (r : Round) : Lqcw none [.i s.width, .i s.now, .i s.given, .i s.births, .l (encK s.things), .l (encP s.pins), .l (encL s.leases), .i r.phase, .l (encS r.queue), .l (encS r.marked), .i r.top, .i r.at_, .i r.rounds] = some (if VS s ∧ RoundOk s.width s.births r ∧ r.rounds < 1000000000 then encUI (stepSt s (unitM s r).2) (unitM s r) else unNoI) := by
  rw [eqcw_i, zcl hN r]
  by_cases c : VS s ∧ RoundOk s.width s.births r
  rotate_left
  · rw [decide_eq_false c, if_neg fun h => c ⟨h.1, h.2.1⟩]; simp (disch := omega) only [push_cast]; rfl
  obtain ⟨V, hr⟩ := c
  have hnx : Lqf none [.i r.phase, .l (encS r.queue), .l (encS r.marked), .i r.top, .i r.at_, .i r.rounds, .i s.width, .i s.now, .i s.given, .i s.births, .l (encK s.things), .l (encP s.pins), .l (encL s.leases)] = _ := zbp V hr
  rw [decide_eq_true (p := VS s ∧ RoundOk s.width s.births r) ⟨V, hr⟩]
  have hrd := hr.rds
  by_cases c2 : r.rounds = 1000000000
  · rw [if_neg fun h => by have := h.2.2; omega]
    rw [if_pos c2] at hnx
    simp (disch := omega) only [push_cast, hnx]; rfl
  rw [if_pos ⟨V, hr, by omega⟩]
  rw [if_neg c2] at hnx
  unfold encNx at hnx
  have n1 := V.nT; have n2 := V.nP; have n3 := V.nL
  have hcs := zca s.width s.now s.given s.births s.things (encP s.pins) (encL s.leases) (by omega) (fun k hk => by have := (V.okT k hk).1.refs; omega) (by rw [encP_len]; omega) (by rw [encL_len]; omega)
  by_cases hd : (unitM s r).2 = E0
  · have h1 : stepSt s (unitM s r).2 = s := if_pos hd
    have h2 : oneD (unitM s r).2 = [] := if_pos hd
    unfold encUI
    rw [h1, h2]
    rw [hd] at hnx
    simp (disch := omega) only [push_cast, hnx, hcs]; rfl
  · obtain ⟨a, b, c, _⟩ := unit_drop V hd
    obtain ⟨e1, e2, e3, e4⟩ := drop_entry V a b c
    have hch : Lqa none [.i 7, .s (unitM s r).2, .s E0, .i 0, .s E0, .l [], .i s.width, .i s.now, .i s.given, .i s.births, .l (encK s.things), .l (encP s.pins), .l (encL s.leases)] = some (encOutI (chg s (eDrop (unitM s r).2))) := zcy V e2
    have h2 : oneD (unitM s r).2 = [(unitM s r).2] := if_neg hd
    unfold encOutI encSt at hch
    simp only [List.cons_append, List.nil_append] at hch
    rw [e4] at hch
    unfold encUI
    rw [h2]
    simp (disch := omega) only [push_cast, hnx, hcs, hch]; rfl
noncomputable def wasteM (s : State) (live : List Bs) : List Bs := (s.things.filter fun k => !decide (k.sum ∈ live)).map (·.sum)
theorem zb5 {s : State} (V : VS s) {o : List Bs} (h : Lqcf none (encSt s) = some [.l (encS o)]) (ho : o.length ≤ 1000000) : Lqbs none (encSt s) = some [.l (encS (wasteM s o))] := by
  have hv := z7 s V.names
  have n1 := V.nT
  rw [decide_eq_true V] at hv
  unfold encSt at hv h ⊢
  rw [eqbs_i]
  have lp := inv_loop (f := fun (i : Nat) (a : List Bs) => Lqbs (some 6) [.i (i : Int), .i s.width, .i s.now, .i s.given, .i s.births, .l (encK s.things), .l (encP s.pins), .l (encL s.leases), .l (encS a), .l (encS o)]) (n := s.things.length) (T := some [.l (encS (wasteM s o))])
    (I := fun i a => a = ((s.things.take i).filter fun k => !decide (k.sum ∈ o)).map (·.sum)) (fun i a hi hI => ⟨a ++ (if (nth K0 s.things i).sum ∈ o then [] else [(nth K0 s.things i).sum]), by
      show Lqbs _ _ = Lqbs _ _
      have hl : a.length ≤ i := by
        rw [hI, List.length_map]
        have := List.length_filter_le (fun k : Kept => !decide (k.sum ∈ o)) (s.things.take i)
        rw [List.length_take] at this; omega
      rw [eqbs_6, mostE]
      by_cases hm : (nth K0 s.things i).sum ∈ o
      · rw [if_pos hm, List.append_nil]; simp (disch := omega) only [push_cast, zd o (nth K0 s.things i).sum (by omega), decide_eq_true hm]
      · rw [if_neg hm, ← encS_app]; simp (disch := omega) only [push_cast, zd o (nth K0 s.things i).sum (by omega), decide_eq_false hm] <;> rfl, by
      show a ++ _ = _
      rw [take_nth K0 hi, List.filter_append, List.map_append, ← hI]
      congr 1
      rw [List.filter_cons, List.filter_nil]
      by_cases hm : (nth K0 s.things i).sum ∈ o
      · rw [if_pos hm, if_neg (by simp [hm])]; rfl
      · rw [if_neg hm, if_pos (by simp [hm])]; rfl⟩) (fun a hI => by
      show Lqbs _ _ = _
      rw [eqbs_6]
      simp (disch := omega) only [push_cast]
      rw [hI, List.take_length]; rfl) 0 [] (Nat.zero_le _) rfl
  simp (disch := omega) only [push_cast, hv, h]
  exact lp
theorem sumU_app (m : List Bs) : ∀ l l' : List Kept, sumU m (l ++ l') = sumU m l + sumU m l'
  | [], l' => by simp [sumU]
  | k :: l, l' => by
    have := sumU_app m l l'
    simp only [List.cons_append, sumU]; omega
theorem wUnits_eq {s : State} (V : VS s) : Lqb3 none (encSt s) = some [.i (3 * (whole s : Int) - 3)] := by
  have n1 := V.nT; have n2 := V.nP; have n3 := V.nL
  have hU := sumU_le [] s.things V.rl
  unfold encSt
  rw [eqb3_i]
  have lp := inv_loop (f := fun (i : Nat) (a : Nat) => Lqb3 (some 3) [.i (a : Int), .i (i : Int), .i s.width, .i s.now, .i s.given, .i s.births, .l (encK s.things), .l (encP s.pins), .l (encL s.leases)]) (n := s.things.length) (T := some [.i (3 * (whole s : Int) - 3)])
    (I := fun i a => a = s.things.length + s.pins.length + s.leases.length + sumU [] (s.things.take i)) (fun i a hi hI => ⟨a + (nth K0 s.things i).thing.refs.length, by
      show Lqb3 _ _ = Lqb3 _ _
      have h1 := V.rl _ (nth_mem (d := K0) hi)
      have h2 := sumU_le [] (s.things.take i) fun k hk => V.rl k (List.mem_of_mem_take hk)
      rw [List.length_take] at h2
      rw [eqb3_3]
      simp (disch := omega) only [push_cast], by
      show a + _ = _
      rw [take_nth K0 hi, sumU_app, hI]
      simp only [sumU]
      rw [if_neg (by simp)]; omega⟩) (fun a hI => by
      show Lqb3 _ _ = _
      rw [List.take_length] at hI
      rw [eqb3_3]
      simp (disch := omega) only [push_cast]
      unfold whole
      congr 3
      omega) 0 (s.things.length + s.pins.length + s.leases.length) (Nat.zero_le _) (by simp [sumU])
  simp (disch := omega) only [push_cast]
  have e : ((s.things.length : Int) + (s.pins.length : Int) + (s.leases.length : Int)) = ((s.things.length + s.pins.length + s.leases.length : Nat) : Int) := by omega
  rw [e]
  exact lp
theorem wBorn_eq {s : State} (V : VS s) {k : Kept} (hk : k ∈ s.things) : Lqb4 none [.i s.width, .i s.now, .i s.given, .i s.births, .l (encK s.things), .l (encP s.pins), .l (encL s.leases), .s k.sum] = some [.i k.born] := by
  have n1 := V.nT
  rw [eqb4_i]
  have := find_loop (f := fun i : Nat => Lqb4 (some 2) [.s k.sum, .i (i : Int), .i s.width, .i s.now, .i s.given, .i s.births, .l (encK s.things), .l (encP s.pins), .l (encL s.leases)]) (l := s.things) (d := K0) (p := fun a => decide (a.sum = k.sum)) (ret := fun i => some [.i (nth K0 s.things i).born]) (e := some [.i 0]) (fun i hi => by
    show Lqb4 _ _ = cond _ _ (Lqb4 _ _)
    rw [eqb4_2]
    simp (disch := omega) only [push_cast]) (by show Lqb4 _ _ = _; rw [eqb4_2]; simp (disch := omega) only [push_cast])
  refine this.trans ?_
  rw [findIdx_key K0 V.srtT (kp k.sum) (kR k.sum), if_pos ⟨k, hk, rfl⟩]
  simp only
  have hi := (hasT_iff V.srtT k.sum).1 ⟨k, hk, rfl⟩
  have := key_uni V (nth_mem (d := K0) hi.1) hk hi.2
  rw [this]
theorem live_len {s now : State} (V : VS s) (V' : VS now) (U : UK s now) {live : List Bs} (hl : live.Nodup) (hm : ∀ x, x ∈ live ↔ Liv s x) (hall : ∀ k ∈ now.things, Liv now k.sum) : now.things.length = live.length ∧ (wasteM s live).length + live.length = s.things.length := by
  have sumsNd : ∀ T : List Kept, SrtK T → (T.map (·.sum)).Nodup := fun T h => by
    rw [List.Nodup, List.pairwise_map]
    exact h.imp fun {a b} hab e => by rw [e, slt_irrefl] at hab; cases hab
  have a1 := len_sub (now.things.map (·.sum)) live (sumsNd _ V'.srtT) fun x hx => by
    obtain ⟨k, hk, rfl⟩ := List.mem_map.1 hx
    exact (hm _).2 ((U.liv _).1 (hall k hk))
  have a2 := len_sub live (now.things.map (·.sum)) hl fun x hx => by
    obtain ⟨k, hk, rfl⟩ := Liv_has V' ((U.liv x).2 ((hm x).1 hx))
    exact List.mem_map.2 ⟨k, hk, rfl⟩
  rw [List.length_map] at a1 a2
  have p := len_parts (fun k : Kept => decide (k.sum ∈ live)) s.things
  have b1 := len_sub ((s.things.filter fun k => decide (k.sum ∈ live)).map (·.sum)) live (sumsNd _ (V.srtT.sublist List.filter_sublist)) fun x hx => by
    obtain ⟨k, hk, rfl⟩ := List.mem_map.1 hx
    exact of_decide_eq_true (List.mem_filter.1 hk).2
  have b2 := len_sub live ((s.things.filter fun k => decide (k.sum ∈ live)).map (·.sum)) hl fun x hx => by
    obtain ⟨k, hk, rfl⟩ := Liv_has V ((hm x).1 hx)
    exact List.mem_map.2 ⟨k, List.mem_filter.2 ⟨hk, decide_eq_true hx⟩, rfl⟩
  rw [List.length_map] at b1 b2
  unfold wasteM
  rw [List.length_map]
  exact ⟨by omega, by omega⟩
end KV
end
section
namespace KV
open Go Go.Eng
open Classical
structure UI (s now : State) (r : Round) (dr : List Bs) (last : Int) : Prop where
  cl : CL now r
  uk : UK s now
  cr : r.phase ≠ 0 → CR now r
  gone : ∀ k ∈ s.things, k ∈ now.things ∨ k.sum ∈ dr
  cnt : now.things.length + dr.length = s.things.length
  la : r.phase = 0 → last = s.births + 1
  lb : r.phase ≠ 0 → r.at_ ≤ last
noncomputable def lastM (last : Int) (now : State) (r : Round) : Int := if (unitM now r).2 = E0 then last else (unitM now r).1.at_
theorem UI.bornx {s now : State} {r : Round} {dr : List Bs} {last : Int} (h : UI s now r dr last) (hd : (unitM now r).2 ≠ E0) : ∃ k ∈ now.things, k.sum = (unitM now r).2 ∧ k.born = (unitM now r).1.at_ ∧ 1 ≤ k.born ∧ k.born < last := by
  have V := h.cl.vs
  have hu := unit_uc V r
  generalize unitM now r = u at hu hd ⊢
  cases hu with
  | drop h0 hq k hk hb hbest hm hh hi =>
    have := h.lb h0
    exact ⟨k, hk, rfl, rfl, (V.okT k hk).2.2.1, by omega⟩
  | _ => exact absurd rfl hd
theorem UI.step {s now : State} {r : Round} {dr : List Bs} {last : Int} (h : UI s now r dr last) (hr : r.rounds < 1000000000) :
    CL (stepSt now (unitM now r).2) (unitM now r).1 ∧ UK s (stepSt now (unitM now r).2) ∧ (∀ k ∈ s.things, k ∈ (stepSt now (unitM now r).2).things ∨ k.sum ∈ dr ++ oneD (unitM now r).2) ∧
    (stepSt now (unitM now r).2).things.length + (dr ++ oneD (unitM now r).2).length = s.things.length ∧ ((unitM now r).1.phase ≠ 0 → UI s (stepSt now (unitM now r).2) (unitM now r).1 (dr ++ oneD (unitM now r).2) (lastM last now r)) := by
  have V := h.cl.vs
  have a1 := CL_unit h.cl hr
  have a2 := h.uk.trans (UK.step V r)
  have key : (∀ k ∈ s.things, k ∈ (stepSt now (unitM now r).2).things ∨ k.sum ∈ dr ++ oneD (unitM now r).2) ∧ (stepSt now (unitM now r).2).things.length + (dr ++ oneD (unitM now r).2).length = s.things.length := by
    by_cases hd : (unitM now r).2 = E0
    · have e1 : stepSt now (unitM now r).2 = now := if_pos hd
      have e2 : oneD (unitM now r).2 = [] := if_pos hd
      rw [e1, e2, List.append_nil]
      exact ⟨h.gone, h.cnt⟩
    · obtain ⟨j, hj, hjs, _⟩ := h.bornx hd
      have e1 : stepSt now (unitM now r).2 = { now with things := delK (unitM now r).2 now.things } := if_neg hd
      have e2 : oneD (unitM now r).2 = [(unitM now r).2] := if_neg hd
      rw [e1, e2]
      refine ⟨fun k hk => ?_, ?_⟩
      · rcases h.gone k hk with h1 | h1
        · by_cases hks : k.sum = (unitM now r).2
          · exact .inr (List.mem_append.2 (.inr (by rw [hks]; simp)))
          · exact .inl (mem_delK.2 ⟨h1, hks⟩)
        · exact .inr (List.mem_append.2 (.inl h1))
      · have h1 := len_parts (fun k : Kept => !decide (k.sum = (unitM now r).2)) now.things
        have h2 : (now.things.filter fun k => !!decide (k.sum = (unitM now r).2)).length ≤ 1 := by
          have h3 : ∀ k ∈ now.things.filter (fun k => !!decide (k.sum = (unitM now r).2)), k = j := fun k hk => by
            obtain ⟨h4, h5⟩ := List.mem_filter.1 hk
            simp only [Bool.not_not, decide_eq_true_eq] at h5
            exact key_uni V h4 hj (h5.trans hjs.symm)
          have hnd : (now.things.filter (fun k => !!decide (k.sum = (unitM now r).2))).Nodup := by
            have hs : now.things.Nodup := V.srtT.imp fun {a b} hab e => by rw [e, slt_irrefl] at hab; cases hab
            exact hs.sublist List.filter_sublist
          have := len_sub _ [j] hnd fun k hk => by rw [h3 k hk]; simp
          simpa using this
        have h3 := delK_len (x := (unitM now r).2) (l := now.things) ⟨j, hj, hjs⟩
        have h4 := h.cnt
        unfold delK at h3 ⊢
        rw [List.length_append]
        simp only [List.length_cons, List.length_nil]
        omega
  refine ⟨a1, a2, key.1, key.2, fun hp => ⟨a1, a2, fun _ => CR_unit V h.cl.rok h.cr hp, key.1, key.2, fun h0 => absurd h0 hp, fun _ => ?_⟩⟩
  unfold lastM
  by_cases hd : (unitM now r).2 = E0
  · rw [if_pos hd]
    have hu := unit_uc V r
    have hb := h.uk.ints.2.1
    have hla := h.la; have hlb := h.lb
    generalize unitM now r = u at hu hd hp ⊢
    cases hu with
    | start h0 => have := hla h0; simp only; omega
    | mark h0 q k hq hk hm => have := hlb h0; simp only; omega
    | skip h0 x q hq hm => have := hlb h0; simp only; omega
    | over h0 hq hb => exact absurd rfl hp
    | keep h0 hq k hk hb hbest hm => have := hlb h0; simp only; omega
    | drop h0 hq k hk hb hbest hm hh hi => have := hlb h0; simp only; omega
  · rw [if_neg hd]; exact Int.le_refl _
theorem UI.marks {s now : State} {r : Round} {dr : List Bs} {last : Int} (h : UI s now r dr last) (h1 : r.phase = 1) (h2 : (unitM now r).1.phase = 2) {live : List Bs} (hl : live.Nodup) (hm : ∀ x, x ∈ live ↔ Liv s x) :
    (unitM now r).1.marked.length = live.length ∧ ∀ x ∈ live, x ∈ (unitM now r).1.marked := by
  have V := h.cl.vs
  have h0 : r.phase ≠ 0 := by omega
  have C := h.cr h0
  have hq : r.queue = [] ∧ (unitM now r).1.marked = r.marked := by
    have hu := unit_uc V r
    generalize unitM now r = u at hu h2 ⊢
    cases hu with
    | start h0' => exact absurd h0' h0
    | mark h0 q k hq hk hm => simp only at h2; omega
    | skip h0 x q hq hm => simp only at h2; omega
    | over h0 hq hb => simp only at h2; omega
    | keep h0 hq k hk hb hbest hm => exact ⟨hq, rfl⟩
    | drop h0 hq k hk hb hbest hm hh hi => exact ⟨hq, rfl⟩
  rw [hq.2]
  have a : ∀ x ∈ live, x ∈ r.marked := fun x hx => C.all hq.1 V ((h.uk.liv x).2 ((hm x).1 hx))
  have b : ∀ x ∈ r.marked, x ∈ live := fun x hx => (hm x).2 ((h.uk.liv x).1 (C.lm x hx))
  have c := len_sub _ _ hl a
  have d := len_sub _ _ h.cl.rok.ndM b
  exact ⟨by omega, a⟩
theorem units_40 {live : List Bs} {dr : List Bs} {now : State} {waste : List Bs} (h1 : waste.length ≤ 1000000) (h2 : dr.length ≤ 1000000) (hw : ∀ x ∈ waste, x ∈ dr) (hn : now.things.length = live.length) :
    Lqh (some 40) [.i 0, .l (encS live), .l (encS waste), .l (encS dr), .i now.width, .i now.now, .i now.given, .i now.births, .l (encK now.things), .l (encP now.pins), .l (encL now.leases)] = some [.b true] := by
  refine inv_loop (f := fun (i : Nat) (u : Unit) => Lqh (some 40) [.i (i : Int), .l (encS live), .l (encS waste), .l (encS dr), .i now.width, .i now.now, .i now.given, .i now.births, .l (encK now.things), .l (encP now.pins), .l (encL now.leases)]) (I := fun _ _ => True) (n := waste.length) (fun i u hi _ => ⟨u, ?_, trivial⟩) (fun u _ => ?_) 0 () (Nat.zero_le _) trivial
  · show Lqh _ _ = Lqh _ _
    have hm := hw _ (nth_mem (d := .empty) hi)
    rw [eqh_40]
    simp (disch := omega) only [push_cast, wIn_eq dr (nth .empty waste i) (by omega), decide_eq_true hm]
  · show Lqh _ _ = _
    rw [eqh_40]
    simp (disch := omega) only [push_cast]
    rw [decide_eq_true (show ((now.things.length : Int) = (live.length : Int)) by omega)]
theorem units_13 {s : State} (V : VS s) {live : List Bs} (hl : live.Nodup) (hm : ∀ x, x ∈ live ↔ Liv s x) (hll : live.length ≤ 600) (N : Nat) (hN1 : 1 ≤ N) (hN : N ≤ whole s) (hph : ∀ j, 0 < j → j < N → (iterU j (s, R0)).2.phase ≠ 0) (hend : (iterU N (s, R0)).2 = ⟨0, [], [], 0, 0, 1⟩) (hall : ∀ k ∈ (iterU N (s, R0)).1.things, Liv (iterU N (s, R0)).1 k.sum) :
    ∀ (m k : Nat) (now : State) (r : Round) (dr : List Bs) (last : Int), N - k = m → k < N → (now, r) = iterU k (s, R0) → r.rounds < 1000000000 → UI s now r dr last →
    Lqh (some 13) [.i last, .i (k : Int), .i s.width, .i s.now, .i s.given, .i s.births, .l (encK s.things), .l (encP s.pins), .l (encL s.leases), .i r.phase, .l (encS r.marked), .i r.top, .i r.at_, .i r.rounds, .l (encS live), .l (encS (wasteM s live)), .l (encS dr), .i now.width, .i now.now, .i now.given, .i now.births, .l (encK now.things), .l (encP now.pins), .l (encL now.leases), .l (encS r.queue)] = some [.b true] := by
  have wsm : (wasteM s live).length ≤ 600 := by
    unfold wasteM; rw [List.length_map]
    have := List.length_filter_le (fun k : Kept => !decide (k.sum ∈ live)) s.things
    have := V.nT; omega
  have hwl : whole s ≤ 20000 := by
    have := sumU_le [] s.things V.rl
    have := V.nT; have := V.nP; have := V.nL
    unfold whole; omega
  intro m
  induction m with
  | zero => intro k now r dr last h1 h2; omega
  | succ m ih =>
    intro k now r dr last hmk hk hit hr h
    have V' := h.cl.vs
    have hU := wUnits_eq V
    unfold encSt at hU
    have hu := zbd V'.names r
    rw [if_pos ⟨V', h.cl.rok, hr⟩] at hu
    unfold encUI at hu
    obtain ⟨s1, s2, s3, s4, s5⟩ := h.step hr
    have hnext : (stepSt now (unitM now r).2, (unitM now r).1) = iterU (k + 1) (s, R0) := by rw [iterU_S, ← hit]; rfl
    have hrounds : (unitM now r).1.phase ≠ 0 → (unitM now r).1.rounds < 1000000000 := fun hp => by
      rcases far_step V' r with ⟨e, _⟩ | ⟨e, _⟩
      · rw [e]; exact hr
      · rw [e] at hp; exact absurd rfl hp
    have hdl : dr.length ≤ 600 ∧ (dr ++ oneD (unitM now r).2).length ≤ 600 := by
      have := h.cnt; have := V.nT; omega
    have hol : (oneD (unitM now r).2).length ≤ 1 := by unfold oneD; split <;> simp
    have h13 : (unitM now r).1.phase ≠ 0 → Lqh (some 13) [.i (lastM last now r), .i ((k : Int) + 1), .i s.width, .i s.now, .i s.given, .i s.births, .l (encK s.things), .l (encP s.pins), .l (encL s.leases), .i (unitM now r).1.phase, .l (encS (unitM now r).1.marked), .i (unitM now r).1.top, .i (unitM now r).1.at_, .i (unitM now r).1.rounds, .l (encS live), .l (encS (wasteM s live)), .l (encS (dr ++ oneD (unitM now r).2)), .i (stepSt now (unitM now r).2).width, .i (stepSt now (unitM now r).2).now, .i (stepSt now (unitM now r).2).given, .i (stepSt now (unitM now r).2).births, .l (encK (stepSt now (unitM now r).2).things), .l (encP (stepSt now (unitM now r).2).pins), .l (encL (stepSt now (unitM now r).2).leases), .l (encS (unitM now r).1.queue)] = some [.b true] := by
      intro hp
      have hk1 : k + 1 < N := by
        rcases Nat.lt_or_ge (k + 1) N with h1 | h1
        · exact h1
        · have : k + 1 = N := by omega
          rw [this] at hnext
          rw [← hnext] at hend
          simp only at hend
          rw [hend] at hp; exact absurd rfl hp
      have := ih (k + 1) _ _ _ _ (by omega) hk1 hnext (hrounds hp) (s5 hp)
      rw [show ((k + 1 : Nat) : Int) = (k : Int) + 1 by omega] at this
      exact this
    have h40 : (unitM now r).1.phase = 0 → Lqh (some 40) [.i 0, .l (encS live), .l (encS (wasteM s live)), .l (encS (dr ++ oneD (unitM now r).2)), .i (stepSt now (unitM now r).2).width, .i (stepSt now (unitM now r).2).now, .i (stepSt now (unitM now r).2).given, .i (stepSt now (unitM now r).2).births, .l (encK (stepSt now (unitM now r).2).things), .l (encP (stepSt now (unitM now r).2).pins), .l (encL (stepSt now (unitM now r).2).leases)] = some [.b true] ∧ (unitM now r).1.rounds = 1 ∧ (dr ++ oneD (unitM now r).2).length = (wasteM s live).length := by
      intro hp
      have hk1 : k + 1 = N := by
        rcases Nat.lt_or_ge (k + 1) N with h1 | h1
        · have := hph (k + 1) (by omega) h1
          rw [← hnext] at this
          exact absurd hp this
        · omega
      rw [hk1] at hnext
      rw [← hnext] at hall hend
      simp only at hall hend
      obtain ⟨l1, l2⟩ := live_len V s1.vs s2 hl hm hall
      refine ⟨units_40 (by omega) (by omega) (fun x hx => ?_) l1, by rw [hend], by omega⟩
      obtain ⟨j, hj, rfl⟩ := List.mem_map.1 hx
      obtain ⟨hj1, hj2⟩ := List.mem_filter.1 hj
      simp only [Bool.not_eq_true', decide_eq_false_iff_not] at hj2
      rcases s3 j hj1 with h1 | h1
      · exact absurd ((hm _).2 ((s2.liv _).1 (hall j h1))) hj2
      · exact h1
    have h29 : (unitM now r).1.phase = 2 → (∀ x ∈ live, x ∈ (unitM now r).1.marked) → Lqh (some 29) [.i (lastM last now r), .i (k : Int), .i 0, .i s.width, .i s.now, .i s.given, .i s.births, .l (encK s.things), .l (encP s.pins), .l (encL s.leases), .i r.phase, .l (encS r.marked), .i r.top, .i r.at_, .i r.rounds, .l (encS live), .l (encS (wasteM s live)), .l (encS dr), .i now.width, .i now.now, .i now.given, .i now.births, .l (encK now.things), .l (encP now.pins), .l (encL now.leases), .i 0, .i (stepSt now (unitM now r).2).width, .i (stepSt now (unitM now r).2).now, .i (stepSt now (unitM now r).2).given, .i (stepSt now (unitM now r).2).births, .i (unitM now r).1.phase, .l (encS (unitM now r).1.marked), .i (unitM now r).1.top, .i (unitM now r).1.at_, .i (unitM now r).1.rounds, .l (encS r.queue), .l (encK (stepSt now (unitM now r).2).things), .l (encP (stepSt now (unitM now r).2).pins), .l (encL (stepSt now (unitM now r).2).leases), .l (encS (unitM now r).1.queue), .l (encS (oneD (unitM now r).2))] = some [.b true] := by
      intro hp hma
      have hml := s1.rok.nM
      refine inv_loop (f := fun (i : Nat) (u : Unit) => Lqh (some 29) [.i (lastM last now r), .i (k : Int), .i (i : Int), .i s.width, .i s.now, .i s.given, .i s.births, .l (encK s.things), .l (encP s.pins), .l (encL s.leases), .i r.phase, .l (encS r.marked), .i r.top, .i r.at_, .i r.rounds, .l (encS live), .l (encS (wasteM s live)), .l (encS dr), .i now.width, .i now.now, .i now.given, .i now.births, .l (encK now.things), .l (encP now.pins), .l (encL now.leases), .i 0, .i (stepSt now (unitM now r).2).width, .i (stepSt now (unitM now r).2).now, .i (stepSt now (unitM now r).2).given, .i (stepSt now (unitM now r).2).births, .i (unitM now r).1.phase, .l (encS (unitM now r).1.marked), .i (unitM now r).1.top, .i (unitM now r).1.at_, .i (unitM now r).1.rounds, .l (encS r.queue), .l (encK (stepSt now (unitM now r).2).things), .l (encP (stepSt now (unitM now r).2).pins), .l (encL (stepSt now (unitM now r).2).leases), .l (encS (unitM now r).1.queue), .l (encS (oneD (unitM now r).2))]) (I := fun _ _ => True) (n := live.length) (fun i u hi _ => ⟨u, ?_, trivial⟩) (fun u _ => ?_) 0 () (Nat.zero_le _) trivial
      · show Lqh _ _ = Lqh _ _
        have hmm := hma _ (nth_mem (d := .empty) hi)
        rw [eqh_29]
        simp (disch := omega) only [push_cast, wIn_eq (unitM now r).1.marked (nth .empty live i) (by omega), decide_eq_true hmm]
      · show Lqh _ _ = _
        have h13' := h13 (by omega)
        rw [hp] at h13'
        rw [eqh_29, mostE]
        simp (disch := omega) only [push_cast, hp, encS_app]
        exact h13'
    have hfin : Lqh (some 19) [.i (lastM last now r), .i (k : Int), .i ((oneD (unitM now r).2).length : Int), .i s.width, .i s.now, .i s.given, .i s.births, .l (encK s.things), .l (encP s.pins), .l (encL s.leases), .i r.phase, .l (encS r.marked), .i r.top, .i r.at_, .i r.rounds, .l (encS live), .l (encS (wasteM s live)), .l (encS dr), .i now.width, .i now.now, .i now.given, .i now.births, .l (encK now.things), .l (encP now.pins), .l (encL now.leases), .i 0, .i (stepSt now (unitM now r).2).width, .i (stepSt now (unitM now r).2).now, .i (stepSt now (unitM now r).2).given, .i (stepSt now (unitM now r).2).births, .i (unitM now r).1.phase, .l (encS (unitM now r).1.marked), .i (unitM now r).1.top, .i (unitM now r).1.at_, .i (unitM now r).1.rounds, .l (encS r.queue), .l (encK (stepSt now (unitM now r).2).things), .l (encP (stepSt now (unitM now r).2).pins), .l (encL (stepSt now (unitM now r).2).leases), .l (encS (unitM now r).1.queue), .l (encS (oneD (unitM now r).2))] = some [.b true] := by
      rw [eqh_19, mostE]
      by_cases c2 : (unitM now r).1.phase = 2
      · have h13' := h13 (by omega)
        by_cases c1 : r.phase = 1
        · obtain ⟨e1, e2⟩ := h.marks c1 c2 hl hm
          have := h29 c2 e2
          rw [c2, c1] at this
          simp (disch := omega) only [push_cast, c2, c1, e1]
          exact this
        · rw [c2] at h13'
          simp (disch := omega) only [push_cast, c2, encS_app]
          exact h13'
      · by_cases c0 : (unitM now r).1.phase = 0
        · obtain ⟨e1, e2, e3⟩ := h40 c0
          simp (disch := omega) only [push_cast, c0, encS_app, e2, e3]
          exact e1
        · have h13' := h13 c0
          simp (disch := omega) only [push_cast, encS_app]
          exact h13'
    have hU' : (k : Int) < 3 * (whole s : Int) - 3 := by
      have : 2 ≤ whole s := by unfold whole; omega
      omega
    rw [eqh_13]
    simp (disch := omega) only [push_cast, hU, hu]
    by_cases hd : (unitM now r).2 = E0
    · have e2 : oneD (unitM now r).2 = [] := if_pos hd
      have e3 : lastM last now r = last := if_pos hd
      rw [e2, e3] at hfin
      rw [e2]
      exact hfin
    · obtain ⟨j, hj, hjs, hjb, hb1, hb2⟩ := h.bornx hd
      have e2 : oneD (unitM now r).2 = [(unitM now r).2] := if_neg hd
      have e3 : lastM last now r = j.born := (if_neg hd).trans hjb.symm
      have hwb := wBorn_eq V' hj
      rw [hjs] at hwb
      rw [e2, e3] at hfin
      rw [e2, eqh_19]
      have hx0 : (rd (encS [(unitM now r).2]) 0 0).str = (unitM now r).2 := rfl
      have h0 : (0 : Int).toNat = 0 := rfl
      simp (disch := omega) only [push_cast, h0, hx0, hwb]
      exact hfin
theorem units_all {c : Rw} (hc : ∀ i, 0 ≤ (rd c i 0).int ∧ (rd c i 0).int ≤ 255) : Lqh none [.l c] = some [.b true] := by
  rw [eqh_i]
  by_cases hl : (1048576 : Int) < (c.length : Int)
  · simp (disch := omega) only [push_cast]
  obtain ⟨s, e, B⟩ := drawLive_ok hc
  have SV := z7 s B.names
  unfold encSt at SV e
  by_cases V : VS s
  rotate_left
  · have hu := zbd B.names R0
    rw [if_neg fun h => V h.1] at hu
    have hu' : Lqcw none [.i s.width, .i s.now, .i s.given, .i s.births, .l (encK s.things), .l (encP s.pins), .l (encL s.leases), .i 0, .l [], .l [], .i 0, .i 0, .i 0] = _ := hu
    unfold unNoI at hu'
    rw [decide_eq_false V] at SV
    simp (disch := omega) only [push_cast, e, SV, hu']
  rw [decide_eq_true V] at SV
  obtain ⟨live, le, la, lm, lll, lh⟩ := zb9 V
  have we := zb5 V le (by omega)
  unfold encSt at le we
  have hb := V.births
  have hrok : RoundOk s.width s.births R0 := ⟨⟨Int.le_refl _, (by show (0 : Int) ≤ 2; omega)⟩, ⟨Int.le_refl _, (by show (0 : Int) ≤ 1000000000; omega)⟩, Nat.zero_le _, Nat.zero_le _, (fun x hx => nomatch hx), List.nodup_nil, (fun x hx => nomatch hx), fun _ => ⟨rfl, rfl, rfl, rfl⟩, fun h => absurd rfl h⟩
  have hcl : CL s R0 := ⟨V, hrok, by have := V.nT; show 0 + s.things.length ≤ 600; omega, fun h => absurd rfl h⟩
  have hwl : whole s ≤ 20000 := by
    have := sumU_le [] s.things V.rl
    have := V.nT; have := V.nP; have := V.nL
    unfold whole; omega
  obtain ⟨N, n1, n2, n3, n4, n5, n6⟩ := to_end (whole s) (s, R0) hcl (by
    show far s R0 ≤ whole s
    unfold far whole; rw [if_pos (show R0.phase = 0 from rfl)]; exact Nat.le_refl _) (by show (0 : Int) < 1000000000; omega)
  have lnd : live.Nodup := la.imp fun {a b} hab e => by rw [e, slt_irrefl] at hab; cases hab
  have := units_13 V lnd lm lll N n1 n2 n4 n5 (n6 fun h => absurd rfl h) N 0 s R0 [] (s.births + 1) (by omega) (by omega) rfl (by show (0 : Int) < 1000000000; omega) ⟨hcl, UK.refl s, fun h => absurd rfl h, fun k hk => .inl hk, rfl, fun _ => rfl, fun h => absurd rfl h⟩
  have this' : Lqh (some 13) [.i (s.births + 1), .i 0, .i s.width, .i s.now, .i s.given, .i s.births, .l (encK s.things), .l (encP s.pins), .l (encL s.leases), .i 0, .l [], .i 0, .i 0, .i 0, .l (encS live), .l (encS (wasteM s live)), .l [], .i s.width, .i s.now, .i s.given, .i s.births, .l (encK s.things), .l (encP s.pins), .l (encL s.leases), .l []] = _ := this
  simp (disch := omega) only [push_cast, e, SV, le, we]
  exact this'
end KV
end
