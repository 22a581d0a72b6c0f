/- Plain laws over the walks' closed forms. -/
import Derived.Test.YtbgmclgeikflaaaGreatM1
import Derived.Test.YtbgmclgeikflaaaGreatM2
import Derived.Test.YtbgmclgeikflaaaGreatM3
import Derived.Test.YtbgmclgeikflaaaGreatM4
import Derived.Test.YtbgmclgeikflaaaGreatM5
set_option linter.unusedSimpArgs false
set_option linter.unusedVariables false
set_option linter.unusedSectionVars false
section
namespace KV
open Go Go.Eng
set_option linter.unusedVariables false
set_option linter.unusedSimpArgs false
set_option linter.unusedSectionVars false
open Classical
section
variable {s : State} {x : Bs} (V : VS s)
include V
theorem dropP_loop (hr : ¬ isRef s.things x) : L_spec_l4Drop__plain (some 7) [.s x, .i 0, .i s.width, .i s.now, .i s.given, .i s.births, .l (encK s.things), .l (encP s.pins), .l (encL s.leases), .i 0, .i 0, .i 0, .i 0, .i 0, .s E0, .i 0, .s E0, .s E0, .l (encK []), .l [], .l [], .l []] =
    some [.i 0, .i s.width, .i s.now, .i s.given, .i s.births, .l (encP s.pins), .l (encL s.leases), .s E0, .i 0, .s E0, .s E0, .l (encK (delK x s.things))] := by
  have h1 := V.nT
  refine filter_loop K0 (l := s.things) (p := fun k => !decide (k.sum = x)) (f := fun i a => L_spec_l4Drop__plain (some 7) [.s x, .i (i : Int), .i s.width, .i s.now, .i s.given, .i s.births, .l (encK s.things), .l (encP s.pins), .l (encL s.leases), .i 0, .i 0, .i 0, .i 0, .i 0, .s E0, .i 0, .s E0, .s E0, .l (encK a), .l [], .l [], .l []]) (fun i a hi ha => ?_) ?_
  · show L_spec_l4Drop__plain _ _ = L_spec_l4Drop__plain _ _
    have hm := nth_mem (d := K0) hi
    have hrl := okRefs V _ hm
    have hn : ¬ x ∈ (nth K0 s.things i).thing.refs := fun h => hr ⟨_, hm, h⟩
    rw [e_spec_l4Drop__plain_7, mostE]
    by_cases hc : (nth K0 s.things i).sum = x
    · rw [if_neg (by simp [hc])]; simp (disch := omega) only [push_cast, spec_l4Has_eq _ x (show (nth K0 s.things i).thing.refs.length ≤ 4611686018427387904 by omega), decide_eq_false hn]
    · rw [if_pos (by simp [hc]), ← encK_app]; simp (disch := omega) only [push_cast, spec_l4Has_eq _ x (show (nth K0 s.things i).thing.refs.length ≤ 4611686018427387904 by omega), decide_eq_false hn] <;> rfl
  · show L_spec_l4Drop__plain _ _ = _
    rw [e_spec_l4Drop__plain_7]; simp (disch := omega) only [push_cast] <;> rfl
theorem dropP_ref (hr : isRef s.things x) : ∀ (i : Nat) (a : List Kept), i ≤ s.things.length → (a.length ≤ i ∧ ∃ j, i ≤ j ∧ j < s.things.length ∧ x ∈ (nth K0 s.things j).thing.refs) → L_spec_l4Drop__plain (some 7) [.s x, .i (i : Int), .i s.width, .i s.now, .i s.given, .i s.births, .l (encK s.things), .l (encP s.pins), .l (encL s.leases), .i 0, .i 0, .i 0, .i 0, .i 0, .s E0, .i 0, .s E0, .s E0, .l (encK a), .l [], .l [], .l []] =
    some [.i 6, .i 0, .i 0, .i 0, .i 0, .l [], .l [], .s E0, .i 0, .s E0, .s E0, .l []] := by
  have h1 := V.nT
  intro i a hi hI
  refine inv_loop_ex (f := fun i a => L_spec_l4Drop__plain (some 7) [.s x, .i (i : Int), .i s.width, .i s.now, .i s.given, .i s.births, .l (encK s.things), .l (encP s.pins), .l (encL s.leases), .i 0, .i 0, .i 0, .i 0, .i 0, .s E0, .i 0, .s E0, .s E0, .l (encK a), .l [], .l [], .l []]) (n := s.things.length) (I := fun i a => a.length ≤ i ∧ ∃ j, i ≤ j ∧ j < s.things.length ∧ x ∈ (nth K0 s.things j).thing.refs)
    (T := fun r => r = some [.i 6, .i 0, .i 0, .i 0, .i 0, .l [], .l [], .s E0, .i 0, .s E0, .s E0, .l []]) (fun i a hi hI => ?_) (fun a hI => ?_) i a hi hI
  · obtain ⟨ha, j, hj1, hj2, hj3⟩ := hI
    have hm := nth_mem (d := K0) hi
    have hrl := okRefs V _ hm
    by_cases hn : x ∈ (nth K0 s.things i).thing.refs
    · right
      show L_spec_l4Drop__plain _ _ = _
      rw [e_spec_l4Drop__plain_7]
      simp (disch := omega) only [push_cast, spec_l4Has_eq _ x (show (nth K0 s.things i).thing.refs.length ≤ 4611686018427387904 by omega), decide_eq_true hn]
    · left
      have hj : i + 1 ≤ j := by
        rcases Nat.eq_or_lt_of_le hj1 with h | h
        · rw [h] at hn; exact absurd hj3 hn
        · exact h
      by_cases hc : (nth K0 s.things i).sum = x
      · refine ⟨a, ?_, by omega, j, hj, hj2, hj3⟩
        show L_spec_l4Drop__plain _ _ = L_spec_l4Drop__plain _ _
        rw [e_spec_l4Drop__plain_7]
        simp (disch := omega) only [push_cast, spec_l4Has_eq _ x (show (nth K0 s.things i).thing.refs.length ≤ 4611686018427387904 by omega), decide_eq_false hn]
      · refine ⟨a ++ [nth K0 s.things i], ?_, by simp; omega, j, hj, hj2, hj3⟩
        show L_spec_l4Drop__plain _ _ = L_spec_l4Drop__plain _ _
        rw [e_spec_l4Drop__plain_7, mostE, ← encK_app]
        simp (disch := omega) only [push_cast, spec_l4Has_eq _ x (show (nth K0 s.things i).thing.refs.length ≤ 4611686018427387904 by omega), decide_eq_false hn] <;> rfl
  · obtain ⟨_, j, h1, h2, _⟩ := hI; omega
theorem dropP_eq (hT : hasT s.things x) : L_spec_l4Drop__plain none [.i s.width, .i s.now, .i s.given, .i s.births, .l (encK s.things), .l (encP s.pins), .l (encL s.leases), .s x] =
    some (if held s x ∨ isRef s.things x then [.i 6, .i 0, .i 0, .i 0, .i 0, .l [], .l [], .s E0, .i 0, .s E0, .s E0, .l []] else [.i 0, .i s.width, .i s.now, .i s.given, .i s.births, .l (encP s.pins), .l (encL s.leases), .s E0, .i 0, .s E0, .s E0, .l (encK (delK x s.things))]) := by
  have h2 := V.nP; have h3 := V.nL
  have hh := spec_l4Held_eq s x (by omega) (by omega)
  unfold encSt at hh
  rw [e_spec_l4Drop__plain_i]
  simp (disch := omega) only [push_cast, findT_eq V, show L_spec_l4Held none [.i s.width, .i s.now, .i s.given, .i s.births, .l (encK s.things), .l (encP s.pins), .l (encL s.leases), .s x] = _ from hh]
  rw [decide_eq_false (show ¬ findT s.things x < 0 from fun h => findT_neg.1 h hT)]
  by_cases c1 : held s x
  · rw [if_pos (Or.inl c1), decide_eq_true c1]; simp (disch := omega) only [push_cast] <;> rfl
  · rw [decide_eq_false c1]
    by_cases c2 : isRef s.things x
    · rw [if_pos (Or.inr c2)]
      have := dropP_ref V c2 0 [] (Nat.zero_le _) ⟨Nat.le_refl _, by
        obtain ⟨k, hk1, hk2⟩ := c2
        obtain ⟨j, hj, rfl⟩ := mem_nth K0 hk1
        exact ⟨j, Nat.zero_le _, hj, hk2⟩⟩
      simp (disch := omega) only [push_cast]
      rw [show L_spec_l4Drop__plain (some 7) [.s x, .i 0, .i s.width, .i s.now, .i s.given, .i s.births, .l (encK s.things), .l (encP s.pins), .l (encL s.leases), .i 0, .i 0, .i 0, .i 0, .i 0, .s E0, .i 0, .s E0, .s E0, .l [], .l [], .l [], .l []] = _ from this]
    · rw [if_neg (by rintro (h | h); exact c1 h; exact c2 h)]
      have := dropP_loop V c2
      simp (disch := omega) only [push_cast]
      rw [show L_spec_l4Drop__plain (some 7) [.s x, .i 0, .i s.width, .i s.now, .i s.given, .i s.births, .l (encK s.things), .l (encP s.pins), .l (encL s.leases), .i 0, .i 0, .i 0, .i 0, .i 0, .s E0, .i 0, .s E0, .s E0, .l [], .l [], .l [], .l []] = _ from this]
end
noncomputable def addU (l : List Bs) (x : Bs) : List Bs := if x ∈ l then l else l ++ [x]
theorem addU_len (l : List Bs) (x : Bs) : (addU l x).length ≤ l.length + 1 := by unfold addU; split <;> simp
theorem foldU_len (l : List Bs) : ∀ a, (l.foldl addU a).length ≤ a.length + l.length := by
  induction l with
  | nil => intro a; simp
  | cons x l ih => intro a; rw [List.foldl_cons, List.length_cons]; have := ih (addU a x); have := addU_len a x; omega
theorem mem_addU {l : List Bs} {x y : Bs} : y ∈ addU l x ↔ y ∈ l ∨ y = x := by
  unfold addU
  split
  · rename_i h; exact ⟨.inl, fun h2 => h2.elim id fun e => by rw [e]; exact h⟩
  · simp
theorem mem_foldU (l : List Bs) : ∀ a y, y ∈ l.foldl addU a ↔ y ∈ a ∨ y ∈ l := by
  induction l with
  | nil => intro a y; simp
  | cons x l ih => intro a y; rw [List.foldl_cons, ih, mem_addU, List.mem_cons, or_assoc]
theorem take_fold (l : List Bs) (a : List Bs) (i : Nat) (h : i < l.length) : ((l.take (i + 1)).foldl addU a) = addU ((l.take i).foldl addU a) (nth .empty l i) := by
  rw [take_nth .empty h, List.foldl_append]; rfl
noncomputable def rootsM (s : State) : List Bs := (s.leases.map (·.sum)).foldl addU ((s.pins.map (·.sum)).foldl addU [])
theorem nthP_sum (P : List Pin) (i : Nat) (h : i < P.length) : nth .empty (P.map (·.sum)) i = (nth P0 P i).sum := by
  rw [nth_get _ _ _ (by rw [List.length_map]; exact h), nth_get _ _ _ h, List.getElem_map]
theorem nthL_sum (P : List Lease) (i : Nat) (h : i < P.length) : nth .empty (P.map (·.sum)) i = (nth L0 P i).sum := by
  rw [nth_get _ _ _ (by rw [List.length_map]; exact h), nth_get _ _ _ h, List.getElem_map]
theorem spec_l5Roots_eq (s : State) (h1 : s.pins.length ≤ 1000000) (h2 : s.leases.length ≤ 1000000) : L_spec_l5Roots none (encSt s) = some [.l (encS (rootsM s))] := by
  unfold encSt
  have l2 : ∀ a : List Bs, a.length ≤ 1000000 → L_spec_l5Roots (some 8) [.i 0, .i s.width, .i s.now, .i s.given, .i s.births, .l (encK s.things), .l (encP s.pins), .l (encL s.leases), .l (encS a)] = some [.l (encS ((s.leases.map (·.sum)).foldl addU a))] := by
    intro a0 ha0
    exact inv_loop (f := fun (i : Nat) (a : List Bs) => L_spec_l5Roots (some 8) [.i (i : Int), .i s.width, .i s.now, .i s.given, .i s.births, .l (encK s.things), .l (encP s.pins), .l (encL s.leases), .l (encS a)]) (n := s.leases.length)
      (I := fun i a => a = ((s.leases.map (·.sum)).take i).foldl addU a0) (fun i a hi hI => ⟨addU a (nth L0 s.leases i).sum, by
        show L_spec_l5Roots _ _ = L_spec_l5Roots _ _
        have hl : a.length ≤ 1000000 + i := by rw [hI]; have := foldU_len ((s.leases.map (·.sum)).take i) a0; rw [List.length_take] at this; omega
        rw [e_spec_l5Roots_8, mostE]
        unfold addU
        by_cases hm : (nth L0 s.leases i).sum ∈ a
        · rw [if_pos hm]; simp (disch := omega) only [push_cast, spec_l4Has_eq a _ (show a.length ≤ 4611686018427387904 by omega), decide_eq_true hm] <;> rfl
        · rw [if_neg hm, ← encS_app]; simp (disch := omega) only [push_cast, spec_l4Has_eq a _ (show a.length ≤ 4611686018427387904 by omega), decide_eq_false hm] <;> rfl, by
        show addU a _ = _
        rw [take_fold _ _ _ (by rw [List.length_map]; exact hi), hI, nthL_sum _ _ hi]⟩) (fun a hI => by
        show L_spec_l5Roots _ _ = _
        rw [e_spec_l5Roots_8]
        simp (disch := omega) only [push_cast]
        rw [hI, List.take_of_length_le (by rw [List.length_map]; exact Nat.le_refl _)]) 0 a0 (Nat.zero_le _) rfl
  rw [e_spec_l5Roots_i]
  have l1 := inv_loop (f := fun (i : Nat) (a : List Bs) => L_spec_l5Roots (some 3) [.i (i : Int), .i s.width, .i s.now, .i s.given, .i s.births, .l (encK s.things), .l (encP s.pins), .l (encL s.leases), .l (encS a)]) (n := s.pins.length) (T := some [.l (encS (rootsM s))])
      (I := fun i a => a = ((s.pins.map (·.sum)).take i).foldl addU []) (fun i a hi hI => ⟨addU a (nth P0 s.pins i).sum, by
        show L_spec_l5Roots _ _ = L_spec_l5Roots _ _
        have hl : a.length ≤ i := by rw [hI]; have := foldU_len ((s.pins.map (·.sum)).take i) []; rw [List.length_take] at this; simp at this; omega
        rw [e_spec_l5Roots_3, mostE]
        unfold addU
        by_cases hm : (nth P0 s.pins i).sum ∈ a
        · rw [if_pos hm]; simp (disch := omega) only [push_cast, spec_l4Has_eq a _ (show a.length ≤ 4611686018427387904 by omega), decide_eq_true hm] <;> rfl
        · rw [if_neg hm, ← encS_app]; simp (disch := omega) only [push_cast, spec_l4Has_eq a _ (show a.length ≤ 4611686018427387904 by omega), decide_eq_false hm] <;> rfl, by
        show addU a _ = _
        rw [take_fold _ _ _ (by rw [List.length_map]; exact hi), hI, nthP_sum _ _ hi]⟩) (fun a hI => by
        show L_spec_l5Roots _ _ = _
        have hl : a.length ≤ s.pins.length := by rw [hI]; have := foldU_len ((s.pins.map (·.sum)).take s.pins.length) []; rw [List.length_take] at this; simp at this; omega
        rw [e_spec_l5Roots_3]
        simp (disch := omega) only [push_cast]
        refine (l2 a (by omega)).trans ?_
        unfold rootsM
        rw [hI, List.take_of_length_le (by rw [List.length_map]; exact Nat.le_refl _)]) 0 [] (Nat.zero_le _) rfl
  exact l1
noncomputable def bestI (T : List Kept) (a : Int) : Nat → Int
  | 0 => -1
  | i + 1 => if (nth K0 T i).born < a ∧ (bestI T a i < 0 ∨ (nth K0 T (bestI T a i).toNat).born < (nth K0 T i).born) then (i : Int) else bestI T a i
theorem bestI_lt (T : List Kept) (a : Int) : ∀ i, -1 ≤ bestI T a i ∧ bestI T a i < i
  | 0 => by simp [bestI]
  | i + 1 => by
    have := bestI_lt T a i
    simp only [bestI]
    split <;> omega
/-- What it finds: the youngest of those below. -/
theorem bestI_is (T : List Kept) (a : Int) : ∀ i, (bestI T a i < 0 → ∀ j, j < i → ¬ (nth K0 T j).born < a) ∧ (0 ≤ bestI T a i → (nth K0 T (bestI T a i).toNat).born < a ∧ ∀ j, j < i → (nth K0 T j).born < a → (nth K0 T j).born ≤ (nth K0 T (bestI T a i).toNat).born)
  | 0 => by
    refine ⟨fun _ j hj => by omega, fun h => ?_⟩
    simp [bestI] at h
  | i + 1 => by
    obtain ⟨h1, h2⟩ := bestI_is T a i
    have h3 := bestI_lt T a i
    simp only [bestI]
    split
    · rename_i hc
      refine ⟨fun h => by omega, fun _ => ?_⟩
      rw [toNat_cast]
      refine ⟨hc.1, fun j hj hb => ?_⟩
      rcases Nat.lt_or_ge j i with hji | hji
      · rcases hc.2 with h4 | h4
        · exact absurd hb (h1 h4 j hji)
        · rcases (by omega : bestI T a i < 0 ∨ 0 ≤ bestI T a i) with h5 | h5
          · exact absurd hb (h1 h5 j hji)
          · have := (h2 h5).2 j hji hb; omega
      · obtain rfl : j = i := by omega
        exact Int.le_refl _
    · rename_i hc
      refine ⟨fun h j hj hb => ?_, fun h => ⟨(h2 h).1, fun j hj hb => ?_⟩⟩
      · rcases Nat.lt_or_ge j i with hji | hji
        · exact h1 h j hji hb
        · obtain rfl : j = i := by omega
          exact hc ⟨hb, .inl h⟩
      · rcases Nat.lt_or_ge j i with hji | hji
        · exact (h2 h).2 j hji hb
        · obtain rfl : j = i := by omega
          rcases (by omega : (nth K0 T (bestI T a j).toNat).born < (nth K0 T j).born ∨ (nth K0 T j).born ≤ (nth K0 T (bestI T a j).toNat).born) with h6 | h6
          · exact absurd ⟨hb, .inr h6⟩ hc
          · omega
noncomputable def bestT (T : List Kept) (a : Int) : Int := bestI T a T.length
theorem spec_l6Next_eq (s : State) (a : Int) (hn : s.things.length ≤ 1000000) : L_spec_l6Next none (encSt s ++ [.i a]) = some [.i (bestT s.things a)] := by
  show L_spec_l6Next none [.i s.width, .i s.now, .i s.given, .i s.births, .l (encK s.things), .l (encP s.pins), .l (encL s.leases), .i a] = _
  rw [e_spec_l6Next_i]
  have := inv_loop (f := fun (i : Nat) (b : Int) => L_spec_l6Next (some 3) [.i a, .i b, .i (i : Int), .i s.width, .i s.now, .i s.given, .i s.births, .l (encK s.things), .l (encP s.pins), .l (encL s.leases)]) (n := s.things.length) (T := some [.i (bestT s.things a)])
    (I := fun i b => b = bestI s.things a i) (fun i b hi hI => ⟨bestI s.things a (i + 1), by
      show L_spec_l6Next _ _ = L_spec_l6Next _ _
      have hb := bestI_lt s.things a i
      rw [e_spec_l6Next_3]
      simp only [bestI]
      rw [← hI] at hb ⊢
      by_cases c1 : (nth K0 s.things i).born < a
      rotate_left; · rw [if_neg fun h => c1 h.1]; simp (disch := omega) only [push_cast]
      by_cases c2 : b < 0
      · rw [if_pos ⟨c1, .inl c2⟩]; simp (disch := omega) only [push_cast]
      by_cases c3 : (nth K0 s.things b.toNat).born < (nth K0 s.things i).born
      · rw [if_pos ⟨c1, .inr c3⟩]; simp (disch := omega) only [push_cast]
      · rw [if_neg fun h => h.2.elim c2 c3]; simp (disch := omega) only [push_cast], rfl⟩) (fun b hI => by
      show L_spec_l6Next _ _ = _
      rw [e_spec_l6Next_3]
      simp (disch := omega) only [push_cast]
      rw [hI]; rfl) 0 (-1) (Nat.zero_le _) rfl
  exact this
noncomputable def unitM (s : State) (r : Round) : Round × Bs :=
  if r.phase = 0 then (⟨1, rootsM s, r.marked, s.births, s.births + 1, r.rounds⟩, E0)
  else match r.queue with
  | x :: q => if hasT s.things x ∧ x ∉ r.marked then (⟨r.phase, q ++ (nth K0 s.things (lb (qK x) s.things)).thing.refs.filter fun y => !decide (y ∈ r.marked ++ [x]), r.marked ++ [x], r.top, r.at_, r.rounds⟩, E0) else (⟨r.phase, q, r.marked, r.top, r.at_, r.rounds⟩, E0)
  | [] => if bestT s.things r.at_ < 0 then (⟨0, [], [], 0, 0, r.rounds + 1⟩, E0)
    else (⟨2, [], r.marked, r.top, (nth K0 s.things (bestT s.things r.at_).toNat).born, r.rounds⟩, if (nth K0 s.things (bestT s.things r.at_).toNat).sum ∈ r.marked ∨ held s (nth K0 s.things (bestT s.things r.at_).toNat).sum ∨ isRef s.things (nth K0 s.things (bestT s.things r.at_).toNat).sum then E0 else (nth K0 s.things (bestT s.things r.at_).toNat).sum)
noncomputable def stepSt (s : State) (x : Bs) : State := if x = E0 then s else { s with things := delK x s.things }
def oneD (x : Bs) : List Bs := if x = E0 then [] else [x]
def encUn (s : State) (r : Round) (d : Bs) : Lv := [.i 0, .i s.width, .i s.now, .i s.given, .i s.births, .l (encK s.things), .l (encP s.pins), .l (encL s.leases), .i r.phase, .l (encS r.queue), .l (encS r.marked), .i r.top, .i r.at_, .i r.rounds, .l (encS (oneD d))]
theorem VS.sumNe {s : State} (V : VS s) {k : Kept} (hk : k ∈ s.things) : k.sum ≠ E0 := by
  have := V.wd
  intro h
  have h2 := (V.okT k hk).2.1
  have h3 := sumM_width (s := formM k.thing) V.wd
  rw [← h2, h] at h3
  have : (E0 : Bs).size = 0 := rfl
  omega
theorem filt_step (l m : List Bs) (i : Nat) (hi : i < l.length) : (l.take (i + 1)).filter (fun y => !decide (y ∈ m)) = (l.take i).filter (fun y => !decide (y ∈ m)) ++ (if nth .empty l i ∈ m then [] else [nth .empty l i]) := by
  rw [take_nth .empty hi, List.filter_append]
  congr 1
  split
  · rename_i h; simp [h]
  · rename_i h; simp [h]
theorem spec_l6Unit_eq {s : State} (V : VS s) {r : Round} (h : RoundOk s.width s.births r) (hr : r.rounds < 1000000000) : L_spec_l6Unit none (encSt s ++ encR r) = some (encUn (stepSt s (unitM s r).2) (unitM s r).1 (unitM s r).2) := by
  show L_spec_l6Unit none [.i s.width, .i s.now, .i s.given, .i s.births, .l (encK s.things), .l (encP s.pins), .l (encL s.leases), .i r.phase, .l (encS r.queue), .l (encS r.marked), .i r.top, .i r.at_, .i r.rounds] = _
  have n1 := V.nT; have n2 := V.nP; have n3 := V.nL; have hb := V.births; have hq := h.nQ; have hm := h.nM; have hrd := h.rds
  have hro := spec_l5Roots_eq s (by omega) (by omega)
  have hnx := spec_l6Next_eq s r.at_ (by omega)
  unfold encSt at hro
  have hnx' : L_spec_l6Next none [.i s.width, .i s.now, .i s.given, .i s.births, .l (encK s.things), .l (encP s.pins), .l (encL s.leases), .i r.at_] = _ := hnx
  rw [e_spec_l6Unit_i, mostE]
  have st0 : stepSt s E0 = s := if_pos rfl
  by_cases h0 : r.phase = 0
  · have : unitM s r = (⟨1, rootsM s, r.marked, s.births, s.births + 1, r.rounds⟩, E0) := by unfold unitM; rw [if_pos h0]
    rw [this, st0]
    simp (disch := omega) only [push_cast, hro]; rfl
  cases hqq : r.queue with
  | cons x q =>
    rw [hqq] at hq
    simp only [List.length_cons] at hq
    have hsub : Eng.sub (encS (x :: q)) 1 (q.length + 1) = encS q := by rw [encS_sub]; simp
    have hx0 : (rd (encS (x :: q)) 0 0).str = x := rfl
    have hf := findT_neg (T := s.things) (x := x)
    by_cases c1 : hasT s.things x
    rotate_left
    · have : unitM s r = (⟨r.phase, q, r.marked, r.top, r.at_, r.rounds⟩, E0) := by unfold unitM; rw [if_neg h0, hqq]; simp only; rw [if_neg fun h => c1 h.1]
      rw [this, st0]
      have hneg := hf.2 c1
      simp (disch := omega) only [push_cast, hsub, hx0, spec_l4Find_eq _ _ _ _ s.things _ _ x V.srtT (by omega), List.nil_append]; rfl
    have c1' : ¬ findT s.things x < 0 := fun h => hf.1 h c1
    by_cases c2 : x ∈ r.marked
    · have : unitM s r = (⟨r.phase, q, r.marked, r.top, r.at_, r.rounds⟩, E0) := by unfold unitM; rw [if_neg h0, hqq]; simp only; rw [if_neg fun h => h.2 c2]
      rw [this, st0]
      simp (disch := omega) only [push_cast, hsub, hx0, spec_l4Find_eq _ _ _ _ s.things _ _ x V.srtT (by omega), List.nil_append, spec_l4Has_eq r.marked x (by omega), decide_eq_true c2]; rfl
    have : unitM s r = (⟨r.phase, q ++ (nth K0 s.things (lb (qK x) s.things)).thing.refs.filter fun y => !decide (y ∈ r.marked ++ [x]), r.marked ++ [x], r.top, r.at_, r.rounds⟩, E0) := by unfold unitM; rw [if_neg h0, hqq]; simp only; rw [if_pos ⟨c1, c2⟩]
    rw [this, st0]
    have hfi : findT s.things x = (lb (qK x) s.things : Int) := if_pos c1
    have hlt := ((hasT_iff V.srtT x).1 c1).1
    have hrl := (V.okT _ (nth_mem (d := K0) hlt)).1.refs
    have hml : (r.marked ++ [x]).length ≤ 4611686018427387904 := by rw [List.length_append]; simp; omega
    have lp := inv_loop (f := fun (i : Nat) (a : List Bs) => L_spec_l6Unit (some 15) [.l (encS (nth K0 s.things (lb (qK x) s.things)).thing.refs), .i (i : Int), .i s.width, .i s.now, .i s.given, .i s.births, .l (encK s.things), .l (encP s.pins), .l (encL s.leases), .i r.phase, .l (encS (x :: q)), .i r.top, .i r.at_, .i r.rounds, .i 0, .i 0, .i 0, .i 0, .i 0, .i 0, .i 0, .i 0, .i 0, .l (encS a), .l (encS (r.marked ++ [x])), .l [], .l [], .l [], .l [], .l [], .l []])
      (n := (nth K0 s.things (lb (qK x) s.things)).thing.refs.length) (T := some (encUn s ⟨r.phase, q ++ (nth K0 s.things (lb (qK x) s.things)).thing.refs.filter fun y => !decide (y ∈ r.marked ++ [x]), r.marked ++ [x], r.top, r.at_, r.rounds⟩ E0))
      (I := fun i a => a = q ++ ((nth K0 s.things (lb (qK x) s.things)).thing.refs.take i).filter fun y => !decide (y ∈ r.marked ++ [x])) (fun i a hi hI => ⟨a ++ (if nth .empty (nth K0 s.things (lb (qK x) s.things)).thing.refs i ∈ r.marked ++ [x] then [] else [nth .empty (nth K0 s.things (lb (qK x) s.things)).thing.refs i]), by
        show L_spec_l6Unit _ _ = L_spec_l6Unit _ _
        have ha : a.length ≤ 24000 := by
          rw [hI, List.length_append]
          have := List.length_filter_le (fun y => !decide (y ∈ r.marked ++ [x])) ((nth K0 s.things (lb (qK x) s.things)).thing.refs.take i)
          rw [List.length_take] at this; omega
        rw [e_spec_l6Unit_15, mostE]
        by_cases hc : nth .empty (nth K0 s.things (lb (qK x) s.things)).thing.refs i ∈ r.marked ++ [x]
        · rw [if_pos hc, List.append_nil]; simp (disch := omega) only [push_cast, spec_l4Has_eq _ (nth .empty (nth K0 s.things (lb (qK x) s.things)).thing.refs i) hml, decide_eq_true hc]
        · rw [if_neg hc, ← encS_app a]; simp (disch := omega) only [push_cast, spec_l4Has_eq _ (nth .empty (nth K0 s.things (lb (qK x) s.things)).thing.refs i) hml, decide_eq_false hc] <;> rfl, by
        show a ++ _ = _
        rw [filt_step _ _ _ hi, hI, List.append_assoc]⟩) (fun a hI => by
        show L_spec_l6Unit _ _ = _
        rw [e_spec_l6Unit_15]
        simp (disch := omega) only [push_cast]
        rw [hI, List.take_length]; rfl) 0 q (Nat.zero_le _) (by simp)
    simp (disch := omega) only [push_cast, hsub, hx0, spec_l4Find_eq _ _ _ _ s.things _ _ x V.srtT (by omega), List.nil_append, spec_l4Has_eq r.marked x (by omega), decide_eq_false c2, hfi]
    rw [encS_one, encS_app]
    exact lp
  | nil =>
    have hbl := bestI_lt s.things r.at_ s.things.length
    have hbt : bestI s.things r.at_ s.things.length = bestT s.things r.at_ := rfl
    rw [hbt] at hbl
    by_cases c1 : bestT s.things r.at_ < 0
    · have : unitM s r = (⟨0, [], [], 0, 0, r.rounds + 1⟩, E0) := by unfold unitM; rw [if_neg h0, hqq]; simp only; rw [if_pos c1]
      rw [this, st0]
      simp (disch := omega) only [push_cast, hnx']; rfl
    obtain ⟨n, hn⟩ : ∃ n : Nat, bestT s.things r.at_ = n := ⟨(bestT s.things r.at_).toNat, by omega⟩
    have hnl : n < s.things.length := by omega
    have hmem := nth_mem (d := K0) hnl
    have hne := V.sumNe hmem
    have hT : hasT s.things (nth K0 s.things n).sum := ⟨_, hmem, rfl⟩
    have hu : unitM s r = (⟨2, [], r.marked, r.top, (nth K0 s.things n).born, r.rounds⟩, if (nth K0 s.things n).sum ∈ r.marked ∨ held s (nth K0 s.things n).sum ∨ isRef s.things (nth K0 s.things n).sum then E0 else (nth K0 s.things n).sum) := by
      unfold unitM; rw [if_neg h0, hqq]; simp only; rw [if_neg c1, hn, toNat_cast]
    rw [hu]
    simp only
    by_cases c2 : (nth K0 s.things n).sum ∈ r.marked
    · rw [if_pos (Or.inl c2), st0]
      simp (disch := omega) only [push_cast, hnx', hn, spec_l4Has_eq r.marked (nth K0 s.things n).sum (by omega), decide_eq_true c2]; rfl
    by_cases c3 : held s (nth K0 s.things n).sum ∨ isRef s.things (nth K0 s.things n).sum
    · rw [if_pos (Or.inr c3), st0]
      have := dropP_eq V hT
      rw [if_pos c3] at this
      simp (disch := omega) only [push_cast, hnx', hn, spec_l4Has_eq r.marked (nth K0 s.things n).sum (by omega), decide_eq_false c2, this]; rfl
    · have hno : ¬ ((nth K0 s.things n).sum ∈ r.marked ∨ held s (nth K0 s.things n).sum ∨ isRef s.things (nth K0 s.things n).sum) := fun h => h.elim c2 c3
      rw [if_neg hno]
      have := dropP_eq V hT
      rw [if_neg c3] at this
      simp (disch := omega) only [push_cast, hnx', hn, spec_l4Has_eq r.marked (nth K0 s.things n).sum (by omega), decide_eq_false c2, this]
      unfold stepSt encUn oneD; rw [if_neg hne, if_neg hne]; rfl
end KV
end
section
namespace KV
open Go Go.Eng
set_option linter.unusedVariables false
set_option linter.unusedSimpArgs false
set_option linter.unusedSectionVars false
open Classical
def eDrop (x : Bs) : Entry := ⟨7, x, E0, 0, ⟨E0, []⟩⟩
/-- What a unit drops: a thing that is neither marked, held nor a Ref. -/
theorem unit_drop {s : State} {r : Round} (V : VS s) (h : (unitM s r).2 ≠ E0) : hasT s.things (unitM s r).2 ∧ ¬ held s (unitM s r).2 ∧ ¬ isRef s.things (unitM s r).2 ∧ (unitM s r).2 ∉ r.marked ∧ r.phase ≠ 0 ∧ r.queue = [] := by
  unfold unitM at h ⊢
  split at h
  · exact absurd rfl h
  · rename_i h0
    rw [if_neg h0]
    split at h
    · split at h <;> exact absurd rfl h
    · rename_i hq
      split at h
      · exact absurd rfl h
      · rename_i hb
        rw [if_neg hb]
        simp only at h ⊢
        have hbl := bestI_lt s.things r.at_ s.things.length
        have hbt : bestI s.things r.at_ s.things.length = bestT s.things r.at_ := rfl
        rw [hbt] at hbl
        split at h
        · exact absurd rfl h
        · rename_i hc
          rw [if_neg hc]
          have hm := nth_mem (d := K0) (show (bestT s.things r.at_).toNat < s.things.length by omega)
          exact ⟨⟨_, hm, rfl⟩, fun h => hc (.inr (.inl h)), fun h => hc (.inr (.inr h)), fun h => hc (.inl h), h0, hq⟩
theorem drop_entry {s : State} {x : Bs} (V : VS s) (h1 : hasT s.things x) (h2 : ¬ held s x) (h3 : ¬ isRef s.things x) : x ≠ E0 ∧ entryB (eDrop x) s.width = true ∧ (chg s (eDrop x)).code = 0 ∧ (chg s (eDrop x)).st = stepSt s x := by
  obtain ⟨k, hk, rfl⟩ := h1
  have hne := V.sumNe hk
  have hsz : (k.sum.size : Int) = s.width := by rw [(V.okT k hk).2.1]; exact sumM_width V.wd
  have hw : widthB s.width = true := widthB_iff.2 V.wd
  refine ⟨hne, ?_, ?_, ?_⟩
  · have a1 : sumB 7 k.sum s.width = true := by
      unfold sumB; rw [if_pos (show uS 7 = true from rfl)]; exact decide_eq_true hsz
    have a2 : namB 7 E0 = true := by
      unfold namB; rw [if_neg (by decide)]; exact decide_eq_true rfl
    have a3 : thgB 7 ⟨E0, []⟩ s.width = true := by
      unfold thgB; rw [if_neg (by decide)]; rw [decide_eq_true (p := (E0 : Bs) = E0) rfl]; rfl
    show entryB ⟨7, k.sum, E0, 0, ⟨E0, []⟩⟩ s.width = true
    unfold entryB
    simp only
    rw [hw, a1, a2, a3]; rfl
  all_goals
    unfold chg
    rw [if_neg (show ¬ (eDrop k.sum).kind = 1 from (by show ¬ (7 : Int) = 1; omega)), if_neg (show ¬ (eDrop k.sum).kind = 2 from (by show ¬ (7 : Int) = 2; omega)), if_neg (show ¬ (eDrop k.sum).kind = 3 from (by show ¬ (7 : Int) = 3; omega)), if_neg (show ¬ (eDrop k.sum).kind = 4 from (by show ¬ (7 : Int) = 4; omega)), if_neg (show ¬ (eDrop k.sum).kind = 5 from (by show ¬ (7 : Int) = 5; omega)), if_neg (show ¬ (eDrop k.sum).kind = 6 from (by show ¬ (7 : Int) = 6; omega)), if_pos (show hasT s.things (eDrop k.sum).sum from ⟨k, hk, rfl⟩), if_neg (show ¬ (held s (eDrop k.sum).sum ∨ isRef s.things (eDrop k.sum).sum) from fun h => h.elim h2 h3)]
  · rfl
  · unfold stepSt; rw [if_neg hne]; rfl
theorem stepSt_keeps (s : State) (x : Bs) : (stepSt s x).width = s.width ∧ (stepSt s x).births = s.births ∧ (stepSt s x).now = s.now ∧ (stepSt s x).given = s.given ∧ (stepSt s x).pins = s.pins ∧ (stepSt s x).leases = s.leases := by
  unfold stepSt; split <;> exact ⟨rfl, rfl, rfl, rfl, rfl, rfl⟩
theorem roots_has {s : State} (V : VS s) {x : Bs} (h : x ∈ rootsM s) : hasT s.things x := by
  unfold rootsM at h
  rw [mem_foldU, mem_foldU] at h
  rcases h with (h | h) | h
  · cases h
  · obtain ⟨p, hp, rfl⟩ := List.mem_map.1 h; exact (V.okP p hp).2
  · obtain ⟨p, hp, rfl⟩ := List.mem_map.1 h; exact (V.okL p hp).2.2.1
theorem roots_len (s : State) : (rootsM s).length ≤ s.pins.length + s.leases.length := by
  unfold rootsM
  have h1 := foldU_len (s.leases.map (·.sum)) ((s.pins.map (·.sum)).foldl addU [])
  have h2 := foldU_len (s.pins.map (·.sum)) []
  rw [List.length_map] at h1 h2
  simp at h2
  omega
theorem VS.szT {s : State} (V : VS s) {x : Bs} (h : hasT s.things x) : (x.size : Int) = s.width := by
  obtain ⟨k, hk, rfl⟩ := h; rw [(V.okT k hk).2.1]; exact sumM_width V.wd
/-- How long queue and marks may become in a unit. -/
theorem unit_len {s : State} {r : Round} (V : VS s) (h : RoundOk s.width s.births r) : (unitM s r).1.queue.length ≤ 23230 ∧ (unitM s r).1.marked.length ≤ 601 := by
  have hq := h.nQ; have hm := h.nM; have n2 := V.nP; have n3 := V.nL; have hr := roots_len s
  unfold unitM
  split
  · simp only; omega
  · split
    · rename_i x q hqq
      rw [hqq] at hq
      simp only [List.length_cons] at hq
      split
      · rename_i hc
        have hlt := ((hasT_iff V.srtT x).1 hc.1).1
        have hrl := (V.okT _ (nth_mem (d := K0) hlt)).1.refs
        have := List.length_filter_le (fun y => !decide (y ∈ r.marked ++ [x])) (nth K0 s.things (lb (qK x) s.things)).thing.refs
        simp only [List.length_append, List.length_cons, List.length_nil]
        omega
      · simp only; omega
    · split
      · simp
      · simp only [List.length_nil]; omega
theorem unit_ok {s : State} {r : Round} (V : VS s) (h : RoundOk s.width s.births r) (hr : r.rounds < 1000000000) (hq : (unitM s r).1.queue.length ≤ 23200) (hm : (unitM s r).1.marked.length ≤ 600) : RoundOk s.width s.births (unitM s r).1 := by
  have hb := V.births; have hrd := h.rds
  unfold unitM at hq hm ⊢
  split at hq
  · rename_i h0
    rw [if_pos h0] at hm ⊢
    simp only at hq hm ⊢
    refine ⟨⟨by show (0 : Int) ≤ 1; omega, by show (1 : Int) ≤ 2; omega⟩, h.rds, hq, hm, h.szM, h.ndM, fun x hx => V.szT (roots_has V hx), fun h1 => absurd h1 (by show ¬ (1 : Int) = 0; omega), fun _ => ⟨hb.1, Int.le_refl _, by show (1 : Int) ≤ s.births + 1; omega, Int.le_refl _, fun _ => rfl⟩⟩
  · rename_i h0
    rw [if_neg h0] at hm ⊢
    have hgo := h.go h0
    split at hq
    · rename_i x q hqq
      simp only [hqq] at hm ⊢
      have hszx : (x.size : Int) = s.width := h.szQ x (by rw [hqq]; simp)
      have hszq : ∀ y ∈ q, (y.size : Int) = s.width := fun y hy => h.szQ y (by rw [hqq]; simp [hy])
      split at hq
      · rename_i hc
        rw [if_pos hc] at hm ⊢
        simp only at hq hm ⊢
        have hlt := ((hasT_iff V.srtT x).1 hc.1).1
        have hrs := (V.okT _ (nth_mem (d := K0) hlt)).1.size
        refine ⟨h.ph, h.rds, hq, hm, fun y hy => ?_, ?_, fun y hy => ?_, fun h1 => absurd h1 h0, fun _ => hgo⟩
        · rcases List.mem_append.1 hy with h1 | h1
          · exact h.szM y h1
          · rw [List.mem_singleton] at h1; rw [h1]; exact hszx
        · rw [List.nodup_append]
          refine ⟨h.ndM, by simp, fun a ha b hb => ?_⟩
          rw [List.mem_singleton] at hb
          rintro rfl
          rw [hb] at ha; exact hc.2 ha
        · rcases List.mem_append.1 hy with h1 | h1
          · exact hszq y h1
          · exact hrs y (List.mem_filter.1 h1).1
      · rename_i hc
        rw [if_neg hc] at hm ⊢
        simp only at hq hm ⊢
        exact ⟨h.ph, h.rds, hq, hm, h.szM, h.ndM, hszq, fun h1 => absurd h1 h0, fun _ => hgo⟩
    · rename_i hqq
      simp only [hqq] at hm ⊢
      split at hq
      · rename_i hc
        rw [if_pos hc]
        exact ⟨⟨Int.le_refl _, by show (0 : Int) ≤ 2; omega⟩, ⟨by show 0 ≤ r.rounds + 1; omega, by show r.rounds + 1 ≤ 1000000000; omega⟩, Nat.zero_le _, Nat.zero_le _, (fun x hx => nomatch hx), List.nodup_nil, (fun x hx => nomatch hx), fun _ => ⟨rfl, rfl, rfl, rfl⟩, fun h => absurd rfl h⟩
      · rename_i hc
        rw [if_neg hc] at hm ⊢
        simp only at hq hm ⊢
        have hbl := bestI_lt s.things r.at_ s.things.length
        have hbi := (bestI_is s.things r.at_ s.things.length).2
        have hbt : bestI s.things r.at_ s.things.length = bestT s.things r.at_ := rfl
        rw [hbt] at hbl hbi
        have hmm := nth_mem (d := K0) (show (bestT s.things r.at_).toNat < s.things.length by omega)
        have hk := (V.okT _ hmm).2.2
        have hlt := (hbi (by omega)).1
        refine ⟨⟨by show (0 : Int) ≤ 2; omega, Int.le_refl _⟩, h.rds, hq, hm, h.szM, h.ndM, (fun x hx => nomatch hx), fun h1 => absurd h1 (by show ¬ (2 : Int) = 0; omega), fun _ => ⟨hgo.1, hgo.2.1, hk.1, ?_, fun h1 => absurd h1 (by show ¬ (2 : Int) = 1; omega)⟩⟩
        show (nth K0 s.things (bestT s.things r.at_).toNat).born ≤ r.top + 1
        omega
noncomputable def stepV (v : Vault) : Vault := { v with st := stepSt v.st (unitM v.st v.rd).2, rd := (unitM v.st v.rd).1, loose := if (unitM v.st v.rd).2 = E0 then v.loose else v.loose ++ [formE (eDrop (unitM v.st v.rd).2)] }
/-- Valid but for the lengths of the round's lists. -/
structure VQ (v : Vault) : Prop where
  wd : widthB v.width = true
  lim : 0 ≤ v.limit ∧ v.limit ≤ 1000000
  log : LogOk v.safe v.loose
  run : runL v.width (empty v.width) (v.safe ++ v.loose) 0 = .inl v.st
  nq : v.rd.queue.length ≤ 23230
  nm : v.rd.marked.length ≤ 601
  rd : v.rd.queue.length ≤ 23200 → v.rd.marked.length ≤ 600 → RoundOk v.st.width v.st.births v.rd
theorem VQ.vs {v : Vault} (h : VQ v) : VS v.st ∧ v.st.width = v.width := runL_VS _ _ _ _ (empty_VS (widthB_iff.1 h.wd)) rfl h.run
theorem VQ.vv {v : Vault} (h : VQ v) (hr : RoundOk v.st.width v.st.births v.rd) : VV v := ⟨h.wd, h.lim, h.log, h.run, hr⟩
theorem VQ.small {v : Vault} (h : VQ v) : SmallV v := by
  have hn := h.log.n; have hq := h.nq; have hm := h.nm; have hT := h.vs.1.nT
  refine ⟨⟨by omega, fun x hx => by have := h.log.sa x hx; omega⟩, ⟨by omega, fun x hx => by have := h.log.sb x hx; omega⟩, by omega, h.vs.1.small, by omega, by omega, by omega⟩
theorem step_VQ {v : Vault} (V : VV v) (hr : v.rd.rounds < 1000000000) (hl : (unitM v.st v.rd).2 = E0 ∨ v.safe.length + v.loose.length < 4000) : VQ (stepV v) := by
  have Vs := V.vs
  have hlen := unit_len Vs.1 V.rd
  have hk := stepSt_keeps v.st (unitM v.st v.rd).2
  have hlog : LogOk v.safe (stepV v).loose ∧ runL v.width (empty v.width) (v.safe ++ (stepV v).loose) 0 = .inl (stepV v).st := by
    unfold stepV
    simp only
    by_cases h : (unitM v.st v.rd).2 = E0
    · rw [if_pos h]; unfold stepSt; rw [if_pos h]; exact ⟨V.log, V.run⟩
    · rw [if_neg h]
      obtain ⟨a, b, c, _⟩ := unit_drop Vs.1 h
      obtain ⟨d, e, f, g⟩ := drop_entry Vs.1 a b c
      rw [Vs.2] at e
      have hz := formE_size e
      have hl := hl.resolve_left h
      refine ⟨⟨V.log.sa, fun x hx => ?_, ?_⟩, ?_⟩
      · rcases List.mem_append.1 hx with h1 | h1
        · exact V.log.sb x h1
        · rw [List.mem_singleton] at h1; rw [h1]; omega
      · rw [List.length_append]; simp; omega
      · rw [← List.append_assoc, runL_app, V.run]
        simp only [runL, form_readE e]
        rw [if_pos f, g]
  exact ⟨V.wd, V.lim, hlog.1, hlog.2, hlen.1, hlen.2, fun h1 h2 => by
    show RoundOk (stepSt v.st (unitM v.st v.rd).2).width (stepSt v.st (unitM v.st v.rd).2).births (unitM v.st v.rd).1
    rw [hk.1, hk.2.1]
    exact unit_ok Vs.1 V.rd hr h1 h2⟩
abbrev Swp := Option (Vault × List Bs × Nat)
noncomputable def clrS : Nat → Vault → List Bs → Nat → Swp
  | 0, v, d, u => some (v, d, u)
  | n + 1, v, d, u => if 1000000000 ≤ v.rd.rounds ∨ 23200 < (unitM v.st v.rd).1.queue.length ∨ 600 < (unitM v.st v.rd).1.marked.length then none
    else if (unitM v.st v.rd).2 ≠ E0 ∧ 4000 ≤ v.safe.length + v.loose.length then some (v, d, u) else clrS n (stepV v) (d ++ oneD (unitM v.st v.rd).2) (u + 1)
def encSwS : Swp → Lv
  | some (v, d, u) => .i 0 :: (vI v ++ (.i (u : Int) :: (vL v ++ [.l (encS d)])))
  | none => .i 1 :: (vI V0 ++ (.i 0 :: (vL V0 ++ [.l []])))
theorem spec_clear_loop (a1 a5 a6 a7 a8 a12 a15 a16 a17 : Int) (a3 a4 a9 a10 a11 a13 a14 : Rw) (w2 : Int) : ∀ (n : Nat) (v : Vault) (d : List Bs) (u : Nat), VV v → u + n ≤ 10000 → d.length ≤ u → 
    L_spec_Clear (some 4) [.i ((u + n : Nat) : Int), .i v.width, .i w2, .l a3, .l a4, .i a5, .i a6, .i a7, .i a8, .l a9, .l a10, .l a11, .i a12, .l a13, .l a14, .i a15, .i a16, .i a17, .i 0, .i 0, .i 0, .i 0, .i 0, .i 0, .i 0, .i 0, .i 0, .i 0, .i 0, .i 0, .i 0, .i v.width, .i v.limit, .i v.st.width, .i v.st.now, .i v.st.given, .i v.st.births, .l (encK v.st.things), .l (encP v.st.pins), .l (encL v.st.leases), .i v.rd.phase, .l (encS v.rd.queue), .l (encS v.rd.marked), .i v.rd.top, .i v.rd.at_, .i v.rd.rounds, .i (u : Int), .l [], .l [], .l [], .l [], .l [], .l [], .l [], .l [], .l (encS v.safe), .l (encS v.loose), .l (encS d)] = some (encSwS (clrS n v d u)) := by
  intro n
  induction n with
  | zero =>
    intro v d u V hu hd
    have hcp := spec_l7Copy_eq V
    unfold encV at hcp
    rw [e_spec_Clear_4]
    simp (disch := omega) only [push_cast, hcp]
    rfl
  | succ n ih =>
    intro v d u V hu hd
    have Vs := V.vs
    have hrd := V.rd.rds
    have hlog := V.log.n
    rw [e_spec_Clear_4, mostE]
    simp only [clrS]
    by_cases h9 : 1000000000 ≤ v.rd.rounds
    · rw [if_pos (Or.inl h9)]; simp (disch := omega) only [push_cast]; rfl
    have hun := spec_l6Unit_eq Vs.1 V.rd (by omega)
    have hun' : L_spec_l6Unit none [.i v.st.width, .i v.st.now, .i v.st.given, .i v.st.births, .l (encK v.st.things), .l (encP v.st.pins), .l (encL v.st.leases), .i v.rd.phase, .l (encS v.rd.queue), .l (encS v.rd.marked), .i v.rd.top, .i v.rd.at_, .i v.rd.rounds] = _ := hun
    unfold encUn at hun'
    by_cases hq : 23200 < (unitM v.st v.rd).1.queue.length
    · rw [if_pos (Or.inr (Or.inl hq))]; simp (disch := omega) only [push_cast, hun']; rfl
    by_cases hm : 600 < (unitM v.st v.rd).1.marked.length
    · rw [if_pos (Or.inr (Or.inr hm))]; simp (disch := omega) only [push_cast, hun']; rfl
    rw [if_neg (fun h => h.elim h9 fun h => h.elim hq hm)]
    have hk := stepSt_keeps v.st (unitM v.st v.rd).2
    by_cases hd0 : (unitM v.st v.rd).2 = E0
    · rw [if_neg fun h => h.1 hd0]
      have hs := step_VQ V (by omega) (.inl hd0)
      have := ih (stepV v) (d ++ oneD (unitM v.st v.rd).2) (u + 1) (hs.vv (hs.rd (by show (unitM v.st v.rd).1.queue.length ≤ 23200; omega) (by show (unitM v.st v.rd).1.marked.length ≤ 600; omega))) (by omega) (by rw [List.length_append]; unfold oneD; split <;> simp <;> omega)
      rw [show u + 1 + n = u + (n + 1) by omega] at this
      have e1 : oneD (unitM v.st v.rd).2 = [] := if_pos hd0
      have e2 : stepV v = { v with rd := (unitM v.st v.rd).1 } := by unfold stepV stepSt; rw [if_pos hd0, if_pos hd0]
      rw [e1, List.append_nil, e2] at this
      rw [e1, List.append_nil, e2]
      have e3 : stepSt v.st (unitM v.st v.rd).2 = v.st := if_pos hd0
      rw [e3, e1] at hun'
      simp (disch := omega) only [push_cast, hun', show encS [] = [] from rfl]
      exact this
    obtain ⟨a, b, c, _⟩ := unit_drop Vs.1 hd0
    obtain ⟨e1, e2, e3, e4⟩ := drop_entry Vs.1 a b c
    have e2' := e2
    rw [Vs.2] at e2'
    have hfe := spec_FormEntry_eq (eDrop (unitM v.st v.rd).2) v.width (by show (0 : Nat) ≤ 4611686018427387904; omega)
    rw [if_pos e2'] at hfe
    have hfe' : L_spec_FormEntry none [.i 7, .s (unitM v.st v.rd).2, .s E0, .i 0, .s E0, .l [], .i v.width] = _ := hfe
    have e5 : oneD (unitM v.st v.rd).2 = [(unitM v.st v.rd).2] := if_neg hd0
    rw [e5] at hun'
    have hx0 : (rd (encS [(unitM v.st v.rd).2]) 0 0).str = (unitM v.st v.rd).2 := rfl
    have hcp := spec_l7Copy_eq V
    unfold encV at hcp
    by_cases hf : 4000 ≤ v.safe.length + v.loose.length
    · rw [if_pos ⟨hd0, hf⟩]
      simp (disch := omega) only [push_cast, hun', hcp]
      rfl
    rw [if_neg fun h => hf h.2]
    have hs := step_VQ V (by omega) (.inr (by omega))
    have := ih (stepV v) (d ++ oneD (unitM v.st v.rd).2) (u + 1) (hs.vv (hs.rd (by show (unitM v.st v.rd).1.queue.length ≤ 23200; omega) (by show (unitM v.st v.rd).1.marked.length ≤ 600; omega))) (by omega) (by rw [List.length_append]; unfold oneD; split <;> simp <;> omega)
    rw [show u + 1 + n = u + (n + 1) by omega] at this
    have e6 : (stepV v).loose = v.loose ++ [formE (eDrop (unitM v.st v.rd).2)] := if_neg hd0
    rw [e5, e6] at this
    rw [e5]
    simp (disch := omega) only [push_cast, hun', hx0, hfe']
    rw [encS_one, encS_app, encS_one, encS_app]
    exact this
theorem spec_Clear_eq {v : Vault} (h : SmallV v) (n : Int) : L_spec_Clear none (encV v ++ [.i n]) = some (encSwS (if VV v ∧ 0 ≤ n ∧ n ≤ 10000 then clrS n.toNat v [] 0 else none)) := by
  show L_spec_Clear none [.i v.width, .i v.limit, .l (encS v.safe), .l (encS v.loose), .i v.st.width, .i v.st.now, .i v.st.given, .i v.st.births, .l (encK v.st.things), .l (encP v.st.pins), .l (encL v.st.leases), .i v.rd.phase, .l (encS v.rd.queue), .l (encS v.rd.marked), .i v.rd.top, .i v.rd.at_, .i v.rd.rounds, .i n] = _
  have hvv := spec_ValidVault_eq h
  unfold encV at hvv
  rw [e_spec_Clear_i, hvv]
  by_cases V : VV v
  rotate_left; · rw [if_neg fun h => V h.1, decide_eq_false V]; simp (disch := omega) only [push_cast]; rfl
  rw [decide_eq_true V]
  by_cases h0 : 0 ≤ n ∧ n ≤ 10000
  rotate_left; · rw [if_neg fun h => h0 h.2]; simp (disch := omega) only [push_cast, spec_l4Range_eq]; rfl
  rw [if_pos ⟨V, h0.1, h0.2⟩]
  obtain ⟨m, rfl⟩ : ∃ m : Nat, n = m := ⟨n.toNat, by omega⟩
  have hcp := spec_l7Copy_eq V
  unfold encV at hcp
  have := spec_clear_loop v.limit v.st.width v.st.now v.st.given v.st.births v.rd.phase v.rd.top v.rd.at_ v.rd.rounds (encS v.safe) (encS v.loose) (encK v.st.things) (encP v.st.pins) (encL v.st.leases) (encS v.rd.queue) (encS v.rd.marked) v.limit m v [] 0 V (by omega) (Nat.le_refl _)
  rw [Nat.zero_add] at this
  simp only [vI, vL, List.cons_append, List.nil_append] at hcp
  simp (disch := omega) only [push_cast, spec_l4Range_eq, decide_eq_true h0, hcp]
  exact this
end KV
end
section
namespace KV
open Go Go.Eng
set_option linter.unusedVariables false
set_option linter.unusedSimpArgs false
set_option linter.unusedSectionVars false
open Classical
/-- A code that is read: short, of bytes. -/
structure RB (b : Rw) : Prop where
  n : b.length ≤ 2000
  by_ : ∀ i, 0 ≤ (rd b i 0).int ∧ (rd b i 0).int ≤ 255
theorem tmod_range {a n : Int} (ha : 0 ≤ a) (hn : 1 ≤ n) : 0 ≤ a.tmod n ∧ a.tmod n < n := by
  rw [Int.tmod_eq_emod_of_nonneg ha]; exact ⟨Int.emod_nonneg _ (by omega), Int.emod_lt_of_pos _ (by omega)⟩
theorem xor_range {a b : Int} (ha : 0 ≤ a) (hb : 0 ≤ b) (ha2 : a < 4611686018427387904) (hb2 : b < 4611686018427387904) :
    0 ≤ IntKind.i64.wrap ((BitVec.ofInt IntKind.i64.bits a ^^^ BitVec.ofInt IntKind.i64.bits b).toNat : Int) := by
  show 0 ≤ IntKind.i64.wrap ((BitVec.ofInt 64 a ^^^ BitVec.ofInt 64 b).toNat : Int)
  rw [BitVec.toNat_xor, BitVec.toNat_ofInt, BitVec.toNat_ofInt]
  have e1 : (a % ((2 ^ 64 : Nat) : Int)).toNat = a.toNat := by
    rw [Int.emod_eq_of_lt ha (by have : (2 ^ 64 : Nat) = 18446744073709551616 := rfl; omega)]
  have e2 : (b % ((2 ^ 64 : Nat) : Int)).toNat = b.toNat := by
    rw [Int.emod_eq_of_lt hb (by have : (2 ^ 64 : Nat) = 18446744073709551616 := rfl; omega)]
  rw [e1, e2]
  have h : a.toNat ^^^ b.toNat < 2 ^ 62 := Nat.xor_lt_two_pow (by have : (2 ^ 62 : Nat) = 4611686018427387904 := rfl; omega) (by have : (2 ^ 62 : Nat) = 4611686018427387904 := rfl; omega)
  have : (2 ^ 62 : Nat) = 4611686018427387904 := rfl
  rw [w64 (by omega)]; omega
theorem pick_ok {b : Rw} (hb : RB b) (n : Int) (hn : n ≤ 1000000000000) (p : Int) (hp : 0 ≤ p ∧ p ≤ 1000000000) : ∃ x : Int, L_spec_l1Rd_pick none [.i n, .l b, .i p] = some [.i x, .l b, .i (p + 1)] ∧ 0 ≤ x ∧ (x < n ∨ x = 0) := by
  obtain ⟨p, rfl⟩ : ∃ q : Nat, p = (q : Int) := ⟨p.toNat, by omega⟩
  rw [e_spec_l1Rd_pick_i]
  have e1 : IntKind.i64.wrap ((p : Int) + 1) = (p : Int) + 1 := w64 (by omega)
  have e2 : IntKind.i64.wrap ((p : Int) + 1 - 1) = (p : Int) := by rw [w64 (by omega)]; omega
  rw [e1, e2]
  by_cases h1 : 1 ≤ n
  rotate_left; · exact ⟨0, by simp (disch := omega) only [push_cast], by omega, .inr rfl⟩
  by_cases h2 : b.length = 0
  · exact ⟨0, by simp (disch := omega) only [push_cast], by omega, .inr rfl⟩
  by_cases h3 : p < b.length
  · have hr := hb.by_ p
    have ht := tmod_range hr.1 h1
    refine ⟨((rd b p 0).int).tmod n, ?_, ht.1, .inl ht.2⟩
    simp (disch := omega) only [push_cast]
  · have hbn := hb.n
    obtain ⟨m, hm⟩ : ∃ m : Nat, b.length = m := ⟨_, rfl⟩
    rw [hm] at h2 h3 hbn ⊢
    have t1 := tmod_range (a := (p : Int)) (n := (m : Int)) (by omega) (by omega)
    have t2 := tmod_range (a := (p : Int) * 7 + 3) (n := (m : Int)) (by omega) (by omega)
    have t3 : 0 ≤ (p : Int).tdiv (m : Int) ∧ (p : Int).tdiv (m : Int) ≤ p := by
      rw [Int.tdiv_eq_ediv_of_nonneg (by omega)]
      exact ⟨Int.ediv_nonneg (by omega) (by omega), Int.ediv_le_self _ (by omega)⟩
    have r1 := hb.by_ ((p : Int).tmod (m : Int)).toNat
    have r2 := hb.by_ (((p : Int) * 7 + 3).tmod (m : Int)).toNat
    obtain ⟨c1, hc1⟩ : ∃ c, (rd b ((p : Int).tmod (m : Int)).toNat 0).int = c := ⟨_, rfl⟩
    obtain ⟨c2, hc2⟩ : ∃ c, (rd b (((p : Int) * 7 + 3).tmod (m : Int)).toNat 0).int = c := ⟨_, rfl⟩
    obtain ⟨q, hq⟩ : ∃ q, (p : Int).tdiv (m : Int) = q := ⟨_, rfl⟩
    rw [hc1] at r1; rw [hc2] at r2; rw [hq] at t3
    have hv : 0 ≤ c1 * 131 + c2 * 1117 + (p : Int) * 29 + q * 53 := by omega
    have h64 : 0 ≤ (c1 * 131 + c2 * 1117 + (p : Int) * 29 + q * 53).tdiv 64 ∧ (c1 * 131 + c2 * 1117 + (p : Int) * 29 + q * 53).tdiv 64 ≤ c1 * 131 + c2 * 1117 + (p : Int) * 29 + q * 53 := by
      rw [Int.tdiv_eq_ediv_of_nonneg hv]; omega
    have hx := xor_range hv h64.1 (by omega) (by omega)
    have ht := tmod_range hx h1
    refine ⟨(IntKind.i64.wrap ((BitVec.ofInt IntKind.i64.bits (c1 * 131 + c2 * 1117 + (p : Int) * 29 + q * 53) ^^^ BitVec.ofInt IntKind.i64.bits ((c1 * 131 + c2 * 1117 + (p : Int) * 29 + q * 53).tdiv 64)).toNat : Int)).tmod n, ?_, ht.1, .inl ht.2⟩
    simp (disch := omega) only [push_cast, hc1, hc2, hq]
theorem open_ok {c : Rw} (hc : ∀ i, 0 ≤ (rd c i 0).int ∧ (rd c i 0).int ≤ 255) : ∃ b, L_spec_l1Open none [.l c] = some [.l b, .i 0] ∧ RB b := by
  rw [e_spec_l1Open_i]
  by_cases h : c.length ≤ 2000
  · exact ⟨c, by simp (disch := omega) only [push_cast], h, hc⟩
  · refine ⟨Eng.sub c 0 2000, by simp (disch := omega) only [push_cast] <;> rfl, ?_, fun i => ?_⟩
    · simp [Eng.sub]; omega
    · have : rd (Eng.sub c 0 2000) i 0 = if i < 2000 then rd c i 0 else .i 0 := by
        unfold rd Eng.sub
        simp only [List.drop_zero, Nat.sub_zero, List.getD_eq_getElem?_getD, List.getElem?_take]
        split <;> rfl
      rw [this]
      split
      · exact hc i
      · exact ⟨Int.le_refl _, by show (0 : Int) ≤ 255; omega⟩
theorem text_13 {b : Rw} (hb : RB b) (n : Nat) (hn : n ≤ 3) : ∀ (m i : Nat) (p : Int) (acc : Rw), n + 1 - i = m → i ≤ n + 1 → 0 ≤ p ∧ p + m ≤ 1000000000 → acc.length = i →
    ∃ s p', L_spec_l1Text (some 13) [.i (n : Int), .i (i : Int), .l b, .i p, .l acc] = some [.s s, .l b, .i p'] ∧ p ≤ p' ∧ p' ≤ p + m ∧ s.size = n + 1
  | 0, i, p, acc, hm, hi, hp, ha => by
    refine ⟨bytesOf acc, p, ?_, by omega, by omega, by rw [bytesOf_size]; omega⟩
    rw [e_spec_l1Text_13]; simp (disch := omega) only [push_cast]
  | m + 1, i, p, acc, hm, hi, hp, ha => by
    obtain ⟨x, hx, hx0, hx1⟩ := pick_ok hb 6 (by omega) p (by omega)
    obtain ⟨s, p', h1, h2, h3, h4⟩ := text_13 hb n hn m (i + 1) (p + 1) (acc ++ [[.i (IntKind.u8.wrap (IntKind.i64.wrap (97 + x)))]]) (by omega) (by omega) (by omega) (by simp [ha])
    refine ⟨s, p', ?_, by omega, by omega, h4⟩
    rw [e_spec_l1Text_13, hx, mostE, ← h1]
    simp (disch := omega) only [push_cast]
theorem text_ok {b : Rw} (hb : RB b) (p : Int) (hp : 0 ≤ p ∧ p ≤ 999999000) : ∃ s p', L_spec_l1Text none [.l b, .i p] = some [.s s, .l b, .i p'] ∧ p ≤ p' ∧ p' ≤ p + 10 ∧ s.size ≤ 4 := by
  obtain ⟨x, hx, hx0, hx1⟩ := pick_ok hb 9 (by omega) p (by omega)
  rw [e_spec_l1Text_i, hx]
  by_cases c0 : x = 0
  · exact ⟨⟨#[]⟩, p + 1, by simp (disch := omega) only [push_cast], by omega, by omega, by decide⟩
  by_cases c1 : x = 1
  · exact ⟨⟨#[97, 32, 98]⟩, p + 1, by simp (disch := omega) only [push_cast], by omega, by omega, by decide⟩
  by_cases c2 : x = 2
  · exact ⟨⟨#[37, 45, 10]⟩, p + 1, by simp (disch := omega) only [push_cast], by omega, by omega, by decide⟩
  by_cases c3 : x = 3
  · exact ⟨⟨#[255, 0]⟩, p + 1, by simp (disch := omega) only [push_cast], by omega, by omega, by decide⟩
  obtain ⟨y, hy, hy0, hy1⟩ := pick_ok hb 4 (by omega) (p + 1) (by omega)
  obtain ⟨n, rfl⟩ : ∃ n : Nat, y = (n : Int) := ⟨y.toNat, by omega⟩
  obtain ⟨s, p', h1, h2, h3, h4⟩ := text_13 hb n (by omega) (n + 1) 0 (p + 1 + 1) [] (by omega) (by omega) (by omega) rfl
  refine ⟨s, p', ?_, by omega, by omega, by omega⟩
  simp (disch := omega) only [push_cast, hy]
  exact h1
theorem width_ok {b : Rw} (hb : RB b) (p : Int) (hp : 0 ≤ p ∧ p ≤ 999999000) : ∃ w, L_spec_l1DrawWidth none [.l b, .i p] = some [.i w, .l b, .i (p + 1)] ∧ (w = 1 ∨ w = 2 ∨ w = 8) := by
  obtain ⟨x, hx, hx0, hx1⟩ := pick_ok hb 8 (by omega) p (by omega)
  rw [e_spec_l1DrawWidth_i, hx]
  by_cases c0 : x < 2
  · exact ⟨1, by simp (disch := omega) only [push_cast], .inl rfl⟩
  by_cases c1 : x = 2
  · exact ⟨2, by simp (disch := omega) only [push_cast], .inr (.inl rfl)⟩
  · exact ⟨8, by simp (disch := omega) only [push_cast], .inr (.inr rfl)⟩
theorem insert_asc {l : List Bs} (h : Asc l) (x : Bs) (hx : x ∉ l) : Asc (l.take (lb (fun a => slt a x) l) ++ x :: l.drop (lb (fun a => slt a x) l)) := by
  unfold Asc at h ⊢
  have mono : ∀ a b, slt a b = true → slt b x = true → slt a x = true := fun a b h1 h2 => slt_trans h1 h2
  have hd : ∀ a ∈ l.drop (lb (fun a => slt a x) l), slt x a = true := fun a ha => by
    obtain ⟨j, hj, rfl⟩ := List.mem_iff_getElem.1 ha
    rw [List.length_drop] at hj
    have := lb_hi .empty h mono (lb (fun a => slt a x) l + j) (by omega) (by omega)
    rw [List.getElem_drop, ← nth_get .empty l _ (by omega)]
    rcases slt_false.1 this with h1 | h1
    · exact absurd (h1 ▸ nth_mem (by omega)) hx
    · exact h1
  have ht : ∀ a ∈ l.take (lb (fun a => slt a x) l), slt a x = true := fun a ha => by
    obtain ⟨j, hj, rfl⟩ := List.mem_iff_getElem.1 ha
    rw [List.length_take] at hj
    have := lb_lt (fun a => slt a x) .empty l j (by omega)
    rw [List.getElem_take, ← nth_get .empty l _ (by omega)]; exact this
  rw [List.pairwise_append, List.pairwise_cons]
  refine ⟨h.sublist (List.take_sublist _ _), ⟨hd, h.sublist (List.drop_sublist _ _)⟩, fun a ha b hb => ?_⟩
  rcases List.mem_cons.1 hb with rfl | hb
  · exact ht a ha
  · exact slt_trans (ht a ha) (hd b hb)
theorem sorted_6 (l : List Bs) (i : Nat) (hi : i < l.length) (out : List Bs) (ho : Asc out) (hol : out.length ≤ 1000000) (hl : l.length ≤ 1000000) : ∀ m k : Nat, lb (fun a => slt a (nth .empty l i)) out - k = m → k ≤ lb (fun a => slt a (nth .empty l i)) out →
    L_spec_l1Sorted (some 6) [.l (encS l), .i (i : Int), .i (k : Int), .l (encS out)] = L_spec_l1Sorted (some 3) [.l (encS l), .i ((i + 1 : Nat) : Int), .l (encS (if nth .empty l i ∈ out then out else out.take (lb (fun a => slt a (nth .empty l i)) out) ++ nth .empty l i :: out.drop (lb (fun a => slt a (nth .empty l i)) out)))]
  | m + 1, k, hm, hk => by
    have hle := lb_le (fun a => slt a (nth .empty l i)) out
    have hq := lb_lt (fun a => slt a (nth .empty l i)) .empty out k (by omega)
    rw [← sorted_6 l i hi out ho hol hl m (k + 1) (by omega) (by omega), e_spec_l1Sorted_6]
    simp (disch := omega) only [push_cast, hq]
  | 0, k, hm, hk => by
    have hle := lb_le (fun a => slt a (nth .empty l i)) out
    have hke : k = lb (fun a => slt a (nth .empty l i)) out := by omega
    generalize hx : nth .empty l i = x at *
    have mono : ∀ a b, slt a b = true → slt b x = true → slt a x = true := fun a b h1 h2 => slt_trans h1 h2
    have hmem : x ∈ out ↔ k < out.length ∧ nth .empty out k = x := by
      have := key_mem (q := fun a => slt a x) (p := fun a => a = x) .empty ho (fun a h => by rw [h]; exact slt_irrefl x) (fun a b hab hb => by rw [← hb]; exact hab)
      rw [hke, ← this]
      exact ⟨fun h => ⟨x, h, rfl⟩, fun ⟨a, h1, h2⟩ => h2 ▸ h1⟩
    have nine : x ∉ out → L_spec_l1Sorted (some 9) [.l (encS l), .i (i : Int), .i (k : Int), .l (encS out)] = L_spec_l1Sorted (some 3) [.l (encS l), .i ((i + 1 : Nat) : Int), .l (encS (out.take k ++ x :: out.drop k))] := fun hn => by
      have s1 : Eng.sub (encS out) 0 k = encS (out.take k) := by rw [encS_sub]; simp
      have s2 : Eng.sub (encS out) k out.length = encS (out.drop k) := by rw [encS_sub, List.take_of_length_le (by simp)]
      rw [e_spec_l1Sorted_9, mostE]
      simp (disch := omega) only [push_cast, hx, s1, s2, List.nil_append, List.length_append, List.length_take, List.length_drop]
      rw [encS_one, encS_app, encS_app, List.append_assoc]; rfl
    rw [e_spec_l1Sorted_6]
    by_cases h1 : k < out.length
    · have hq : slt (nth .empty out k) x = false := by rw [hke]; exact lb_at (fun a => slt a x) .empty out (by omega)
      by_cases h2 : nth .empty out k = x
      · rw [if_pos (hmem.2 ⟨h1, h2⟩)]
        simp (disch := omega) only [push_cast, hx, hq]
      · have hn : x ∉ out := fun h => h2 (hmem.1 h).2
        rw [if_neg hn]
        simp (disch := omega) only [push_cast, hx, hq]
        rw [nine hn, hke]; simp (disch := omega) only [push_cast]
    · have hn : x ∉ out := fun h => h1 (hmem.1 h).1
      rw [if_neg hn]
      simp (disch := omega) only [push_cast]
      rw [nine hn, hke]; simp (disch := omega) only [push_cast]
theorem sorted_ok (l : List Bs) (hl : l.length ≤ 1000000) : ∃ out : List Bs, L_spec_l1Sorted none [.l (encS l)] = some [.l (encS out)] ∧ Asc out ∧ (∀ x, x ∈ out ↔ x ∈ l) ∧ out.length ≤ l.length := by
  rw [e_spec_l1Sorted_i]
  refine inv_loop_ex (f := fun (i : Nat) (out : List Bs) => L_spec_l1Sorted (some 3) [.l (encS l), .i (i : Int), .l (encS out)]) (n := l.length) (I := fun i out => Asc out ∧ (∀ x, x ∈ out ↔ x ∈ l.take i) ∧ out.length ≤ i)
    (T := fun r => ∃ out : List Bs, r = some [.l (encS out)] ∧ Asc out ∧ (∀ x, x ∈ out ↔ x ∈ l) ∧ out.length ≤ l.length) (fun i out hi hI => .inl ?_) (fun out hI => ?_) 0 [] (Nat.zero_le _) ⟨List.Pairwise.nil, fun x => by simp, Nat.zero_le _⟩
  · obtain ⟨ho, hm, hlen⟩ := hI
    refine ⟨if nth .empty l i ∈ out then out else out.take (lb (fun a => slt a (nth .empty l i)) out) ++ nth .empty l i :: out.drop (lb (fun a => slt a (nth .empty l i)) out), ?_, ?_, fun x => ?_, ?_⟩
    · show L_spec_l1Sorted _ _ = L_spec_l1Sorted _ _
      rw [← sorted_6 l i hi out ho (by omega) hl (lb (fun a => slt a (nth .empty l i)) out) 0 (by omega) (Nat.zero_le _), e_spec_l1Sorted_3]; simp (disch := omega) only [push_cast]
    · split
      · exact ho
      · rename_i h; exact insert_asc ho _ h
    · rw [take_nth .empty hi, List.mem_append, List.mem_singleton, ← hm]
      split
      · rename_i h; exact ⟨.inl, fun h1 => by rcases h1 with h1 | rfl; exact h1; exact h⟩
      · rw [List.mem_append, List.mem_cons]
        conv => rhs; rw [← List.take_append_drop (lb (fun a => slt a (nth .empty l i)) out) out, List.mem_append]
        constructor
        · rintro (h | h | h)
          · exact .inl (.inl h)
          · exact .inr h
          · exact .inl (.inr h)
        · rintro ((h | h) | h)
          · exact .inl h
          · exact .inr (.inr h)
          · exact .inr (.inl h)
    · have := lb_le (fun a => slt a (nth .empty l i)) out
      split
      · omega
      · simp; omega
  · refine ⟨out, ?_, hI.1, fun x => by rw [hI.2.1 x, List.take_length], hI.2.2⟩
    show L_spec_l1Sorted _ _ = _
    rw [e_spec_l1Sorted_3]; simp (disch := omega) only [push_cast]
end KV
end
section
namespace KV
open Go Go.Eng
set_option linter.unusedVariables false
set_option linter.unusedSimpArgs false
set_option linter.unusedSectionVars false
open Classical
def bendL : Rw := [[.s (⟨#[32]⟩ : ByteArray)], [.s (⟨#[10]⟩ : ByteArray)], [.s (⟨#[0]⟩ : ByteArray)], [.s (⟨#[45]⟩ : ByteArray)], [.s (⟨#[48]⟩ : ByteArray)], [.s (⟨#[120]⟩ : ByteArray)], [.s (⟨#[37, 122, 122]⟩ : ByteArray)], [.s (⟨#[37, 52]⟩ : ByteArray)]]
theorem bendL_size (i : Nat) : ((rd bendL i 0).str).size ≤ 3 := by
  have h : ∀ j, j < 8 → ((rd bendL j 0).str).size ≤ 3 := by decide
  rcases Nat.lt_or_ge i 8 with h1 | h1
  · exact h i h1
  · have : rd bendL i 0 = .i 0 := by
      unfold rd
      rw [List.getD_eq_getElem?_getD (l := bendL), List.getElem?_eq_none (by exact h1)]; rfl
    rw [this]; decide
theorem bend_10 {b : Rw} (hb : RB b) (s : Bs) (hs : s.size ≤ 1000000000) (x : Int) (hx : 0 ≤ x) (hx2 : x ≤ s.size) (p : Int) (hp : 0 ≤ p ∧ p ≤ 999999000) : ∃ (r : Bs) (p' : Int), L_spec_l1Bend (some 10) [.s s, .i x, .l b, .i p] = some [.s r, .l b, .i p'] ∧ p ≤ p' ∧ p' ≤ p + 1 ∧ r.size ≤ s.size + 3 := by
  obtain ⟨x, rfl⟩ : ∃ n : Nat, x = (n : Int) := ⟨x.toNat, by omega⟩
  rw [e_spec_l1Bend_10, mostE]
  by_cases h : x < s.size
  · obtain ⟨y, hy, hy0, hy1⟩ := pick_ok hb 256 (by omega) p (by omega)
    have h1 : (bytesOf ([[.i (IntKind.u8.wrap y)]] : Rw)).size = 1 := by rw [bytesOf_size]; rfl
    have z1 : (s.extract 0 x).size = x := by rw [size_extract]; omega
    have z2 : (s.extract (x + 1) s.size).size = s.size - (x + 1) := by rw [size_extract]; omega
    refine ⟨s.extract 0 x ++ bytesOf [[.i (IntKind.u8.wrap y)]] ++ s.extract (x + 1) s.size, p + 1, ?_, by omega, by omega, by rw [size_app, size_app, h1, z1, z2]; omega⟩
    simp (disch := omega) only [push_cast, hy, bytesOf_size, z1, z2, size_app]
  · exact ⟨s, p, by simp (disch := omega) only [push_cast], by omega, by omega, by omega⟩
theorem bend_ok {b : Rw} (hb : RB b) (s : Bs) (hs : s.size ≤ 1000000000) (p : Int) (hp : 0 ≤ p ∧ p ≤ 999998000) : ∃ (r : Bs) (p' : Int), L_spec_l1Bend none [.s s, .l b, .i p] = some [.s r, .l b, .i p'] ∧ p ≤ p' ∧ p' ≤ p + 5 ∧ r.size ≤ s.size + 3 := by
  obtain ⟨x, hx, hx0, hx1⟩ := pick_ok hb ((s.size : Int) + 1) (by omega) p (by omega)
  obtain ⟨y, hy, hy0, hy1⟩ := pick_ok hb 4 (by omega) (p + 1) (by omega)
  obtain ⟨x, rfl⟩ : ∃ n : Nat, x = (n : Int) := ⟨x.toNat, by omega⟩
  rw [e_spec_l1Bend_i, mostE]
  have z1 : (s.extract 0 x).size = x := by rw [size_extract]; omega
  have z2 : (s.extract x s.size).size = s.size - x := by rw [size_extract]; omega
  by_cases c0 : y = 0
  · exact ⟨s.extract 0 x, p + 1 + 1, by simp (disch := omega) only [push_cast, hx, hy], by omega, by omega, by omega⟩
  by_cases c1 : y = 1
  · obtain ⟨z, hz, hz0, hz1⟩ := pick_ok hb 8 (by omega) (p + 1 + 1) (by omega)
    have hl := bendL_size z.toNat
    refine ⟨s.extract 0 x ++ (rd bendL z.toNat 0).str ++ s.extract x s.size, p + 1 + 1 + 1, ?_, by omega, by omega, by rw [size_app, size_app, z1, z2]; omega⟩
    have e : ([[.s (⟨#[32]⟩ : ByteArray)], [.s (⟨#[10]⟩ : ByteArray)], [.s (⟨#[0]⟩ : ByteArray)], [.s (⟨#[45]⟩ : ByteArray)], [.s (⟨#[48]⟩ : ByteArray)], [.s (⟨#[120]⟩ : ByteArray)], [.s (⟨#[37, 122, 122]⟩ : ByteArray)], [.s (⟨#[37, 52]⟩ : ByteArray)]] : Rw) = bendL := rfl
    have hlen : bendL.length = 8 := rfl
    rw [e]
    simp (disch := omega) only [push_cast, hx, hy, hz, hlen, z1, z2, size_app]
  by_cases c2 : y = 2
  · by_cases h : x < s.size
    · have z3 : (s.extract (x + 1) s.size).size = s.size - (x + 1) := by rw [size_extract]; omega
      refine ⟨s.extract 0 x ++ s.extract (x + 1) s.size, p + 1 + 1, ?_, by omega, by omega, by rw [size_app, z1, z3]; omega⟩
      simp (disch := omega) only [push_cast, hx, hy, z1, z3, size_app]
    · obtain ⟨r, p', h1, h2, h3, h4⟩ := bend_10 hb s hs (x : Int) (by omega) (by omega) (p + 1 + 1) (by omega)
      exact ⟨r, p', by simp (disch := omega) only [push_cast, hx, hy, h1], by omega, by omega, h4⟩
  · obtain ⟨r, p', h1, h2, h3, h4⟩ := bend_10 hb s hs (x : Int) (by omega) (by omega) (p + 1 + 1) (by omega)
    exact ⟨r, p', by simp (disch := omega) only [push_cast, hx, hy, h1], by omega, by omega, h4⟩
end KV
end
section
namespace KV
open Go Go.Eng
set_option linter.unusedVariables false
set_option linter.unusedSimpArgs false
set_option linter.unusedSectionVars false
open Classical
structure Act where
  kind : Int
  text : Bs
  refs : Int
  name : Bs
  pick : Int
  ticks : Int
def encA (a : Act) : Lv := [.i a.kind, .s a.text, .i a.refs, .s a.name, .i a.pick, .i a.ticks]
structure ActOk (a : Act) : Prop where
  kind : (1 ≤ a.kind ∧ a.kind ≤ 6) ∨ a.kind = 8 ∨ a.kind = 9 ∨ a.kind = 10
  text : a.text.size ≤ 4
  refs : 0 ≤ a.refs ∧ a.refs < 8
  name : a.name.size ≤ 1
  pick : 0 ≤ a.pick ∧ a.pick < 40
  ticks : 1 ≤ a.ticks ∧ a.ticks ≤ 200
def nameL : Rw := [[.s (⟨#[112]⟩ : ByteArray)], [.s (⟨#[113]⟩ : ByteArray)], [.s (⟨#[114]⟩ : ByteArray)]]
def tickL : Rw := [[.i 1], [.i 3], [.i 10], [.i 40], [.i 200]]
theorem nameL_size (i : Nat) : ((rd nameL i 0).str).size ≤ 1 := by
  match i with
  | 0 => exact Nat.le_refl _
  | 1 => exact Nat.le_refl _
  | 2 => exact Nat.le_refl _
  | n + 3 => exact Nat.zero_le _
theorem tickL_rng (i : Nat) (h : i < 5) : 1 ≤ (rd tickL i 0).int ∧ (rd tickL i 0).int ≤ 200 := by
  match i, h with
  | 0, _ => exact ⟨Int.le_refl _, by show (1 : Int) ≤ 200; omega⟩
  | 1, _ => exact ⟨by show (1 : Int) ≤ 3; omega, by show (3 : Int) ≤ 200; omega⟩
  | 2, _ => exact ⟨by show (1 : Int) ≤ 10; omega, by show (10 : Int) ≤ 200; omega⟩
  | 3, _ => exact ⟨by show (1 : Int) ≤ 40; omega, by show (40 : Int) ≤ 200; omega⟩
  | 4, _ => exact ⟨by show (1 : Int) ≤ 200; omega, Int.le_refl _⟩
theorem act_ok {b : Rw} (hb : RB b) (p : Int) (hp : 0 ≤ p ∧ p ≤ 999998000) : ∃ (a : Act) (p' : Int), L_spec_l7Act none [.l b, .i p] = some (encA a ++ [.l b, .i p']) ∧ p ≤ p' ∧ p' ≤ p + 20 ∧ ActOk a := by
  obtain ⟨s, p1, h1, h2, h3, hs⟩ := text_ok hb p (by omega)
  obtain ⟨x2, e2, r2, s2⟩ := pick_ok hb 8 (by omega) p1 (by omega)
  obtain ⟨x3, e3, r3, s3⟩ := pick_ok hb 3 (by omega) (p1 + 1) (by omega)
  obtain ⟨x4, e4, r4, s4⟩ := pick_ok hb 40 (by omega) (p1 + 1 + 1) (by omega)
  obtain ⟨x5, e5, r5, s5⟩ := pick_ok hb 5 (by omega) (p1 + 1 + 1 + 1) (by omega)
  obtain ⟨x6, e6, r6, s6⟩ := pick_ok hb 20 (by omega) (p1 + 1 + 1 + 1 + 1) (by omega)
  have ht := tickL_rng x5.toNat (by omega)
  have hnm := nameL_size x3.toNat
  refine ⟨⟨if x6 < 7 then 1 else if x6 < 10 then 2 else if x6 = 10 then 3 else if x6 = 11 then 4 else if x6 = 12 then 5 else if x6 < 15 then 6 else if x6 = 15 then 8 else if x6 = 16 then 9 else 10, s, x2, (rd nameL x3.toNat 0).str, x4, (rd tickL x5.toNat 0).int⟩, p1 + 1 + 1 + 1 + 1 + 1, ?_, by omega, by omega, ?_⟩
  · rw [e_spec_l7Act_i, h1]
    simp (disch := omega) only [push_cast, e2, e3, e4, e5, e6]
    by_cases c1 : x6 < 7
    · rw [if_pos c1]; simp (disch := omega) only [push_cast]; rfl
    rw [if_neg c1]
    by_cases c2 : x6 < 10
    · rw [if_pos c2]; simp (disch := omega) only [push_cast]; rfl
    rw [if_neg c2]
    by_cases c3 : x6 = 10
    · rw [if_pos c3]; simp (disch := omega) only [push_cast]; rfl
    rw [if_neg c3]
    by_cases c4 : x6 = 11
    · rw [if_pos c4]; simp (disch := omega) only [push_cast]; rfl
    rw [if_neg c4]
    by_cases c5 : x6 = 12
    · rw [if_pos c5]; simp (disch := omega) only [push_cast]; rfl
    rw [if_neg c5]
    by_cases c6 : x6 < 15
    · rw [if_pos c6]; simp (disch := omega) only [push_cast]; rfl
    rw [if_neg c6]
    by_cases c7 : x6 = 15
    · rw [if_pos c7]; simp (disch := omega) only [push_cast]; rfl
    rw [if_neg c7]
    by_cases c8 : x6 = 16
    · rw [if_pos c8]; simp (disch := omega) only [push_cast]; rfl
    rw [if_neg c8]; simp (disch := omega) only [push_cast]; rfl
  · refine ⟨?_, hs, by simp only; omega, hnm, by simp only; omega, ht⟩
    show (1 ≤ (if x6 < 7 then (1 : Int) else _) ∧ _) ∨ _
    simp only
    repeat' split
    all_goals omega
theorem actThing_5 (a : Act) (s : State) (ha : ActOk a) (hT : 0 < s.things.length) (hn : s.things.length ≤ 1000000) : ∀ (m k : Nat) (acc : List Bs), 4 - k = m → k ≤ 4 → acc.length ≤ k → (∀ r ∈ acc, hasT s.things r) →
    ∃ l : List Bs, L_spec_Act_Thing (some 5) [.i (k : Int), .i a.kind, .s a.text, .i a.refs, .s a.name, .i a.pick, .i a.ticks, .i s.width, .i s.now, .i s.given, .i s.births, .l (encK s.things), .l (encP s.pins), .l (encL s.leases), .s E0, .s a.text, .l (encS acc), .l [], .l []] = some [.s a.text, .l (encS l)] ∧ l.length ≤ 4 ∧ Asc l ∧ ∀ r ∈ l, hasT s.things r := by
  intro m
  have fin : ∀ acc : List Bs, acc.length ≤ 4 → (∀ r ∈ acc, hasT s.things r) → ∃ l : List Bs, (L_spec_l1Sorted none [.l (encS acc)]).bind (fun y1 => some ([.s a.text, .l ((g y1 0).list)] : Lv)) = some ([.s a.text, .l (encS l)] : Lv) ∧ l.length ≤ 4 ∧ Asc l ∧ ∀ r ∈ l, hasT s.things r := by
    intro acc h1 h2
    obtain ⟨out, e, h3, h4, h5⟩ := sorted_ok acc (by omega)
    exact ⟨out, by rw [e]; rfl, by omega, h3, fun r hr => h2 r ((h4 r).1 hr)⟩
  have hr := ha.refs
  have hp := ha.pick
  have hd : 0 ≤ a.refs.tdiv 2 ∧ a.refs.tdiv 2 ≤ 3 := by rw [Int.tdiv_eq_ediv_of_nonneg hr.1]; omega
  induction m with
  | zero =>
    intro k acc hm hk hl hh
    have : k = 4 := by omega
    subst this
    obtain ⟨l, e, r⟩ := fin acc (by omega) hh
    refine ⟨l, ?_, r⟩
    rw [e_spec_Act_Thing_5]
    simp (disch := omega) only [push_cast]
    exact e
  | succ m ih =>
    intro k acc hm hk hl hh
    by_cases c : (k : Int) < a.refs.tdiv 2
    · have ht := tmod_range (a := a.pick + 5 * (k : Int)) (n := (s.things.length : Int)) (by omega) (by omega)
      obtain ⟨j, hj⟩ : ∃ j : Nat, (a.pick + 5 * (k : Int)).tmod (s.things.length : Int) = j := ⟨((a.pick + 5 * (k : Int)).tmod (s.things.length : Int)).toNat, by omega⟩
      obtain ⟨l, e, r⟩ := ih (k + 1) (acc ++ [(nth K0 s.things j).sum]) (by omega) (by omega) (by simp; omega) (fun r hr => by
        rcases List.mem_append.1 hr with h | h
        · exact hh r h
        · rw [List.mem_singleton] at h; rw [h]; exact ⟨_, nth_mem (by omega), rfl⟩)
      refine ⟨l, ?_, r⟩
      rw [e_spec_Act_Thing_5, mostE]
      rw [← encS_app] at e
      simp (disch := omega) only [push_cast, hj]
      exact e
    · obtain ⟨l, e, r⟩ := fin acc (by omega) hh
      refine ⟨l, ?_, r⟩
      rw [e_spec_Act_Thing_5]
      simp (disch := omega) only [push_cast]
      exact e
theorem actThing_ok (a : Act) (s : State) (ha : ActOk a) (hn : s.things.length ≤ 1000000) : ∃ l : List Bs, L_spec_Act_Thing none (encA a ++ encSt s) = some [.s a.text, .l (encS l)] ∧ l.length ≤ 4 ∧ Asc l ∧ ∀ r ∈ l, hasT s.things r := by
  show ∃ l : List Bs, L_spec_Act_Thing none [.i a.kind, .s a.text, .i a.refs, .s a.name, .i a.pick, .i a.ticks, .i s.width, .i s.now, .i s.given, .i s.births, .l (encK s.things), .l (encP s.pins), .l (encL s.leases)] = _ ∧ _
  rw [e_spec_Act_Thing_i]
  by_cases h : 0 < s.things.length
  · obtain ⟨l, e, r⟩ := actThing_5 a s ha h hn 4 0 [] rfl (by omega) (Nat.le_refl _) (fun r hr => nomatch hr)
    exact ⟨l, by simp (disch := omega) only [push_cast]; exact e, r⟩
  · obtain ⟨out, e, h3, h4, h5⟩ := sorted_ok [] (Nat.zero_le _)
    have e' : L_spec_l1Sorted none [.l []] = some [.l (encS out)] := e
    refine ⟨out, by simp (disch := omega) only [push_cast, e'], by have : out.length ≤ 0 := h5; omega, h3, fun r hr => nomatch (h4 r).1 hr⟩
theorem actSum_ok (a : Act) (s : State) (ha : ActOk a) (hn : s.things.length ≤ 1000000) : ∃ x : Bs, L_spec_Act_Sum none (encA a ++ encSt s) = some [.s x] := by
  show ∃ x : Bs, L_spec_Act_Sum none [.i a.kind, .s a.text, .i a.refs, .s a.name, .i a.pick, .i a.ticks, .i s.width, .i s.now, .i s.given, .i s.births, .l (encK s.things), .l (encP s.pins), .l (encL s.leases)] = _
  rw [e_spec_Act_Sum_i]
  have hp := ha.pick
  by_cases h : s.things.length = 0
  · refine ⟨sumM ⟨#[110, 111, 110, 101]⟩ s.width, ?_⟩
    simp (disch := omega) only [push_cast, spec_Sum_eq (⟨#[110, 111, 110, 101]⟩ : ByteArray) s.width (by show (4 : Nat) ≤ 1099511627776; omega)]
  · have ht := tmod_range (a := a.pick) (n := (s.things.length : Int)) (by omega) (by omega)
    obtain ⟨j, hj⟩ : ∃ j : Nat, a.pick.tmod (s.things.length : Int) = j := ⟨(a.pick.tmod (s.things.length : Int)).toNat, by omega⟩
    exact ⟨(nth K0 s.things j).sum, by simp (disch := omega) only [push_cast, hj]⟩
theorem actLease_ok (a : Act) (s : State) (ha : ActOk a) (hn : s.leases.length ≤ 1000000) : ∃ x : Int, L_spec_Act_Lease none (encA a ++ encSt s) = some [.i x] := by
  show ∃ x : Int, L_spec_Act_Lease none [.i a.kind, .s a.text, .i a.refs, .s a.name, .i a.pick, .i a.ticks, .i s.width, .i s.now, .i s.given, .i s.births, .l (encK s.things), .l (encP s.pins), .l (encL s.leases)] = _
  rw [e_spec_Act_Lease_i]
  have hp := ha.pick
  by_cases h : s.leases.length = 0
  · exact ⟨1 + a.pick, by simp (disch := omega) only [push_cast]⟩
  · have ht := tmod_range (a := a.pick) (n := (s.leases.length : Int)) (by omega) (by omega)
    obtain ⟨j, hj⟩ : ∃ j : Nat, a.pick.tmod (s.leases.length : Int) = j := ⟨(a.pick.tmod (s.leases.length : Int)).toNat, by omega⟩
    exact ⟨(nth L0 s.leases j).number, by simp (disch := omega) only [push_cast, hj]⟩
theorem clrS_VV : ∀ (n : Nat) (v : Vault) (d : List Bs) (u : Nat) (r : Vault × List Bs × Nat), VV v → clrS n v d u = some r → VV r.1
  | 0, v, d, u, r, V, h => by simp only [clrS] at h; cases h; exact V
  | n + 1, v, d, u, r, V, h => by
    simp only [clrS] at h
    split at h
    · cases h
    · rename_i hc
      have hlog := V.log.n
      split at h
      · cases h; exact V
      · rename_i hd
        have hs := step_VQ V (by omega) (by by_cases h0 : (unitM v.st v.rd).2 = E0; { exact .inl h0 }; { exact .inr (by have : ¬ 4000 ≤ v.safe.length + v.loose.length := fun h => hd ⟨h0, h⟩; omega) })
        exact clrS_VV n _ _ _ _ (hs.vv (hs.rd (by show (unitM v.st v.rd).1.queue.length ≤ 23200; omega) (by show (unitM v.st v.rd).1.marked.length ≤ 600; omega))) h
def GV (v : Vault) : Prop := VV v ∨ v = V0
theorem GV.small {v : Vault} (h : GV v) : SmallV v := by
  rcases h with h | rfl
  · exact h.small
  · exact ⟨⟨Nat.zero_le _, fun x hx => nomatch hx⟩, ⟨Nat.zero_le _, fun x hx => nomatch hx⟩, Nat.zero_le _, ⟨Nat.zero_le _, Nat.zero_le _, Nat.zero_le _, fun x hx => nomatch hx⟩, Nat.zero_le _, Nat.zero_le _, Nat.zero_le _⟩
theorem GV.nT {v : Vault} (h : GV v) : v.st.things.length ≤ 1000000 ∧ v.st.leases.length ≤ 1000000 := by
  rcases h with h | rfl
  · have h1 := h.vs.1.nT; have h2 := h.vs.1.nL; omega
  · exact ⟨Nat.zero_le _, Nat.zero_le _⟩
theorem done_21 (v : Vault) (d : Did) : L_spec_l7Done (some 21) (encV v ++ ([.i 0, .i 0, .i 0, .i 0, .i 0, .i 0, .i 0, .i 0, .i 0, .i 0] ++ (encDid d ++ [.l [], .l [], .l [], .l [], .l [], .l [], .l []]))) = some (encV (if d.code = 0 then d.v else v)) := by
  show L_spec_l7Done (some 21) [.i v.width, .i v.limit, .l (encS v.safe), .l (encS v.loose), .i v.st.width, .i v.st.now, .i v.st.given, .i v.st.births, .l (encK v.st.things), .l (encP v.st.pins), .l (encL v.st.leases), .i v.rd.phase, .l (encS v.rd.queue), .l (encS v.rd.marked), .i v.rd.top, .i v.rd.at_, .i v.rd.rounds,
    .i 0, .i 0, .i 0, .i 0, .i 0, .i 0, .i 0, .i 0, .i 0, .i 0, .i d.code, .i d.v.width, .i d.v.limit, .i d.v.st.width, .i d.v.st.now, .i d.v.st.given, .i d.v.st.births, .i d.v.rd.phase, .i d.v.rd.top, .i d.v.rd.at_, .i d.v.rd.rounds, .s d.sum, .i d.lease, .s d.a, .s d.b, .l (encS d.v.safe), .l (encS d.v.loose), .l (encK d.v.st.things), .l (encP d.v.st.pins), .l (encL d.v.st.leases), .l (encS d.v.rd.queue), .l (encS d.v.rd.marked), .l [], .l [], .l [], .l [], .l [], .l [], .l []] = _
  rw [e_spec_l7Done_21]
  by_cases h : d.code = 0
  · rw [if_pos h]; simp (disch := omega) only [push_cast]; rfl
  · rw [if_neg h]; simp (disch := omega) only [push_cast]; rfl
theorem doS_GV {v : Vault} (h : GV v) (e : Entry) : GV (if (doS v e).code = 0 then (doS v e).v else v) := by
  by_cases hc : (doS v e).code = 0
  · rw [if_pos hc]; exact .inl (doE_VV hc).2.2.2
  · rw [if_neg hc]; exact h
theorem l7Done_ok {v : Vault} (h : GV v) {a : Act} (ha : ActOk a) : ∃ v', L_spec_l7Done none (encV v ++ encA a) = some (encV v') ∧ GV v' := by
  show ∃ v', L_spec_l7Done none [.i v.width, .i v.limit, .l (encS v.safe), .l (encS v.loose), .i v.st.width, .i v.st.now, .i v.st.given, .i v.st.births, .l (encK v.st.things), .l (encP v.st.pins), .l (encL v.st.leases), .i v.rd.phase, .l (encS v.rd.queue), .l (encS v.rd.marked), .i v.rd.top, .i v.rd.at_, .i v.rd.rounds, .i a.kind, .s a.text, .i a.refs, .s a.name, .i a.pick, .i a.ticks] = _ ∧ _
  have hsm := h.small
  have hn := h.nT
  have hnm := ha.name
  rw [e_spec_l7Done_i]
  have hk := ha.kind
  have hp := ha.pick
  by_cases c1 : a.kind = 1
  · obtain ⟨l, e, h4, _⟩ := actThing_ok a v.st ha hn.1
    have e' : L_spec_Act_Thing none [.i a.kind, .s a.text, .i a.refs, .s a.name, .i a.pick, .i a.ticks, .i v.st.width, .i v.st.now, .i v.st.given, .i v.st.births, .l (encK v.st.things), .l (encP v.st.pins), .l (encL v.st.leases)] = _ := e
    have ep := spec_Put_eq hsm ⟨a.text, l⟩ a.ticks (by show l.length ≤ 1099511627776; omega)
    have ep' : L_spec_Put none [.i v.width, .i v.limit, .l (encS v.safe), .l (encS v.loose), .i v.st.width, .i v.st.now, .i v.st.given, .i v.st.births, .l (encK v.st.things), .l (encP v.st.pins), .l (encL v.st.leases), .i v.rd.phase, .l (encS v.rd.queue), .l (encS v.rd.marked), .i v.rd.top, .i v.rd.at_, .i v.rd.rounds, .s a.text, .l (encS l), .i a.ticks] = _ := ep
    refine ⟨_, ?_, doS_GV h (ePut ⟨a.text, l⟩ a.ticks)⟩
    rw [← done_21]
    simp (disch := omega) only [push_cast, e', ep']
    rfl
  by_cases c2 : a.kind = 2
  · obtain ⟨x, e⟩ := actSum_ok a v.st ha hn.1
    have e' : L_spec_Act_Sum none [.i a.kind, .s a.text, .i a.refs, .s a.name, .i a.pick, .i a.ticks, .i v.st.width, .i v.st.now, .i v.st.given, .i v.st.births, .l (encK v.st.things), .l (encP v.st.pins), .l (encL v.st.leases)] = _ := e
    have ep := spec_Hold_eq hsm a.name x (by omega)
    have ep' : L_spec_Hold none [.i v.width, .i v.limit, .l (encS v.safe), .l (encS v.loose), .i v.st.width, .i v.st.now, .i v.st.given, .i v.st.births, .l (encK v.st.things), .l (encP v.st.pins), .l (encL v.st.leases), .i v.rd.phase, .l (encS v.rd.queue), .l (encS v.rd.marked), .i v.rd.top, .i v.rd.at_, .i v.rd.rounds, .s a.name, .s x] = _ := ep
    refine ⟨_, ?_, doS_GV h (eHold a.name x)⟩
    rw [← done_21]
    simp (disch := omega) only [push_cast, e', ep']
    rfl
  by_cases c3 : a.kind = 3
  · have ep := spec_Loosen_eq hsm a.name (by omega)
    have ep' : L_spec_Loosen none [.i v.width, .i v.limit, .l (encS v.safe), .l (encS v.loose), .i v.st.width, .i v.st.now, .i v.st.given, .i v.st.births, .l (encK v.st.things), .l (encP v.st.pins), .l (encL v.st.leases), .i v.rd.phase, .l (encS v.rd.queue), .l (encS v.rd.marked), .i v.rd.top, .i v.rd.at_, .i v.rd.rounds, .s a.name] = _ := ep
    refine ⟨_, ?_, doS_GV h (eLoosen a.name)⟩
    rw [← done_21]
    simp (disch := omega) only [push_cast, ep']
    rfl
  by_cases c4 : a.kind = 4
  · obtain ⟨x, e⟩ := actSum_ok a v.st ha hn.1
    have e' : L_spec_Act_Sum none [.i a.kind, .s a.text, .i a.refs, .s a.name, .i a.pick, .i a.ticks, .i v.st.width, .i v.st.now, .i v.st.given, .i v.st.births, .l (encK v.st.things), .l (encP v.st.pins), .l (encL v.st.leases)] = _ := e
    have ep := spec_Borrow_eq hsm x a.ticks
    have ep' : L_spec_Borrow none [.i v.width, .i v.limit, .l (encS v.safe), .l (encS v.loose), .i v.st.width, .i v.st.now, .i v.st.given, .i v.st.births, .l (encK v.st.things), .l (encP v.st.pins), .l (encL v.st.leases), .i v.rd.phase, .l (encS v.rd.queue), .l (encS v.rd.marked), .i v.rd.top, .i v.rd.at_, .i v.rd.rounds, .s x, .i a.ticks] = _ := ep
    refine ⟨_, ?_, doS_GV h (eBorrow x a.ticks)⟩
    rw [← done_21]
    simp (disch := omega) only [push_cast, e', ep']
    rfl
  by_cases c5 : a.kind = 5
  · obtain ⟨x, e⟩ := actLease_ok a v.st ha hn.2
    have e' : L_spec_Act_Lease none [.i a.kind, .s a.text, .i a.refs, .s a.name, .i a.pick, .i a.ticks, .i v.st.width, .i v.st.now, .i v.st.given, .i v.st.births, .l (encK v.st.things), .l (encP v.st.pins), .l (encL v.st.leases)] = _ := e
    have ep := spec_GiveBack_eq hsm x
    have ep' : L_spec_GiveBack none [.i v.width, .i v.limit, .l (encS v.safe), .l (encS v.loose), .i v.st.width, .i v.st.now, .i v.st.given, .i v.st.births, .l (encK v.st.things), .l (encP v.st.pins), .l (encL v.st.leases), .i v.rd.phase, .l (encS v.rd.queue), .l (encS v.rd.marked), .i v.rd.top, .i v.rd.at_, .i v.rd.rounds, .i x] = _ := ep
    refine ⟨_, ?_, doS_GV h (eGiveBack x)⟩
    rw [← done_21]
    simp (disch := omega) only [push_cast, e', ep']
    rfl
  by_cases c6 : a.kind = 6
  · have ep := spec_Wait_eq hsm a.ticks
    have ep' : L_spec_Wait none [.i v.width, .i v.limit, .l (encS v.safe), .l (encS v.loose), .i v.st.width, .i v.st.now, .i v.st.given, .i v.st.births, .l (encK v.st.things), .l (encP v.st.pins), .l (encL v.st.leases), .i v.rd.phase, .l (encS v.rd.queue), .l (encS v.rd.marked), .i v.rd.top, .i v.rd.at_, .i v.rd.rounds, .i a.ticks] = _ := ep
    refine ⟨_, ?_, doS_GV h (eWait a.ticks)⟩
    rw [← done_21]
    simp (disch := omega) only [push_cast, ep']
    rfl
  by_cases c8 : a.kind = 8
  · have ep := spec_Flush_eq hsm
    unfold encV at ep
    refine ⟨flushM v, ?_, ?_⟩
    · simp (disch := omega) only [push_cast, ep]; rfl
    · by_cases V : VV v
      · exact .inl (flush_VV V)
      · right; unfold flushM; rw [if_neg V]
  by_cases c9 : a.kind = 9
  · have ep := spec_Lose_eq hsm (a.pick.tmod 6)
    have ep' : L_spec_Lose none [.i v.width, .i v.limit, .l (encS v.safe), .l (encS v.loose), .i v.st.width, .i v.st.now, .i v.st.given, .i v.st.births, .l (encK v.st.things), .l (encP v.st.pins), .l (encL v.st.leases), .i v.rd.phase, .l (encS v.rd.queue), .l (encS v.rd.marked), .i v.rd.top, .i v.rd.at_, .i v.rd.rounds, .i (a.pick.tmod 6)] = _ := ep
    refine ⟨loseM v (a.pick.tmod 6), ?_, ?_⟩
    · simp (disch := omega) only [push_cast, ep']; rfl
    · by_cases V : VV v
      · exact .inl (lose_VV V _)
      · right; unfold loseM; rw [if_neg V]
  have c10 : a.kind = 10 := by omega
  have ep := spec_Clear_eq hsm a.pick
  have ep' : L_spec_Clear none [.i v.width, .i v.limit, .l (encS v.safe), .l (encS v.loose), .i v.st.width, .i v.st.now, .i v.st.given, .i v.st.births, .l (encK v.st.things), .l (encP v.st.pins), .l (encL v.st.leases), .i v.rd.phase, .l (encS v.rd.queue), .l (encS v.rd.marked), .i v.rd.top, .i v.rd.at_, .i v.rd.rounds, .i a.pick] = _ := ep
  cases hr : (if VV v ∧ 0 ≤ a.pick ∧ a.pick ≤ 10000 then clrS a.pick.toNat v [] 0 else none) with
  | none =>
    rw [hr] at ep'
    refine ⟨V0, ?_, .inr rfl⟩
    simp (disch := omega) only [push_cast, ep']; rfl
  | some r =>
    rw [hr] at ep'
    obtain ⟨v', d, u⟩ := r
    refine ⟨v', ?_, .inl ?_⟩
    · simp (disch := omega) only [push_cast, ep']; rfl
    · split at hr
      · rename_i hc; exact clrS_VV _ _ _ _ _ hc.1 hr
      · cases hr
end KV
end
section
namespace KV
open Go Go.Eng
set_option linter.unusedVariables false
set_option linter.unusedSimpArgs false
set_option linter.unusedSectionVars false
open Classical
theorem reached_8 {b : Rw} (hb : RB b) : ∀ (n : Nat) (v : Vault) (p : Int), GV v → 0 ≤ p ∧ p + 20 * n ≤ 999998000 →
    ∃ (v' : Vault) (p' : Int), L_spec_l7Reached (some 8) ([.i (n : Int), .l b, .i p, .i 0, .i 0, .i 0, .i 0, .i 0, .i 0, .i 0, .i 0, .i 0, .i 0] ++ (encV v ++ [.l [], .l [], .l [], .l [], .l [], .l [], .l []])) = some (encV v' ++ [.l b, .i p']) ∧ p ≤ p' ∧ p' ≤ p + 20 * n ∧ GV v' := by
  intro n
  induction n with
  | zero =>
    intro v p hv hp
    refine ⟨v, p, ?_, by omega, by omega, hv⟩
    show L_spec_l7Reached (some 8) [.i ((0 : Nat) : Int), .l b, .i p, .i 0, .i 0, .i 0, .i 0, .i 0, .i 0, .i 0, .i 0, .i 0, .i 0, .i v.width, .i v.limit, .l (encS v.safe), .l (encS v.loose), .i v.st.width, .i v.st.now, .i v.st.given, .i v.st.births, .l (encK v.st.things), .l (encP v.st.pins), .l (encL v.st.leases), .i v.rd.phase, .l (encS v.rd.queue), .l (encS v.rd.marked), .i v.rd.top, .i v.rd.at_, .i v.rd.rounds, .l [], .l [], .l [], .l [], .l [], .l [], .l []] = _
    rw [e_spec_l7Reached_8]
    simp (disch := omega) only [push_cast]
    rfl
  | succ n ih =>
    intro v p hv hp
    obtain ⟨a, p1, ea, h1, h2, ha⟩ := act_ok hb p (by omega)
    obtain ⟨v1, ed, hv1⟩ := l7Done_ok hv ha
    obtain ⟨v2, p2, er, h3, h4, hv2⟩ := ih v1 p1 hv1 (by omega)
    refine ⟨v2, p2, ?_, by omega, by omega, hv2⟩
    show L_spec_l7Reached (some 8) [.i ((n + 1 : Nat) : Int), .l b, .i p, .i 0, .i 0, .i 0, .i 0, .i 0, .i 0, .i 0, .i 0, .i 0, .i 0, .i v.width, .i v.limit, .l (encS v.safe), .l (encS v.loose), .i v.st.width, .i v.st.now, .i v.st.given, .i v.st.births, .l (encK v.st.things), .l (encP v.st.pins), .l (encL v.st.leases), .i v.rd.phase, .l (encS v.rd.queue), .l (encS v.rd.marked), .i v.rd.top, .i v.rd.at_, .i v.rd.rounds, .l [], .l [], .l [], .l [], .l [], .l [], .l []] = _
    rw [e_spec_l7Reached_8, ea]
    have ed' : L_spec_l7Done none [.i v.width, .i v.limit, .l (encS v.safe), .l (encS v.loose), .i v.st.width, .i v.st.now, .i v.st.given, .i v.st.births, .l (encK v.st.things), .l (encP v.st.pins), .l (encL v.st.leases), .i v.rd.phase, .l (encS v.rd.queue), .l (encS v.rd.marked), .i v.rd.top, .i v.rd.at_, .i v.rd.rounds, .i a.kind, .s a.text, .i a.refs, .s a.name, .i a.pick, .i a.ticks] = _ := ed
    unfold encA
    simp only [List.cons_append, List.nil_append]
    simp (disch := omega) only [push_cast, ed']
    rw [show (n : Int) + 1 - 1 = (n : Int) by omega]
    exact er
theorem open_GV (w lim : Int) (hw : w = 1 ∨ w = 2 ∨ w = 8) (hl : 0 ≤ lim ∧ lim ≤ 1000000) : ∃ v, L_spec_Open none [.i w, .i lim, .l [], .l []] = some (encO (.inl v)) ∧ VV v ∧ v.rd = R0 := by
  have := spec_Open_eq w lim [] [] ⟨Nat.zero_le _, fun x hx => nomatch hx⟩ ⟨Nat.zero_le _, fun x hx => nomatch hx⟩ (Nat.zero_le _)
  have hwb : widthB w = true := widthB_iff.2 (by omega)
  have hlog : LogOk [] [] := ⟨(fun x hx => nomatch hx), (fun x hx => nomatch hx), Nat.zero_le _⟩
  have ho : openM w lim [] [] = .inl ⟨w, lim, [], [], empty w, R0⟩ := by
    unfold openM
    rw [if_pos ⟨hwb, hl, hlog⟩]
    simp [runL]
  rw [ho] at this
  refine ⟨_, this, ⟨hwb, hl, hlog, by simp [runL], ?_⟩, rfl⟩
  exact (show RoundOk w 0 R0 from ⟨⟨Int.le_refl _, (by show (0 : Int) ≤ 2; omega)⟩, ⟨Int.le_refl _, (by show (0 : Int) ≤ 1000000000; omega)⟩, Nat.zero_le _, Nat.zero_le _, (fun x hx => nomatch hx), List.nodup_nil, (fun x hx => nomatch hx), fun _ => ⟨rfl, rfl, rfl, rfl⟩, fun h => absurd rfl h⟩)
theorem reached_ok {b : Rw} (hb : RB b) (p : Int) (hp : 0 ≤ p ∧ p ≤ 900000000) : ∃ (v : Vault) (p' : Int), L_spec_l7Reached none [.l b, .i p] = some (encV v ++ [.l b, .i p']) ∧ p ≤ p' ∧ p' ≤ p + 600 ∧ GV v := by
  obtain ⟨x1, e1, r1, s1⟩ := pick_ok hb 6 (by omega) p (by omega)
  have go : ∀ (lim q : Int), 0 ≤ lim ∧ lim ≤ 1000000 → p ≤ q ∧ q ≤ p + 2 → ∃ (w : Int) (v0 : Vault) (x5 x6 : Int), L_spec_l1DrawWidth none [.l b, .i q] = some [.i w, .l b, .i (q + 1)] ∧ L_spec_Open none [.i w, .i lim, .l [], .l []] = some (encO (.inl v0)) ∧ GV v0 ∧ v0.rd = R0 ∧
      L_spec_l1Rd_pick none [.i 14, .l b, .i (q + 1)] = some [.i x5, .l b, .i (q + 1 + 1)] ∧ L_spec_l1Rd_pick none [.i 6, .l b, .i (q + 1 + 1)] = some [.i x6, .l b, .i (q + 1 + 1 + 1)] ∧ 0 ≤ x5 ∧ x5 < 14 := by
    intro lim q hl hq
    obtain ⟨w, ew, hw⟩ := width_ok hb q (by omega)
    obtain ⟨v0, eo, hv, hr⟩ := open_GV w lim hw hl
    obtain ⟨x5, e5, r5, s5⟩ := pick_ok hb 14 (by omega) (q + 1) (by omega)
    obtain ⟨x6, e6, r6, s6⟩ := pick_ok hb 6 (by omega) (q + 1 + 1) (by omega)
    exact ⟨w, v0, x5, x6, ew, eo, .inl hv, hr, e5, e6, by omega, by omega⟩
  have fin : ∀ (v0 : Vault) (x5 x6 q : Int), v0.rd = R0 → GV v0 → 0 ≤ x5 ∧ x5 < 14 → p ≤ q ∧ q ≤ p + 10 → ∃ (v : Vault) (p' : Int), p ≤ p' ∧ p' ≤ p + 600 ∧ GV v ∧ (cond (decide (x6 = 0)) (L_spec_l7Reached (some 8) ([.i (x5 + 12), .l b, .i q, .i 0, .i 0, .i 0, .i 0, .i 0, .i 0, .i 0, .i 0, .i 0, .i 0] ++ (encV v0 ++ [.l [], .l [], .l [], .l [], .l [], .l [], .l []]))) (L_spec_l7Reached (some 8) ([.i x5, .l b, .i q, .i 0, .i 0, .i 0, .i 0, .i 0, .i 0, .i 0, .i 0, .i 0, .i 0] ++ (encV v0 ++ [.l [], .l [], .l [], .l [], .l [], .l [], .l []])))) = some (encV v ++ [.l b, .i p']) := by
    intro v0 x5 x6 q hr hg hx hq
    by_cases c : x6 = 0
    · obtain ⟨n, hn⟩ : ∃ n : Nat, x5 + 12 = n := ⟨(x5 + 12).toNat, by omega⟩
      obtain ⟨v, p', e, h1, h2, h3⟩ := reached_8 hb n v0 q hg (by omega)
      refine ⟨v, p', by omega, by omega, h3, ?_⟩
      rw [decide_eq_true c, cond_true, hn]; exact e
    · obtain ⟨n, hn⟩ : ∃ n : Nat, x5 = n := ⟨x5.toNat, by omega⟩
      obtain ⟨v, p', e, h1, h2, h3⟩ := reached_8 hb n v0 q hg (by omega)
      refine ⟨v, p', by omega, by omega, h3, ?_⟩
      rw [decide_eq_false c, cond_false, hn]; exact e
  rw [e_spec_l7Reached_i, e1]
  by_cases c : x1 = 0
  · obtain ⟨x2, e2, r2, s2⟩ := pick_ok hb 60 (by omega) (p + 1) (by omega)
    obtain ⟨w, v0, x5, x6, ew, eo, hg, hr, e5, e6, h0, h14⟩ := go (20 + x2) (p + 1 + 1) (by omega) (by omega)
    obtain ⟨v, p', h1, h2, h3, e⟩ := fin v0 x5 x6 (p + 1 + 1 + 1 + 1 + 1) hr hg ⟨h0, h14⟩ (by omega)
    refine ⟨v, p', ?_, h1, h2, h3⟩
    unfold encO at eo
    unfold encV at e
    rw [hr] at e
    simp (disch := omega) only [push_cast, e2, ew, eo, e5, e6]
    exact e
  · obtain ⟨w, v0, x5, x6, ew, eo, hg, hr, e5, e6, h0, h14⟩ := go 1000000 (p + 1) (by omega) (by omega)
    obtain ⟨v, p', h1, h2, h3, e⟩ := fin v0 x5 x6 (p + 1 + 1 + 1 + 1) hr hg ⟨h0, h14⟩ (by omega)
    refine ⟨v, p', ?_, h1, h2, h3⟩
    unfold encO at eo
    unfold encV at e
    rw [hr] at e
    simp (disch := omega) only [push_cast, ew, eo, e5, e6]
    exact e
theorem wrS (l : List Bs) (i : Nat) (x : Bs) (h : i < l.length) : wrs (encS l) i 0 [.s x] = encS (l.set i x) := by
  unfold wrs wrs wr encS
  rw [List.map_set]
  congr 1
  have : (l.map fun s => [C.s s]).getD i [] = [C.s (nth .empty l i)] := by rw [nth_get .empty l i h, List.getD_eq_getElem?_getD]; simp [h]
  rw [this]; rfl
theorem drawReplay_9 {b : Rw} (hb : RB b) (p w : Int) (hp : 0 ≤ p ∧ p ≤ 999000000) (v : Vault) (i1 : Int) (l : List Bs) : ∃ w', L_spec_DrawReplay (some 9) [.l b, .i p, .i w, .i v.limit, .l (encS v.safe), .l (encS v.loose), .i v.st.width, .i v.st.now, .i v.st.given, .i v.st.births, .l (encK v.st.things), .l (encP v.st.pins), .l (encL v.st.leases), .i v.rd.phase, .l (encS v.rd.queue), .l (encS v.rd.marked), .i v.rd.top, .i v.rd.at_, .i v.rd.rounds, .l (encS l)] = some [.i w', .l (encS l)] := by
  obtain ⟨x1, e1, r1, s1⟩ := pick_ok hb 12 (by omega) p (by omega)
  obtain ⟨x2, e2, r2, s2⟩ := pick_ok hb 10 (by omega) (p + 1) (by omega)
  rw [e_spec_DrawReplay_9, e1]
  by_cases c : x1 = 0
  · exact ⟨x2, by simp (disch := omega) only [push_cast, e2]⟩
  · exact ⟨w, by simp (disch := omega) only [push_cast]⟩
theorem drawReplay_7 {b : Rw} (hb : RB b) (p : Int) (hp : 0 ≤ p ∧ p ≤ 990000000) (v : Vault) (k : Int) (l : List Bs) (hl : l.length ≤ 4000) (hz : ∀ x ∈ l, x.size ≤ 5003) (hk : 0 ≤ k ∧ (k < l.length ∨ k = 0)) : ∃ (w' : Int) (l' : List Bs), L_spec_DrawReplay (some 7) [.i k, .l b, .i p, .i v.width, .i v.limit, .l (encS v.safe), .l (encS v.loose), .i v.st.width, .i v.st.now, .i v.st.given, .i v.st.births, .l (encK v.st.things), .l (encP v.st.pins), .l (encL v.st.leases), .i v.rd.phase, .l (encS v.rd.queue), .l (encS v.rd.marked), .i v.rd.top, .i v.rd.at_, .i v.rd.rounds, .l (encS l)] = some [.i w', .l (encS l')] ∧ l'.length ≤ 4000 ∧ ∀ x ∈ l', x.size ≤ 5003 := by
  obtain ⟨x1, e1, r1, s1⟩ := pick_ok hb 6 (by omega) p (by omega)
  rw [e_spec_DrawReplay_7, mostE]
  by_cases c0 : 1 < l.length
  · by_cases c : x1 = 0
    · obtain ⟨n, rfl⟩ : ∃ n : Nat, k = n := ⟨k.toNat, by omega⟩
      have hnl : n < l.length := by omega
      obtain ⟨w', e9⟩ := drawReplay_9 hb (p + 1) v.width (by omega) v 0 (l.take n ++ l.drop (n + 1))
      have s1 : Eng.sub (encS l) 0 n = encS (l.take n) := by rw [encS_sub]; simp
      have s2 : Eng.sub (encS l) (n + 1) l.length = encS (l.drop (n + 1)) := by rw [encS_sub, List.take_of_length_le (by rw [List.length_drop]; exact Nat.le_refl _)]
      have l1 : (l.take n).length = n := by rw [List.length_take]; omega
      have l2 : (l.drop (n + 1)).length = l.length - (n + 1) := List.length_drop
      refine ⟨w', l.take n ++ l.drop (n + 1), ?_, by rw [List.length_append]; omega, fun x hx => ?_⟩
      · rw [← encS_app] at e9
        have l3 : (encS (l.take n) ++ encS (l.drop (n + 1))).length = (l.take n).length + (l.drop (n + 1)).length := by rw [List.length_append, encS_len, encS_len]
        simp (disch := omega) only [push_cast, e1, s1, s2, List.nil_append]
        rw [← encS_app]
        exact e9
      · rcases List.mem_append.1 hx with h | h
        · exact hz x (List.mem_of_mem_take h)
        · exact hz x (List.mem_of_mem_drop h)
    · obtain ⟨w', e9⟩ := drawReplay_9 hb (p + 1) v.width (by omega) v 0 l
      exact ⟨w', l, by simp (disch := omega) only [push_cast, e1]; exact e9, hl, hz⟩
  · obtain ⟨w', e9⟩ := drawReplay_9 hb p v.width (by omega) v 0 l
    exact ⟨w', l, by simp (disch := omega) only [push_cast]; exact e9, hl, hz⟩
theorem GV.log {v : Vault} (h : GV v) : v.safe.length + v.loose.length ≤ 4000 ∧ (∀ x ∈ v.safe ++ v.loose, x.size ≤ 5000) := by
  rcases h with h | rfl
  · refine ⟨h.log.n, fun x hx => ?_⟩
    rcases List.mem_append.1 hx with h1 | h1
    · exact h.log.sa x h1
    · exact h.log.sb x h1
  · exact ⟨Nat.zero_le _, fun x hx => nomatch hx⟩
theorem drawReplay_ok {c : Rw} (hc : ∀ i, 0 ≤ (rd c i 0).int ∧ (rd c i 0).int ≤ 255) : ∃ (w : Int) (l : List Bs), L_spec_DrawReplay none [.l c] = some [.i w, .l (encS l)] ∧ l.length ≤ 4000 ∧ ∀ x ∈ l, x.size ≤ 5003 := by
  obtain ⟨b, hop, hb⟩ := open_ok hc
  obtain ⟨v, p1, e1, h1, h2, hg⟩ := reached_ok hb 0 (by omega)
  have hlog := hg.log
  have hll : (v.safe ++ v.loose).length = v.safe.length + v.loose.length := List.length_append
  obtain ⟨l, hlE⟩ : ∃ l, v.safe ++ v.loose = l := ⟨_, rfl⟩
  have eall := spec_l7All_eq v.safe v.loose (by omega)
  rw [hlE] at eall hll
  have hz : ∀ x ∈ l, x.size ≤ 5000 := by rw [← hlE]; exact hlog.2
  obtain ⟨x4, e4, r4, s4⟩ := pick_ok hb (l.length : Int) (by omega) p1 (by omega)
  rw [e_spec_DrawReplay_i, hop]
  unfold encV at e1
  simp only [List.cons_append, List.nil_append] at e1
  by_cases c0 : 0 < l.length
  · obtain ⟨x5, e5, r5, s5⟩ := pick_ok hb 4 (by omega) (p1 + 1) (by omega)
    by_cases c1 : x5 = 0
    · obtain ⟨n, hn⟩ : ∃ n : Nat, x4 = n := ⟨x4.toNat, by omega⟩
      have hnl : n < l.length := by omega
      obtain ⟨r, p2, e6, h3, h4, h5⟩ := bend_ok hb (nth .empty l n) (by have := hz _ (nth_mem (d := .empty) hnl); omega) (p1 + 1 + 1) (by omega)
      obtain ⟨w, l', e7, h6, h7⟩ := drawReplay_7 hb p2 (by omega) v (n : Int) (l.set n r) (by rw [List.length_set]; omega) (fun x hx => by
        rcases List.mem_or_eq_of_mem_set hx with h | h
        · have := hz x h; omega
        · rw [h]; have := hz _ (nth_mem (d := .empty) hnl); omega) (by rw [List.length_set]; omega)
      refine ⟨w, l', ?_, h6, h7⟩
      have hw := wrS l n r hnl
      simp (disch := omega) only [push_cast, e1, eall, e4, e5, hn, e6, hw]
      exact e7
    · obtain ⟨w, l', e7, h6, h7⟩ := drawReplay_7 hb (p1 + 1 + 1) (by omega) v x4 l (by omega) (fun x hx => by have := hz x hx; omega) (by omega)
      refine ⟨w, l', ?_, h6, h7⟩
      simp (disch := omega) only [push_cast, e1, eall, e4, e5]
      exact e7
  · obtain ⟨w, l', e7, h6, h7⟩ := drawReplay_7 hb (p1 + 1) (by omega) v x4 l (by omega) (fun x hx => by have := hz x hx; omega) (by omega)
    refine ⟨w, l', ?_, h6, h7⟩
    simp (disch := omega) only [push_cast, e1, eall, e4]
    exact e7
end KV
end
section
namespace KV
open Go Go.Eng
set_option linter.unusedVariables false
set_option linter.unusedSimpArgs false
set_option linter.unusedSectionVars false
open Classical
theorem adj_iff {α : Type} (d : α) {R : α → α → Prop} (tr : ∀ a b c, R a b → R b c → R a c) (l : List α) : l.Pairwise R ↔ ∀ j, 0 < j → j < l.length → R (nth d l (j - 1)) (nth d l j) := by
  constructor
  · intro h j h1 h2; exact pair_nth d h (by omega) h2
  · intro h
    rw [List.pairwise_iff_getElem]
    intro i j hi hj hij
    rw [← nth_get d l i hi, ← nth_get d l j hj]
    have : ∀ k, i + k + 1 < l.length → R (nth d l i) (nth d l (i + k + 1)) := by
      intro k
      induction k with
      | zero => intro hk; have := h (i + 1) (by omega) hk; rwa [Nat.add_sub_cancel] at this
      | succ k ih => intro hk; exact tr _ _ _ (ih (by omega)) (by have := h (i + (k + 1) + 1) (by omega) hk; rwa [Nat.add_sub_cancel] at this)
    have := this (j - i - 1) (by omega)
    rwa [show i + (j - i - 1) + 1 = j by omega] at this
def setI (ks : List Int) : List (C × C) := ks.map fun k => (.i k, .b true)
theorem ceq_i (k : IntKind) (x y : Int) : ceq (.i k) (.i x) (.i y) = decide (x = y) := by
  show (x == y) = _
  by_cases h : x = y
  · subst h; simp
  · simp [h]
theorem mget_setI (x : Int) : ∀ ks : List Int, mget (.i .i64) (.i x) (setI ks) = if x ∈ ks then some (.b true) else none
  | [] => by simp [setI, mget]
  | k :: ks => by
    show cond (ceq (.i .i64) (.i x) (.i k)) (some (.b true)) (mget (.i .i64) (.i x) (setI ks)) = _
    rw [ceq_i, mget_setI x ks]
    by_cases h : x = k
    · subst h; simp
    · simp [h]
theorem mput_setI (x : Int) : ∀ ks : List Int, x ∉ ks → mput (.i .i64) (.i x) (.b true) (setI ks) = setI (ks ++ [x])
  | [], _ => by simp [setI, mput]
  | k :: ks, h => by
    show cond (ceq (.i .i64) (.i x) (.i k)) _ _ = _
    rw [ceq_i, decide_eq_false (fun e => h (by rw [e]; simp)), cond_false]
    show (C.i k, C.b true) :: mput (.i .i64) (.i x) (.b true) (setI ks) = _
    rw [mput_setI x ks (fun e => h (by simp [e]))]; rfl
theorem inI (x : Int) (ks : List Int) : (((mget (.i .i64) (.i x) (setI ks)).getD (.b false)).bool) = decide (x ∈ ks) := by
  rw [mget_setI]
  by_cases h : x ∈ ks
  · rw [if_pos h, decide_eq_true h]; rfl
  · rw [if_neg h, decide_eq_false h]; rfl
def bsT (T : List Kept) (i : Nat) : List Int := (T.take i).map (·.born)
theorem bsT_S (T : List Kept) (i : Nat) (h : i < T.length) : bsT T (i + 1) = bsT T i ++ [(nth K0 T i).born] := by
  unfold bsT
  rw [nth_get K0 T i h, List.take_add_one, List.map_append, List.getElem?_eq_getElem h]; rfl
structure tP (w births : Int) (T : List Kept) (j : Nat) : Prop where
  adj : 0 < j → slt (nth K0 T (j - 1)).sum (nth K0 T j).sum = true
  ok : ThingOk (nth K0 T j).thing w
  sum : (nth K0 T j).sum = sumM (formM (nth K0 T j).thing) w
  lo : 1 ≤ (nth K0 T j).born
  hi : (nth K0 T j).born ≤ births
  new : (nth K0 T j).born ∉ bsT T j
theorem nd_iff (T : List Kept) : (T.map (·.born)).Nodup ↔ ∀ j, 0 ≤ j → j < T.length → (nth K0 T j).born ∉ bsT T j := by
  constructor
  · intro h j _ hj hm
    obtain ⟨a, ha, he⟩ := List.mem_map.1 hm
    obtain ⟨i, hi, rfl⟩ := List.mem_iff_getElem.1 ha
    rw [List.length_take] at hi
    rw [List.getElem_take] at he
    have := List.pairwise_iff_getElem.1 h i j (by rw [List.length_map]; omega) (by rw [List.length_map]; omega) (by omega)
    rw [List.getElem_map, List.getElem_map] at this
    rw [nth_get K0 T j hj] at he
    exact this he
  · intro h
    rw [List.Nodup, List.pairwise_iff_getElem]
    intro i j hi hj hij he
    rw [List.length_map] at hi hj
    rw [List.getElem_map, List.getElem_map] at he
    apply h j (Nat.zero_le _) hj
    rw [nth_get K0 T j hj, ← he]
    exact List.mem_map.2 ⟨_, List.mem_take_iff_getElem.2 ⟨i, by omega, rfl⟩, rfl⟩
theorem tP_all (w births : Int) (T : List Kept) : (∀ j, 0 ≤ j → j < T.length → tP w births T j) ↔ SrtK T ∧ (∀ k ∈ T, ThingOk k.thing w ∧ k.sum = sumM (formM k.thing) w ∧ 1 ≤ k.born ∧ k.born ≤ births) ∧ (T.map (·.born)).Nodup := by
  rw [nd_iff, show SrtK T ↔ _ from adj_iff K0 (R := fun a b => slt a.sum b.sum = true) (fun a b c h1 h2 => slt_trans h1 h2) T]
  constructor
  · intro h
    refine ⟨fun j h1 h2 => (h j (by omega) h2).adj h1, fun k hk => ?_, fun j h1 h2 => (h j h1 h2).new⟩
    obtain ⟨j, hj, rfl⟩ := mem_nth K0 hk
    have := h j (Nat.zero_le _) hj
    exact ⟨this.ok, this.sum, this.lo, this.hi⟩
  · rintro ⟨h1, h2, h3⟩ j h4 h5
    have := h2 _ (nth_mem (d := K0) h5)
    exact ⟨fun h => h1 j h h5, this.1, this.2.1, this.2.2.1, this.2.2.2, h3 j h4 h5⟩
def refIn (T : List Kept) (b : Int) (r : Bs) : Prop := hasT T r ∧ (nth K0 T (lb (qK r) T)).born < b
theorem refIn_iff {T : List Kept} (h : SrtK T) (b : Int) (r : Bs) : refIn T b r ↔ ∃ j ∈ T, j.sum = r ∧ j.born < b := by
  constructor
  · rintro ⟨h1, h2⟩
    obtain ⟨h3, h4⟩ := (hasT_iff h r).1 h1
    exact ⟨_, nth_mem h3, h4, h2⟩
  · rintro ⟨k, hk, rfl, hb⟩
    obtain ⟨j, hj, rfl⟩ := mem_nth K0 hk
    have := key_at K0 h (kp (nth K0 T j).sum) (kR (nth K0 T j).sum) hj rfl
    refine ⟨⟨_, nth_mem hj, rfl⟩, ?_⟩
    rw [← this]; exact hb
structure pP (T : List Kept) (P : List Pin) (j : Nat) : Prop where
  has : hasT T (nth P0 P j).sum
  nm : NameOk (nth P0 P j).name
  adj : 0 < j → slt (nth P0 P (j - 1)).name (nth P0 P j).name = true
theorem pP_all (T : List Kept) (P : List Pin) : (∀ j, 0 ≤ j → j < P.length → pP T P j) ↔ SrtP P ∧ ∀ p ∈ P, NameOk p.name ∧ hasT T p.sum := by
  rw [show SrtP P ↔ _ from adj_iff P0 (R := fun a b => slt a.name b.name = true) (fun a b c h1 h2 => slt_trans h1 h2) P]
  constructor
  · intro h
    refine ⟨fun j h1 h2 => (h j (by omega) h2).adj h1, fun k hk => ?_⟩
    obtain ⟨j, hj, rfl⟩ := mem_nth P0 hk
    have := h j (Nat.zero_le _) hj
    exact ⟨this.nm, this.has⟩
  · rintro ⟨h1, h2⟩ j h4 h5
    have := h2 _ (nth_mem (d := P0) h5)
    exact ⟨this.2, this.1, fun h => h1 j h h5⟩
structure lP (now given : Int) (T : List Kept) (L : List Lease) (j : Nat) : Prop where
  has : hasT T (nth L0 L j).sum
  lo : 1 ≤ (nth L0 L j).number
  hi : (nth L0 L j).number ≤ given
  adj : 0 < j → (nth L0 L (j - 1)).number < (nth L0 L j).number
  t1 : now < (nth L0 L j).till
  t2 : (nth L0 L j).till ≤ now + 100000
theorem lP_all (now given : Int) (T : List Kept) (L : List Lease) : (∀ j, 0 ≤ j → j < L.length → lP now given T L j) ↔ SrtL L ∧ ∀ l ∈ L, 1 ≤ l.number ∧ l.number ≤ given ∧ hasT T l.sum ∧ now < l.till ∧ l.till ≤ now + 100000 := by
  rw [show SrtL L ↔ _ from adj_iff L0 (R := fun a b => a.number < b.number) (fun a b c h1 h2 => Int.lt_trans h1 h2) L]
  constructor
  · intro h
    refine ⟨fun j h1 h2 => (h j (by omega) h2).adj h1, fun k hk => ?_⟩
    obtain ⟨j, hj, rfl⟩ := mem_nth L0 hk
    have := h j (Nat.zero_le _) hj
    exact ⟨this.lo, this.hi, this.has, this.t1, this.t2⟩
  · rintro ⟨h1, h2⟩ j h4 h5
    have := h2 _ (nth_mem (d := L0) h5)
    exact ⟨this.2.2.1, this.1, this.2.1, fun h => h1 j h h5, this.2.2.2.1, this.2.2.2.2⟩
theorem vs_iff (s : State) : VS s ↔ (1 ≤ s.width ∧ s.width ≤ 8) ∧ (0 ≤ s.now ∧ s.now ≤ 1000000000) ∧ (0 ≤ s.given ∧ s.given ≤ 1000000000) ∧ (0 ≤ s.births ∧ s.births ≤ 1000000000) ∧ s.things.length ≤ 600 ∧ s.pins.length ≤ 100 ∧ s.leases.length ≤ 200 ∧
    (∀ j, 0 ≤ j → j < s.things.length → tP s.width s.births s.things j) ∧ (∀ j, 0 ≤ j → j < s.things.length → ∀ i, 0 ≤ i → i < (nth K0 s.things j).thing.refs.length → refIn s.things (nth K0 s.things j).born (nth .empty (nth K0 s.things j).thing.refs i)) ∧
    (∀ j, 0 ≤ j → j < s.pins.length → pP s.things s.pins j) ∧ (∀ j, 0 ≤ j → j < s.leases.length → lP s.now s.given s.things s.leases j) := by
  rw [tP_all, pP_all, lP_all]
  constructor
  · intro V
    refine ⟨V.wd, V.now, V.given, V.births, V.nT, V.nP, V.nL, ⟨V.srtT, V.okT, V.ndT⟩, fun j _ hj i _ hi => (refIn_iff V.srtT _ _).2 (V.refs _ (nth_mem hj) _ (nth_mem hi)), ⟨V.srtP, V.okP⟩, ⟨V.srtL, V.okL⟩⟩
  · rintro ⟨a, b, c, d, e, f, g, ⟨h1, h2, h3⟩, i, ⟨j1, j2⟩, ⟨k1, k2⟩⟩
    refine ⟨a, b, c, d, e, f, g, h1, h2, h3, fun k hk r hr => ?_, j1, j2, k1, k2⟩
    obtain ⟨m, hm, rfl⟩ := mem_nth K0 hk
    obtain ⟨n, hn, rfl⟩ := mem_nth .empty hr
    exact (refIn_iff h1 _ _).1 (i m (Nat.zero_le _) hm n (Nat.zero_le _) hn)
section
variable {s : State}
theorem ivs_30 (hn : 0 ≤ s.now ∧ s.now ≤ 1000000000) (hT : SrtK s.things) (nT : s.things.length ≤ 600) (nL : s.leases.length ≤ 200) : L_impl_ValidState (some 30) [.l (encL s.leases), .i (s.leases.length : Int), .i 0, .i s.width, .i s.now, .i s.given, .i s.births, .l (encK s.things), .l (encP s.pins), .l (encL s.leases)]
    = if (∀ j, 0 ≤ j → j < s.leases.length → lP s.now s.given s.things s.leases j) then some [.b true] else some [.b false] := by
  refine all_loop (f := fun i : Nat => L_impl_ValidState (some 30) [.l (encL s.leases), .i (s.leases.length : Int), .i (i : Int), .i s.width, .i s.now, .i s.given, .i s.births, .l (encK s.things), .l (encP s.pins), .l (encL s.leases)]) (fun i hi => ?_) ?_ 0 (Nat.zero_le _)
  · show (_ → L_impl_ValidState _ _ = L_impl_ValidState _ _) ∧ (_ → L_impl_ValidState _ _ = _)
    rw [e_impl_ValidState_30]
    simp (disch := omega) only [push_cast, impl_thing_eq s.width s.now s.given s.births s.things (encP s.pins) (encL s.leases) (nth L0 s.leases i).sum hT (by omega)]
    by_cases c1 : hasT s.things (nth L0 s.leases i).sum
    rotate_left; · exact ⟨fun h => absurd h.has c1, fun _ => by simp (disch := omega) only [push_cast]⟩
    by_cases c2 : 1 ≤ (nth L0 s.leases i).number
    rotate_left; · exact ⟨fun h => absurd h.lo c2, fun _ => by simp (disch := omega) only [push_cast]⟩
    by_cases c3 : (nth L0 s.leases i).number ≤ s.given
    rotate_left; · exact ⟨fun h => absurd h.hi c3, fun _ => by simp (disch := omega) only [push_cast]⟩
    by_cases c0 : 0 < i
    · by_cases c4 : (nth L0 s.leases (i - 1)).number < (nth L0 s.leases i).number
      rotate_left; · exact ⟨fun h => absurd (h.adj c0) c4, fun _ => by simp (disch := omega) only [push_cast]⟩
      by_cases c5 : s.now < (nth L0 s.leases i).till
      rotate_left; · exact ⟨fun h => absurd h.t1 c5, fun _ => by simp (disch := omega) only [push_cast]⟩
      by_cases c6 : (nth L0 s.leases i).till ≤ s.now + 100000
      rotate_left; · exact ⟨fun h => absurd h.t2 c6, fun _ => by simp (disch := omega) only [push_cast]⟩
      exact ⟨fun _ => by simp (disch := omega) only [push_cast] <;> rfl, fun h => absurd ⟨c1, c2, c3, fun _ => c4, c5, c6⟩ h⟩
    · by_cases c5 : s.now < (nth L0 s.leases i).till
      rotate_left; · exact ⟨fun h => absurd h.t1 c5, fun _ => by simp (disch := omega) only [push_cast]⟩
      by_cases c6 : (nth L0 s.leases i).till ≤ s.now + 100000
      rotate_left; · exact ⟨fun h => absurd h.t2 c6, fun _ => by simp (disch := omega) only [push_cast]⟩
      exact ⟨fun _ => by simp (disch := omega) only [push_cast] <;> rfl, fun h => absurd ⟨c1, c2, c3, fun h => absurd h c0, c5, c6⟩ h⟩
  · show L_impl_ValidState _ _ = _
    rw [e_impl_ValidState_30]; simp (disch := omega) only [push_cast]
theorem ivs_23 (hT : SrtK s.things) (nT : s.things.length ≤ 600) (nP : s.pins.length ≤ 100) (hN : ∀ p ∈ s.pins, p.name.size ≤ 4611686018427387904) : L_impl_ValidState (some 23) [.l (encP s.pins), .i (s.pins.length : Int), .i 0, .i s.width, .i s.now, .i s.given, .i s.births, .l (encK s.things), .l (encP s.pins), .l (encL s.leases)]
    = if (∀ j, 0 ≤ j → j < s.pins.length → pP s.things s.pins j) then L_impl_ValidState (some 30) [.l (encL s.leases), .i (s.leases.length : Int), .i 0, .i s.width, .i s.now, .i s.given, .i s.births, .l (encK s.things), .l (encP s.pins), .l (encL s.leases)] else some [.b false] := by
  refine all_loop (f := fun i : Nat => L_impl_ValidState (some 23) [.l (encP s.pins), .i (s.pins.length : Int), .i (i : Int), .i s.width, .i s.now, .i s.given, .i s.births, .l (encK s.things), .l (encP s.pins), .l (encL s.leases)]) (fun i hi => ?_) ?_ 0 (Nat.zero_le _)
  · show (_ → L_impl_ValidState _ _ = L_impl_ValidState _ _) ∧ (_ → L_impl_ValidState _ _ = _)
    rw [e_impl_ValidState_23]
    simp (disch := omega) only [push_cast, impl_thing_eq s.width s.now s.given s.births s.things (encP s.pins) (encL s.leases) (nth P0 s.pins i).sum hT (by omega), impl_nameOk_eq (nth P0 s.pins i).name (hN _ (nth_mem hi))]
    by_cases c1 : hasT s.things (nth P0 s.pins i).sum
    rotate_left; · exact ⟨fun h => absurd h.has c1, fun _ => by simp (disch := omega) only [push_cast]⟩
    by_cases c2 : NameOk (nth P0 s.pins i).name
    rotate_left; · exact ⟨fun h => absurd h.nm c2, fun _ => by unfold nameB; simp (disch := omega) only [push_cast]⟩
    unfold nameB
    by_cases c0 : 0 < i
    · cases c4 : slt (nth P0 s.pins (i - 1)).name (nth P0 s.pins i).name
      · exact ⟨fun h => absurd (h.adj c0) (by simp [c4]), fun _ => by simp (disch := omega) only [push_cast, c4]⟩
      · exact ⟨fun _ => by simp (disch := omega) only [push_cast, c4] <;> rfl, fun h => absurd ⟨c1, c2, fun _ => c4⟩ h⟩
    · exact ⟨fun _ => by simp (disch := omega) only [push_cast] <;> rfl, fun h => absurd ⟨c1, c2, fun h => absurd h c0⟩ h⟩
  · show L_impl_ValidState _ _ = _
    rw [e_impl_ValidState_23]; simp (disch := omega) only [push_cast]
theorem ivs_12 (hT : SrtK s.things) (nT : s.things.length ≤ 600) (hR : ∀ k ∈ s.things, k.thing.refs.length ≤ 30) : L_impl_ValidState (some 12) [.l (encK s.things), .i (s.things.length : Int), .i 0, .i s.width, .i s.now, .i s.given, .i s.births, .l (encK s.things), .l (encP s.pins), .l (encL s.leases)]
    = if (∀ j, 0 ≤ j → j < s.things.length → ∀ i, 0 ≤ i → i < (nth K0 s.things j).thing.refs.length → refIn s.things (nth K0 s.things j).born (nth .empty (nth K0 s.things j).thing.refs i)) then L_impl_ValidState (some 23) [.l (encP s.pins), .i (s.pins.length : Int), .i 0, .i s.width, .i s.now, .i s.given, .i s.births, .l (encK s.things), .l (encP s.pins), .l (encL s.leases)] else some [.b false] := by
  refine all_loop (f := fun i : Nat => L_impl_ValidState (some 12) [.l (encK s.things), .i (s.things.length : Int), .i (i : Int), .i s.width, .i s.now, .i s.given, .i s.births, .l (encK s.things), .l (encP s.pins), .l (encL s.leases)]) (P := fun j => ∀ i, 0 ≤ i → i < (nth K0 s.things j).thing.refs.length → refIn s.things (nth K0 s.things j).born (nth .empty (nth K0 s.things j).thing.refs i)) (fun i hi => ?_) ?_ 0 (Nat.zero_le _)
  · have hr := hR _ (nth_mem (d := K0) hi)
    have inner := all_loop (f := fun j : Nat => L_impl_ValidState (some 15) [.l (encK s.things), .i (s.things.length : Int), .i (i : Int), .l (encS (nth K0 s.things i).thing.refs), .i ((nth K0 s.things i).thing.refs.length : Int), .i (j : Int), .i s.width, .i s.now, .i s.given, .i s.births, .l (encK s.things), .l (encP s.pins), .l (encL s.leases), .s (nth K0 s.things i).sum, .i (nth K0 s.things i).born, .s (nth K0 s.things i).thing.text, .l (encS (nth K0 s.things i).thing.refs)])
      (P := fun j => refIn s.things (nth K0 s.things i).born (nth .empty (nth K0 s.things i).thing.refs j)) (n := (nth K0 s.things i).thing.refs.length) (T := L_impl_ValidState (some 12) [.l (encK s.things), .i (s.things.length : Int), .i ((i + 1 : Nat) : Int), .i s.width, .i s.now, .i s.given, .i s.births, .l (encK s.things), .l (encP s.pins), .l (encL s.leases)]) (F := some [.b false])
      (fun j hj => by
        show (_ → L_impl_ValidState _ _ = L_impl_ValidState _ _) ∧ (_ → L_impl_ValidState _ _ = _)
        rw [e_impl_ValidState_15]
        simp (disch := omega) only [push_cast, impl_thing_eq s.width s.now s.given s.births s.things (encP s.pins) (encL s.leases) (nth .empty (nth K0 s.things i).thing.refs j) hT (by omega)]
        by_cases c1 : hasT s.things (nth .empty (nth K0 s.things i).thing.refs j)
        rotate_left; · exact ⟨fun h => absurd h.1 c1, fun _ => by simp (disch := omega) only [push_cast]⟩
        have hl := ((hasT_iff hT _).1 c1).1
        by_cases c2 : (nth K0 s.things (lb (qK (nth .empty (nth K0 s.things i).thing.refs j)) s.things)).born < (nth K0 s.things i).born
        rotate_left; · exact ⟨fun h => absurd h.2 c2, fun _ => by simp (disch := omega) only [push_cast]⟩
        exact ⟨fun _ => by simp (disch := omega) only [push_cast] <;> rfl, fun h => absurd ⟨c1, c2⟩ h⟩)
      (by show L_impl_ValidState _ _ = L_impl_ValidState _ _; rw [e_impl_ValidState_15]; simp (disch := omega) only [push_cast] <;> rfl) 0 (Nat.zero_le _)
    show (_ → L_impl_ValidState _ _ = L_impl_ValidState _ _) ∧ (_ → L_impl_ValidState _ _ = _)
    rw [e_impl_ValidState_12]
    simp (disch := omega) only [push_cast]
    have inner' : L_impl_ValidState (some 15) [.l (encK s.things), .i (s.things.length : Int), .i (i : Int), .l (encS (nth K0 s.things i).thing.refs), .i ((nth K0 s.things i).thing.refs.length : Int), .i 0, .i s.width, .i s.now, .i s.given, .i s.births, .l (encK s.things), .l (encP s.pins), .l (encL s.leases), .s (nth K0 s.things i).sum, .i (nth K0 s.things i).born, .s (nth K0 s.things i).thing.text, .l (encS (nth K0 s.things i).thing.refs)] = _ := inner
    rw [inner']
    exact ⟨fun h => if_pos h, fun h => if_neg h⟩
  · show L_impl_ValidState _ _ = _
    rw [e_impl_ValidState_12]; simp (disch := omega) only [push_cast]
theorem ivs_5 (nT : s.things.length ≤ 600) : L_impl_ValidState (some 5) [.l (encK s.things), .i (s.things.length : Int), .i 0, .i s.width, .i s.now, .i s.given, .i s.births, .l (encK s.things), .l (encP s.pins), .l (encL s.leases), .m []]
    = if (∀ j, 0 ≤ j → j < s.things.length → tP s.width s.births s.things j) then L_impl_ValidState (some 12) [.l (encK s.things), .i (s.things.length : Int), .i 0, .i s.width, .i s.now, .i s.given, .i s.births, .l (encK s.things), .l (encP s.pins), .l (encL s.leases)] else some [.b false] := by
  refine all_loop (f := fun i : Nat => L_impl_ValidState (some 5) [.l (encK s.things), .i (s.things.length : Int), .i (i : Int), .i s.width, .i s.now, .i s.given, .i s.births, .l (encK s.things), .l (encP s.pins), .l (encL s.leases), .m (setI (bsT s.things i))]) (fun i hi => ?_) ?_ 0 (Nat.zero_le _)
  · show (_ → L_impl_ValidState _ _ = L_impl_ValidState _ _) ∧ (_ → L_impl_ValidState _ _ = _)
    rw [e_impl_ValidState_5, bsT_S _ _ hi]
    by_cases c1 : ThingOk (nth K0 s.things i).thing s.width
    rotate_left
    · refine ⟨fun h => absurd h.ok c1, fun _ => ?_⟩
      have : thingB (nth K0 s.things i).thing s.width = false := decide_eq_false c1
      by_cases c0 : 0 < i
      · cases c4 : slt (nth K0 s.things (i - 1)).sum (nth K0 s.things i).sum <;> simp (disch := omega) only [push_cast, impl_thingOk_eq, c4, this]
      · simp (disch := omega) only [push_cast, impl_thingOk_eq, this]
    have ht : thingB (nth K0 s.things i).thing s.width = true := decide_eq_true c1
    have hz : (formM (nth K0 s.things i).thing).size ≤ 1099511627776 := by
      rw [formM_size]; have := okForm c1; omega
    by_cases c2 : (nth K0 s.things i).sum = sumM (formM (nth K0 s.things i).thing) s.width
    rotate_left
    · refine ⟨fun h => absurd h.sum c2, fun _ => ?_⟩
      by_cases c0 : 0 < i
      · cases c4 : slt (nth K0 s.things (i - 1)).sum (nth K0 s.things i).sum <;> simp (disch := omega) only [push_cast, impl_thingOk_eq, c4, ht, impl_form_ok c1, impl_Sum_eq _ s.width hz]
      · simp (disch := omega) only [push_cast, impl_thingOk_eq, ht, impl_form_ok c1, impl_Sum_eq _ s.width hz]
    by_cases c3 : 1 ≤ (nth K0 s.things i).born
    rotate_left
    · refine ⟨fun h => absurd h.lo c3, fun _ => ?_⟩
      by_cases c0 : 0 < i
      · cases c4 : slt (nth K0 s.things (i - 1)).sum (nth K0 s.things i).sum <;> simp (disch := omega) only [push_cast, impl_thingOk_eq, c4, ht, impl_form_ok c1, impl_Sum_eq _ s.width hz]
      · simp (disch := omega) only [push_cast, impl_thingOk_eq, ht, impl_form_ok c1, impl_Sum_eq _ s.width hz]
    by_cases c5 : (nth K0 s.things i).born ≤ s.births
    rotate_left
    · refine ⟨fun h => absurd h.hi c5, fun _ => ?_⟩
      by_cases c0 : 0 < i
      · cases c4 : slt (nth K0 s.things (i - 1)).sum (nth K0 s.things i).sum <;> simp (disch := omega) only [push_cast, impl_thingOk_eq, c4, ht, impl_form_ok c1, impl_Sum_eq _ s.width hz]
      · simp (disch := omega) only [push_cast, impl_thingOk_eq, ht, impl_form_ok c1, impl_Sum_eq _ s.width hz]
    by_cases c6 : (nth K0 s.things i).born ∈ bsT s.things i
    · refine ⟨fun h => absurd c6 h.new, fun _ => ?_⟩
      by_cases c0 : 0 < i
      · cases c4 : slt (nth K0 s.things (i - 1)).sum (nth K0 s.things i).sum <;> simp (disch := omega) only [push_cast, impl_thingOk_eq, c4, ht, impl_form_ok c1, impl_Sum_eq _ s.width hz, inI]
      · simp (disch := omega) only [push_cast, impl_thingOk_eq, ht, impl_form_ok c1, impl_Sum_eq _ s.width hz, inI]
    by_cases c0 : 0 < i
    · cases c4 : slt (nth K0 s.things (i - 1)).sum (nth K0 s.things i).sum
      · exact ⟨fun h => absurd (h.adj c0) (by simp [c4]), fun _ => by simp (disch := omega) only [push_cast, c4]⟩
      · exact ⟨fun _ => by simp (disch := omega) only [push_cast, impl_thingOk_eq, c4, ht, impl_form_ok c1, impl_Sum_eq _ s.width hz, ← c2, inI, mput_setI _ _ c6] <;> rfl, fun h => absurd ⟨fun _ => c4, c1, c2, c3, c5, c6⟩ h⟩
    · exact ⟨fun _ => by simp (disch := omega) only [push_cast, impl_thingOk_eq, ht, impl_form_ok c1, impl_Sum_eq _ s.width hz, ← c2, inI, mput_setI _ _ c6] <;> rfl, fun h => absurd ⟨fun h => absurd h c0, c1, c2, c3, c5, c6⟩ h⟩
  · show L_impl_ValidState _ _ = _
    rw [e_impl_ValidState_5]; simp (disch := omega) only [push_cast]
theorem impl_ValidState_eq (s : State) (hN : ∀ p ∈ s.pins, p.name.size ≤ 4611686018427387904) : L_impl_ValidState none (encSt s) = some [.b (decide (VS s))] := by
  unfold encSt
  rw [e_impl_ValidState_i]
  have hv := vs_iff s
  by_cases h1 : 1 ≤ s.width ∧ s.width ≤ 8
  rotate_left; · rw [decide_eq_false fun V : VS s => h1 V.wd]; have : widthB s.width = false := by cases h : widthB s.width; { rfl }; { exact absurd (widthB_iff.1 h) h1 }
                 simp (disch := omega) only [push_cast, impl_widthOk_eq, this]
  have hw : widthB s.width = true := widthB_iff.2 h1
  by_cases h2 : 0 ≤ s.now ∧ s.now ≤ 1000000000
  rotate_left; · rw [decide_eq_false fun V : VS s => h2 V.now]; simp (disch := omega) only [push_cast, impl_widthOk_eq, hw, impl_timeOk_eq]
  by_cases h3 : 0 ≤ s.given ∧ s.given ≤ 1000000000
  rotate_left; · rw [decide_eq_false fun V : VS s => h3 V.given]; simp (disch := omega) only [push_cast, impl_widthOk_eq, hw, impl_timeOk_eq]
  by_cases h4 : 0 ≤ s.births ∧ s.births ≤ 1000000000
  rotate_left; · rw [decide_eq_false fun V : VS s => h4 V.births]; simp (disch := omega) only [push_cast, impl_widthOk_eq, hw, impl_timeOk_eq]
  by_cases h5 : s.things.length ≤ 600
  rotate_left; · rw [decide_eq_false fun V : VS s => h5 V.nT]; simp (disch := omega) only [push_cast, impl_widthOk_eq, hw, impl_timeOk_eq]
  by_cases h6 : s.pins.length ≤ 100
  rotate_left; · rw [decide_eq_false fun V : VS s => h6 V.nP]; simp (disch := omega) only [push_cast, impl_widthOk_eq, hw, impl_timeOk_eq]
  by_cases h7 : s.leases.length ≤ 200
  rotate_left; · rw [decide_eq_false fun V : VS s => h7 V.nL]; simp (disch := omega) only [push_cast, impl_widthOk_eq, hw, impl_timeOk_eq]
  simp (disch := omega) only [push_cast, impl_widthOk_eq, hw, impl_timeOk_eq, ivs_5 h5]
  by_cases h8 : ∀ j, 0 ≤ j → j < s.things.length → tP s.width s.births s.things j
  rotate_left; · rw [if_neg h8, decide_eq_false fun V : VS s => h8 (hv.1 V).2.2.2.2.2.2.2.1]
  have hs := (tP_all _ _ _).1 h8
  rw [if_pos h8, ivs_12 hs.1 h5 fun k hk => (hs.2.1 k hk).1.refs]
  by_cases h9 : ∀ j, 0 ≤ j → j < s.things.length → ∀ i, 0 ≤ i → i < (nth K0 s.things j).thing.refs.length → refIn s.things (nth K0 s.things j).born (nth .empty (nth K0 s.things j).thing.refs i)
  rotate_left; · rw [if_neg h9, decide_eq_false fun V : VS s => h9 (hv.1 V).2.2.2.2.2.2.2.2.1]
  rw [if_pos h9, ivs_23 hs.1 h5 h6 hN]
  by_cases h10 : ∀ j, 0 ≤ j → j < s.pins.length → pP s.things s.pins j
  rotate_left; · rw [if_neg h10, decide_eq_false fun V : VS s => h10 (hv.1 V).2.2.2.2.2.2.2.2.2.1]
  rw [if_pos h10, ivs_30 h2 hs.1 h5 h7]
  by_cases h11 : ∀ j, 0 ≤ j → j < s.leases.length → lP s.now s.given s.things s.leases j
  rotate_left; · rw [if_neg h11, decide_eq_false fun V : VS s => h11 (hv.1 V).2.2.2.2.2.2.2.2.2.2]
  rw [if_pos h11, decide_eq_true (hv.2 ⟨h1, h2, h3, h4, h5, h6, h7, h8, h9, h10, h11⟩)]
end
end KV
end
section
namespace KV
open Go Go.Eng
set_option linter.unusedVariables false
set_option linter.unusedSimpArgs false
set_option linter.unusedSectionVars false
open Classical
theorem VS.names {s : State} (V : VS s) : ∀ p ∈ s.pins, p.name.size ≤ 4611686018427387904 := fun p hp => by have := (V.okP p hp).1.hi; omega
def encAp (o : Out) : Lv := if o.code = 0 then [.i 0, .i o.st.width, .i o.st.now, .i o.st.given, .i o.st.births, .l (encK o.st.things), .l (encP o.st.pins), .l (encL o.st.leases), .s o.sum, .i o.lease, .s o.a, .s o.b]
  else [.i o.code, .i 0, .i 0, .i 0, .i 0, .l [], .l [], .l [], .s o.sum, .i o.lease, .s o.a, .s o.b]
def encAp1 : Lv := [.i 1, .i 0, .i 0, .i 0, .i 0, .l [], .l [], .l [], .s E0, .i 0, .s E0, .s E0]
theorem impl_Apply_eq {s : State} (V : VS s) (e : Entry) (hn : e.name.size ≤ 4611686018427387904) : L_impl_Apply none (encSt s ++ encE e) = some (if entryB e s.width = true then encAp (chg s e) else encAp1) := by
  show L_impl_Apply none [.i s.width, .i s.now, .i s.given, .i s.births, .l (encK s.things), .l (encP s.pins), .l (encL s.leases), .i e.kind, .s e.sum, .s e.name, .i e.number, .s e.thing.text, .l (encS e.thing.refs)] = _
  have hv := impl_ValidState_eq s V.names
  unfold encSt at hv
  have hen := impl_entryOk_eq e s.width hn
  have hen' : L_impl_entryOk none [.i e.kind, .s e.sum, .s e.name, .i e.number, .s e.thing.text, .l (encS e.thing.refs), .i s.width] = _ := hen
  rw [e_impl_Apply_i, hv, decide_eq_true V]
  by_cases he : entryB e s.width = true
  rotate_left
  · rw [if_neg he]
    have : entryB e s.width = false := by simpa using he
    simp (disch := omega) only [push_cast, hen', this]; rfl
  rw [if_pos he]
  have n1 := V.nT; have n2 := V.nP; have n3 := V.nL
  have hcs := impl_copyState_eq s.width s.now s.given s.births s.things (encP s.pins) (encL s.leases) (by omega) (fun k hk => by have := okRefs V k hk; omega) (by rw [encP_len]; omega) (by rw [encL_len]; omega)
  have hch := impl_change_eq V he
  have hch' : L_impl_State_change none [.i e.kind, .s e.sum, .s e.name, .i e.number, .s e.thing.text, .l (encS e.thing.refs), .i s.width, .i s.now, .i s.given, .i s.births, .l (encK s.things), .l (encP s.pins), .l (encL s.leases)] = _ := hch
  simp (disch := omega) only [push_cast, hen', he, hcs, hch', encOutI, encSt, List.cons_append, List.nil_append]
  unfold encAp
  by_cases hc : (chg s e).code = 0
  · rw [if_pos hc, hc]; rfl
  · rw [if_neg hc]; simp (disch := omega) only [push_cast]
theorem replay_12 (w : Int) (hw : widthB w = true) (l : List Bs) (hl : Small l) (r : State ⊕ Nat) (x y z : Bs) : ∀ (m i : Nat) (s : State), l.length - i = m → i ≤ l.length → VS s → s.width = w → runL w s (l.drop i) i = r →
    L_laws_FnReplay (some 12) (match r with
      | .inl t => [.i w, .i (i : Int), .l (encS l), .i 0, .i t.width, .i t.now, .i t.given, .i t.births, .s x, .i 0, .s y, .s z, .i s.width, .i s.now, .i s.given, .i s.births, .l (encK s.things), .l (encP s.pins), .l (encL s.leases), .l (encK t.things), .l (encP t.pins), .l (encL t.leases)]
      | .inr n => [.i w, .i (i : Int), .l (encS l), .i 7, .i 0, .i 0, .i 0, .i 0, .s x, .i (n : Int), .s y, .s z, .i s.width, .i s.now, .i s.given, .i s.births, .l (encK s.things), .l (encP s.pins), .l (encL s.leases), .l [], .l [], .l []]) = some [.b true] := by
  intro m
  have hln := hl.1
  induction m with
  | zero =>
    intro i s hm hi V hs hR
    have : i = l.length := by omega
    subst this
    rw [List.drop_length] at hR
    simp only [runL] at hR
    subst hR
    have hwS := wState_eq V.small V.small
    have hwS' : L_laws_wState none [.i s.width, .i s.now, .i s.given, .i s.births, .l (encK s.things), .l (encP s.pins), .l (encL s.leases), .i s.width, .i s.now, .i s.given, .i s.births, .l (encK s.things), .l (encP s.pins), .l (encL s.leases)] = _ := hwS
    rw [decide_eq_true (show s = s from rfl)] at hwS'
    simp only
    rw [e_laws_FnReplay_12]
    simp (disch := omega) only [push_cast, hwS']
  | succ m ih =>
    intro i s hm hi V hs hR
    have hlt : i < l.length := by omega
    rw [drop_nth .empty hlt] at hR
    simp only [runL] at hR
    have hre := impl_ReadEntry_eq (nth .empty l i) w (hl.2 _ (nth_mem hlt))
    cases he : readE (nth .empty l i) w with
    | none =>
      rw [he] at hR hre
      simp only at hR
      subst hR
      simp only
      have hap := impl_Apply_eq V ⟨0, E0, E0, 0, ⟨E0, []⟩⟩ (by show (0 : Nat) ≤ 4611686018427387904; omega)
      have hne : ¬ entryB ⟨0, E0, E0, 0, ⟨E0, []⟩⟩ s.width = true := by
        unfold entryB; simp
      rw [if_neg hne] at hap
      have hap' : L_impl_Apply none [.i s.width, .i s.now, .i s.given, .i s.births, .l (encK s.things), .l (encP s.pins), .l (encL s.leases), .i 0, .s E0, .s E0, .i 0, .s E0, .l []] = _ := hap
      rw [e_laws_FnReplay_12]
      unfold encOE at hre
      simp (disch := omega) only [push_cast, hre, hap'] <;> simp
    | some e =>
      rw [he] at hR hre
      simp only at hR
      have hE := (readE_form he)
      have hEs : entryB e s.width = true := by rw [hs]; exact hE.2
      have hnm : e.name.size ≤ 4611686018427387904 := by
        have := hE.2
        unfold entryB at this
        simp only [Bool.and_eq_true] at this
        have h2 := this.2.2.2.1
        unfold namB at h2
        split at h2
        · have := (nameB_iff.1 h2).hi; omega
        · rw [of_decide_eq_true h2]; exact Nat.zero_le _
      have hap := impl_Apply_eq V e hnm
      rw [if_pos hEs] at hap
      have hap' : L_impl_Apply none [.i s.width, .i s.now, .i s.given, .i s.births, .l (encK s.things), .l (encP s.pins), .l (encL s.leases), .i e.kind, .s e.sum, .s e.name, .i e.number, .s e.thing.text, .l (encS e.thing.refs)] = _ := hap
      have hfe := impl_FormEntry_eq e w hnm
      rw [if_pos hE.2, hE.1] at hfe
      have hfe' : L_impl_FormEntry none [.i e.kind, .s e.sum, .s e.name, .i e.number, .s e.thing.text, .l (encS e.thing.refs), .i w] = _ := hfe
      unfold encOE at hre
      unfold encAp at hap'
      by_cases hc : (chg s e).code = 0
      · rw [if_pos hc] at hR hap'
        have := ih (i + 1) (chg s e).st (by omega) (by omega) (chg_VS V hEs hc) ((chg_width s e).trans hs) hR
        cases r with
        | inl t =>
          simp only at this ⊢
          rw [e_laws_FnReplay_12]
          simp (disch := omega) only [push_cast, hre, hap', hfe']
          exact this
        | inr n =>
          simp only at this ⊢
          rw [e_laws_FnReplay_12]
          simp (disch := omega) only [push_cast, hre, hap', hfe']
          exact this
      · rw [if_neg hc] at hR hap'
        subst hR
        simp only
        rw [e_laws_FnReplay_12]
        simp (disch := omega) only [push_cast, hre, hap', decide_eq_false hc] <;> simp
theorem replay_all {c : Rw} (hc : ∀ i, 0 ≤ (rd c i 0).int ∧ (rd c i 0).int ≤ 255) : L_laws_FnReplay none [.l c] = some [.b true] := by
  rw [e_laws_FnReplay_i]
  by_cases hbig : 1048576 < c.length
  · simp (disch := omega) only [push_cast]
  obtain ⟨w, l, hd, h1, h2⟩ := drawReplay_ok hc
  have hl : Small l := ⟨by omega, fun x hx => by have := h2 x hx; omega⟩
  have hi := impl_Replay_eq w l hl
  have hs := spec_Replay_eq w l hl
  by_cases hw : widthB w = true
  rotate_left
  · rw [if_neg fun h => hw h.1] at hi hs
    have hwS := wState_eq (a := ⟨0, 0, 0, 0, [], [], []⟩) (b := ⟨0, 0, 0, 0, [], [], []⟩) ⟨Nat.zero_le _, Nat.zero_le _, Nat.zero_le _, (fun x hx => nomatch hx)⟩ ⟨Nat.zero_le _, Nat.zero_le _, Nat.zero_le _, (fun x hx => nomatch hx)⟩
    have hwS' : L_laws_wState none [.i 0, .i 0, .i 0, .i 0, .l [], .l [], .l [], .i 0, .i 0, .i 0, .i 0, .l [], .l [], .l []] = _ := hwS
    rw [decide_eq_true (show (⟨0, 0, 0, 0, [], [], []⟩ : State) = _ from rfl)] at hwS'
    unfold rep1 at hi hs
    simp (disch := omega) only [push_cast, hd, hi, hs, hwS']
  rw [if_pos ⟨hw, h1⟩] at hi hs
  have hw18 := widthB_iff.1 hw
  have key := replay_12 w hw l hl (runL w (empty w) l 0) E0 E0 E0 l.length 0 (empty w) (by omega) (Nat.zero_le _) (empty_VS hw18) rfl rfl
  cases hr : runL w (empty w) l 0 with
  | inl t =>
    rw [hr] at key hi hs
    have V := runL_VS _ _ _ _ (empty_VS hw18) rfl hr
    have hwS := wState_eq V.1.small V.1.small
    have hwS' : L_laws_wState none [.i t.width, .i t.now, .i t.given, .i t.births, .l (encK t.things), .l (encP t.pins), .l (encL t.leases), .i t.width, .i t.now, .i t.given, .i t.births, .l (encK t.things), .l (encP t.pins), .l (encL t.leases)] = _ := hwS
    rw [decide_eq_true (show t = t from rfl)] at hwS'
    unfold encRep at hi hs
    simp only at key hi hs
    simp (disch := omega) only [push_cast, hd, hi, hs, hwS']
    exact key
  | inr n =>
    rw [hr] at key hi hs
    have hwS := wState_eq (a := ⟨0, 0, 0, 0, [], [], []⟩) (b := ⟨0, 0, 0, 0, [], [], []⟩) ⟨Nat.zero_le _, Nat.zero_le _, Nat.zero_le _, (fun x hx => nomatch hx)⟩ ⟨Nat.zero_le _, Nat.zero_le _, Nat.zero_le _, (fun x hx => nomatch hx)⟩
    have hwS' : L_laws_wState none [.i 0, .i 0, .i 0, .i 0, .l [], .l [], .l [], .i 0, .i 0, .i 0, .i 0, .l [], .l [], .l []] = _ := hwS
    rw [decide_eq_true (show (⟨0, 0, 0, 0, [], [], []⟩ : State) = _ from rfl)] at hwS'
    unfold encRep at hi hs
    simp only at key hi hs
    simp (disch := omega) only [push_cast, hd, hi, hs, hwS']
    exact key
end KV
end
