/- Plain laws over the walks' closed forms. -/
import Derived.Test.YtbgmclgeikflaaaGreatM1
import Derived.Test.YtbgmclgeikflaaaGreatM2
import Derived.Test.YtbgmclgeikflaaaGreatM3
import Derived.Test.YtbgmclgeikflaaaGreatM4
import Derived.Test.YtbgmclgeikflaaaGreatM5
set_option linter.unusedSimpArgs false
set_option linter.unusedVariables false
set_option linter.unusedSectionVars false
section
namespace KV
open Go Go.Eng
open Classical
theorem spec_l7SameThing_eq (a b : Thing) (ha : a.refs.length ≤ 1099511627776) (hb : b.refs.length ≤ 1099511627776) : L_spec_l7SameThing none [.s a.text, .l (encS a.refs), .s b.text, .l (encS b.refs)] = some [.b (decide (a = b))] := by
  obtain ⟨x, r⟩ := a; obtain ⟨y, t⟩ := b
  simp only at ha hb ⊢
  rw [e_spec_l7SameThing_i]
  by_cases h0 : x = y
  rotate_left; · simp (disch := omega) only [push_cast]; rw [decide_eq_false (p := (⟨x, r⟩ : Thing) = ⟨y, t⟩)]; intro e; cases e; exact h0 rfl
  by_cases h : r.length = t.length
  · have l1 := all_loop (f := fun i : Nat => L_spec_l7SameThing (some 4) [.i (i : Int), .s x, .l (encS r), .s y, .l (encS t)]) (P := fun j => nth .empty r j = nth .empty t j) (n := r.length) (T := some [.b true]) (F := some [.b false]) (fun i hi => by
      show (_ → L_spec_l7SameThing _ _ = _) ∧ (_ → L_spec_l7SameThing _ _ = _)
      rw [e_spec_l7SameThing_4]
      by_cases hc : nth .empty r i = nth .empty t i <;> simp (disch := omega) only [push_cast] <;> simp [hc]) (by show L_spec_l7SameThing _ _ = _; rw [e_spec_l7SameThing_4]; simp (disch := omega) only [push_cast]) 0 (Nat.zero_le _)
    simp (disch := omega) only [push_cast]
    refine l1.trans ?_
    split
    · rename_i hh; rw [decide_eq_true (p := (⟨x, r⟩ : Thing) = ⟨y, t⟩) (by rw [h0, list_ext .empty h hh])]
    · rename_i hh; rw [decide_eq_false (p := (⟨x, r⟩ : Thing) = ⟨y, t⟩)]; intro e; cases e; exact hh fun _ _ _ => rfl
  · have : ¬ (⟨x, r⟩ : Thing) = ⟨y, t⟩ := fun e => h (by cases e; rfl)
    simp (disch := omega) only [push_cast]; rw [decide_eq_false this]
theorem spec_l7SameState_eq {a b : State} (ha : Small1 a) (hb : Small1 b) : L_spec_l7SameState none (encSt a ++ encSt b) = some [.b (decide (a = b))] := by
  have a1 := ha.nT; have a2 := ha.nP; have a3 := ha.nL; have b1 := hb.nT; have b2 := hb.nP; have b3 := hb.nL
  show L_spec_l7SameState none [.i a.width, .i a.now, .i a.given, .i a.births, .l (encK a.things), .l (encP a.pins), .l (encL a.leases), .i b.width, .i b.now, .i b.given, .i b.births, .l (encK b.things), .l (encP b.pins), .l (encL b.leases)] = _
  rw [e_spec_l7SameState_i]
  have no : ∀ p : Prop, [Decidable p] → (a = b → p) → ¬ p → decide (a = b) = false := fun p _ h1 h2 => decide_eq_false fun h3 => h2 (h1 h3)
  by_cases h1 : a.width = b.width
  rotate_left; · rw [no _ (fun h => by rw [h]) h1]; simp (disch := omega) only [push_cast]
  by_cases h2 : a.now = b.now
  rotate_left; · rw [no _ (fun h => by rw [h]) h2]; simp (disch := omega) only [push_cast]
  by_cases h3 : a.given = b.given
  rotate_left; · rw [no _ (fun h => by rw [h]) h3]; simp (disch := omega) only [push_cast]
  by_cases h4 : a.births = b.births
  rotate_left; · rw [no _ (fun h => by rw [h]) h4]; simp (disch := omega) only [push_cast]
  by_cases h5 : a.things.length = b.things.length
  rotate_left; · rw [no _ (fun h => by rw [h]) h5]; simp (disch := omega) only [push_cast]
  by_cases h6 : a.pins.length = b.pins.length
  rotate_left; · rw [no _ (fun h => by rw [h]) h6]; simp (disch := omega) only [push_cast]
  by_cases h7 : a.leases.length = b.leases.length
  rotate_left; · rw [no _ (fun h => by rw [h]) h7]; simp (disch := omega) only [push_cast]
  simp (disch := omega) only [push_cast]
  have l3 := all_loop (f := fun i : Nat => L_spec_l7SameState (some 14) [.i (i : Int), .i a.width, .i a.now, .i a.given, .i a.births, .l (encK a.things), .l (encP a.pins), .l (encL a.leases), .i b.width, .i b.now, .i b.given, .i b.births, .l (encK b.things), .l (encP b.pins), .l (encL b.leases)])
    (P := fun j => nth L0 a.leases j = nth L0 b.leases j) (n := a.leases.length) (T := some [.b true]) (F := some [.b false]) (fun i hi => by
      show (_ → L_spec_l7SameState _ _ = _) ∧ (_ → L_spec_l7SameState _ _ = _)
      rw [e_spec_l7SameState_14]
      simp only [toNat_cast, encL_0, encL_1, encL_2, leaseEq_b]
      by_cases hc : nth L0 a.leases i = nth L0 b.leases i <;> simp (disch := omega) only [push_cast] <;> simp [hc]) (by show L_spec_l7SameState _ _ = _; rw [e_spec_l7SameState_14]; simp (disch := omega) only [push_cast]) 0 (Nat.zero_le _)
  have l2 := all_loop (f := fun i : Nat => L_spec_l7SameState (some 9) [.i (i : Int), .i a.width, .i a.now, .i a.given, .i a.births, .l (encK a.things), .l (encP a.pins), .l (encL a.leases), .i b.width, .i b.now, .i b.given, .i b.births, .l (encK b.things), .l (encP b.pins), .l (encL b.leases)])
    (P := fun j => nth P0 a.pins j = nth P0 b.pins j) (n := a.pins.length) (T := L_spec_l7SameState (some 14) [.i 0, .i a.width, .i a.now, .i a.given, .i a.births, .l (encK a.things), .l (encP a.pins), .l (encL a.leases), .i b.width, .i b.now, .i b.given, .i b.births, .l (encK b.things), .l (encP b.pins), .l (encL b.leases)]) (F := some [.b false]) (fun i hi => by
      show (_ → L_spec_l7SameState _ _ = _) ∧ (_ → L_spec_l7SameState _ _ = _)
      rw [e_spec_l7SameState_9]
      simp only [toNat_cast, encP_0, encP_1, pinEq_b]
      by_cases hc : nth P0 a.pins i = nth P0 b.pins i <;> simp (disch := omega) only [push_cast] <;> simp [hc]) (by show L_spec_l7SameState _ _ = _; rw [e_spec_l7SameState_9]; simp (disch := omega) only [push_cast]) 0 (Nat.zero_le _)
  have l1 := all_loop (f := fun i : Nat => L_spec_l7SameState (some 4) [.i (i : Int), .i a.width, .i a.now, .i a.given, .i a.births, .l (encK a.things), .l (encP a.pins), .l (encL a.leases), .i b.width, .i b.now, .i b.given, .i b.births, .l (encK b.things), .l (encP b.pins), .l (encL b.leases)])
    (P := fun j => nth K0 a.things j = nth K0 b.things j) (n := a.things.length) (T := L_spec_l7SameState (some 9) [.i 0, .i a.width, .i a.now, .i a.given, .i a.births, .l (encK a.things), .l (encP a.pins), .l (encL a.leases), .i b.width, .i b.now, .i b.given, .i b.births, .l (encK b.things), .l (encP b.pins), .l (encL b.leases)]) (F := some [.b false]) (fun i hi => by
      show (_ → L_spec_l7SameState _ _ = _) ∧ (_ → L_spec_l7SameState _ _ = _)
      rw [e_spec_l7SameState_4]
      have hsa := ha.t _ (nth_mem (d := K0) hi)
      have hsb := hb.t _ (nth_mem (d := K0) (show i < b.things.length by omega))
      obtain ⟨x, hx⟩ : ∃ x, nth K0 a.things i = x := ⟨_, rfl⟩
      obtain ⟨y, hy⟩ : ∃ y, nth K0 b.things i = y := ⟨_, rfl⟩
      rw [hx] at hsa ⊢
      rw [hy] at hsb ⊢
      by_cases c1 : x.sum = y.sum
      · by_cases c2 : x.born = y.born
        · by_cases c3 : x.thing = y.thing
          · obtain rfl : x = y := by obtain ⟨s, n, t⟩ := x; obtain ⟨s', n', t'⟩ := y; simp only at c1 c2 c3; rw [c1, c2, c3]
            simp (disch := omega) only [push_cast, hx, hy, spec_l7SameThing_eq x.thing x.thing hsa.2 hsa.2, decide_eq_true (show x.thing = x.thing from rfl)]
            simp
          · have : ¬ x = y := fun h => c3 (by rw [h])
            simp (disch := omega) only [push_cast, hx, hy, spec_l7SameThing_eq x.thing y.thing hsa.2 hsb.2, decide_eq_false c3]
            simp [this]
        · have : ¬ x = y := fun h => c2 (by rw [h])
          simp (disch := omega) only [push_cast, hx, hy]; simp [this]
      · have : ¬ x = y := fun h => c1 (by rw [h])
        simp (disch := omega) only [push_cast, hx, hy]; simp [this]) (by show L_spec_l7SameState _ _ = _; rw [e_spec_l7SameState_4]; simp (disch := omega) only [push_cast]) 0 (Nat.zero_le _)
  refine l1.trans ?_
  split
  · rename_i hT
    have hTe : a.things = b.things := list_ext K0 h5 hT
    refine l2.trans ?_
    rw [show L_spec_l7SameState (some 14) [.i 0, .i a.width, .i a.now, .i a.given, .i a.births, .l (encK a.things), .l (encP a.pins), .l (encL a.leases), .i b.width, .i b.now, .i b.given, .i b.births, .l (encK b.things), .l (encP b.pins), .l (encL b.leases)] = _ from l3]
    exact pinsL_end hTe ⟨h1, h2, h3, h4⟩ h6 h7
  · rename_i hT
    rw [decide_eq_false (p := a = b)]
    rintro rfl; exact hT fun _ _ _ => rfl
theorem spec_l6Ok_eq (s : State) (r : Round) (hb : 0 ≤ s.births ∧ s.births ≤ 1000000000) : L_spec_l6Ok none (encSt s ++ encR r) = some [.b (decide (RoundOk s.width s.births r))] := by
  show L_spec_l6Ok none [.i s.width, .i s.now, .i s.given, .i s.births, .l (encK s.things), .l (encP s.pins), .l (encL s.leases), .i r.phase, .l (encS r.queue), .l (encS r.marked), .i r.top, .i r.at_, .i r.rounds] = _
  rw [e_spec_l6Ok_i]
  have hri := round_iff s.width s.births r
  have no : ∀ p : Prop, (RoundOk s.width s.births r → p) → ¬ p → decide (RoundOk s.width s.births r) = false := fun p h1 h2 => decide_eq_false fun h3 => h2 (h1 h3)
  by_cases h1 : 0 ≤ r.phase
  rotate_left; · rw [no _ (fun h => h.ph.1) h1]; simp (disch := omega) only [push_cast]
  by_cases h2 : r.phase ≤ 2
  rotate_left; · rw [no _ (fun h => h.ph.2) h2]; simp (disch := omega) only [push_cast]
  by_cases h3 : 0 ≤ r.rounds ∧ r.rounds ≤ 1000000000
  rotate_left; · rw [no _ (fun h => h.rds) h3]; simp (disch := omega) only [push_cast, spec_l4Range_eq]
  by_cases h4 : r.queue.length ≤ 23200
  rotate_left; · rw [no _ (fun h => h.nQ) h4]; simp (disch := omega) only [push_cast, spec_l4Range_eq]
  by_cases h5 : r.marked.length ≤ 600
  rotate_left; · rw [no _ (fun h => h.nM) h5]; simp (disch := omega) only [push_cast, spec_l4Range_eq]
  simp (disch := omega) only [push_cast, spec_l4Range_eq]
  have l2 := all_loop (f := fun i : Nat => L_spec_l6Ok (some 9) [.i (i : Int), .i s.width, .i s.now, .i s.given, .i s.births, .l (encK s.things), .l (encP s.pins), .l (encL s.leases), .i r.phase, .l (encS r.queue), .l (encS r.marked), .i r.top, .i r.at_, .i r.rounds])
    (P := fun j => mkP s.width r.marked j) (n := r.marked.length) (T := some [.b (lastB s.births r)]) (F := some [.b false]) (fun i hi => by
      show (_ → L_spec_l6Ok _ _ = L_spec_l6Ok _ _) ∧ (_ → L_spec_l6Ok _ _ = _)
      rw [e_spec_l6Ok_9]
      have hsub : Eng.sub (encS r.marked) 0 i = encS (r.marked.take i) := by rw [encS_sub]; rfl
      have hlen : (r.marked.take i).length ≤ 4611686018427387904 := by rw [List.length_take]; omega
      by_cases c1 : ((nth .empty r.marked i).size : Int) = s.width
      rotate_left; · exact ⟨fun h => absurd h.1 c1, fun _ => by simp (disch := omega) only [push_cast]⟩
      by_cases c2 : nth .empty r.marked i ∈ r.marked.take i
      · exact ⟨fun h => absurd c2 h.2, fun _ => by simp (disch := omega) only [push_cast, hsub, spec_l4Has_eq _ _ hlen]⟩
      · exact ⟨fun _ => by simp (disch := omega) only [push_cast, hsub, spec_l4Has_eq _ _ hlen] <;> rfl, fun h => absurd ⟨c1, c2⟩ h⟩) (by
      show L_spec_l6Ok _ _ = _
      rw [e_spec_l6Ok_9]
      simp (disch := omega) only [push_cast]
      unfold lastB
      by_cases h0 : r.phase = 0
      · rw [if_pos h0]
        simp (disch := omega) only [push_cast]
        have e1 : ∀ l : List Bs, decide ((l.length : Int) = 0) = decide (l = []) := fun l => decide_eq_decide.2 ⟨fun h => List.eq_nil_of_length_eq_zero (by omega), fun h => by rw [h]; rfl⟩
        by_cases c1 : r.queue = []
        rotate_left; · rw [e1, decide_eq_false c1]; simp [c1]
        by_cases c2 : r.marked = []
        rotate_left; · rw [e1, e1, decide_eq_false c2]; simp [c1, c2]
        by_cases c3 : r.top = 0 <;> simp [c1, c2, c3]
      · rw [if_neg h0]
        simp (disch := omega) only [push_cast, spec_l4Range_eq]
        by_cases c1 : 0 ≤ r.top ∧ r.top ≤ s.births
        rotate_left; · simp (disch := omega) only [push_cast]; rw [decide_eq_false]; rintro ⟨a, b, _⟩; exact c1 ⟨a, b⟩
        simp (disch := omega) only [push_cast, spec_l4Range_eq]
        by_cases c2 : 1 ≤ r.at_ ∧ r.at_ ≤ r.top + 1
        rotate_left; · simp (disch := omega) only [push_cast]; rw [decide_eq_false]; rintro ⟨_, _, a, b, _⟩; exact c2 ⟨a, b⟩
        simp (disch := omega) only [push_cast]
        by_cases c3 : r.phase = 2
        · simp (disch := omega) only [push_cast]; rw [decide_eq_true]; exact ⟨c1.1, c1.2, c2.1, c2.2, fun h => by omega⟩
        · simp (disch := omega) only [push_cast]; congr 3; exact decide_eq_decide.2 ⟨fun h => ⟨c1.1, c1.2, c2.1, c2.2, fun _ => h⟩, fun h => h.2.2.2.2 (by omega)⟩) 0 (Nat.zero_le _)
  have l1 := all_loop (f := fun i : Nat => L_spec_l6Ok (some 4) [.i (i : Int), .i s.width, .i s.now, .i s.given, .i s.births, .l (encK s.things), .l (encP s.pins), .l (encL s.leases), .i r.phase, .l (encS r.queue), .l (encS r.marked), .i r.top, .i r.at_, .i r.rounds])
    (P := fun j => ((nth .empty r.queue j).size : Int) = s.width) (n := r.queue.length) (T := L_spec_l6Ok (some 9) [.i 0, .i s.width, .i s.now, .i s.given, .i s.births, .l (encK s.things), .l (encP s.pins), .l (encL s.leases), .i r.phase, .l (encS r.queue), .l (encS r.marked), .i r.top, .i r.at_, .i r.rounds]) (F := some [.b false]) (fun i hi => by
      show (_ → L_spec_l6Ok _ _ = L_spec_l6Ok _ _) ∧ (_ → L_spec_l6Ok _ _ = _)
      rw [e_spec_l6Ok_4]
      by_cases hc : ((nth .empty r.queue i).size : Int) = s.width <;> simp (disch := omega) only [push_cast] <;> simp [hc]) (by
      show L_spec_l6Ok _ _ = _
      rw [e_spec_l6Ok_4]; simp (disch := omega) only [push_cast]) 0 (Nat.zero_le _)
  have l1' : L_spec_l6Ok (some 4) [.i 0, .i s.width, .i s.now, .i s.given, .i s.births, .l (encK s.things), .l (encP s.pins), .l (encL s.leases), .i r.phase, .l (encS r.queue), .l (encS r.marked), .i r.top, .i r.at_, .i r.rounds] = _ := l1
  have l2' : L_spec_l6Ok (some 9) [.i 0, .i s.width, .i s.now, .i s.given, .i s.births, .l (encK s.things), .l (encP s.pins), .l (encL s.leases), .i r.phase, .l (encS r.queue), .l (encS r.marked), .i r.top, .i r.at_, .i r.rounds] = _ := l2
  rw [l1', l2']
  by_cases h6 : ∀ j, 0 ≤ j → j < r.queue.length → ((nth .empty r.queue j).size : Int) = s.width
  rotate_left; · rw [if_neg h6, no _ (fun h => (szs_all _ _).2 h.szQ) h6]
  rw [if_pos h6]
  by_cases h7 : ∀ j, 0 ≤ j → j < r.marked.length → mkP s.width r.marked j
  rotate_left; · rw [if_neg h7, no _ (fun h => (mkP_all _ _).2 ⟨h.szM, h.ndM⟩) h7]
  rw [if_pos h7]
  congr 3
  cases hl : lastB s.births r
  · rw [no _ (fun h => (hri.1 h).2.2.2.2.2.2) (by rw [hl]; simp)]
  · rw [decide_eq_true (hri.2 ⟨⟨h1, h2⟩, h3, h4, h5, (mkP_all _ _).1 h7, (szs_all _ _).1 h6, hl⟩)]
theorem spec_ValidVault_eq {v : Vault} (h : SmallV v) : L_spec_ValidVault none (encV v) = some [.b (decide (VV v))] := by
  unfold encV
  have hab := h.ab
  rw [e_spec_ValidVault_i]
  by_cases h1 : widthB v.width = true
  rotate_left; · have : widthB v.width = false := by simpa using h1
                 simp (disch := omega) only [push_cast, spec_l1Width_eq, this]; rw [decide_eq_false fun V : VV v => h1 V.wd]
  by_cases h2 : 0 ≤ v.limit ∧ v.limit ≤ 1000000
  rotate_left; · simp (disch := omega) only [push_cast, spec_l1Width_eq, h1, spec_l4Range_eq]; rw [decide_eq_false fun V : VV v => h2 V.lim]
  by_cases h3 : LogOk v.safe v.loose
  rotate_left; · simp (disch := omega) only [push_cast, spec_l1Width_eq, h1, spec_l4Range_eq, spec_ValidLog_eq _ _ h.a h.b]; rw [decide_eq_false fun V : VV v => h3 V.log]
  have hn := h3.n
  simp (disch := omega) only [push_cast, spec_l1Width_eq, h1, spec_l4Range_eq, spec_ValidLog_eq _ _ h.a h.b, spec_l7All_eq _ _ h.ab, spec_Replay_eq _ _ (h.a.app h.b h.ab)]
  rw [if_pos ⟨trivial, by rw [List.length_append]; omega⟩]
  cases hr : runL v.width (empty v.width) (v.safe ++ v.loose) 0 with
  | inl s =>
    have V := runL_VS _ _ _ _ (empty_VS (widthB_iff.1 h1)) rfl hr
    have hs := spec_l7SameState_eq V.1.small h.st
    have hs' : L_spec_l7SameState none [.i s.width, .i s.now, .i s.given, .i s.births, .l (encK s.things), .l (encP s.pins), .l (encL s.leases), .i v.st.width, .i v.st.now, .i v.st.given, .i v.st.births, .l (encK v.st.things), .l (encP v.st.pins), .l (encL v.st.leases)] = _ := hs
    simp only [encRep]
    simp (disch := omega) only [push_cast, hs']
    by_cases he : s = v.st
    · rw [decide_eq_true he]
      subst he
      have hro := spec_l6Ok_eq v.st v.rd V.1.births
      have hro' : L_spec_l6Ok none [.i v.st.width, .i v.st.now, .i v.st.given, .i v.st.births, .l (encK v.st.things), .l (encP v.st.pins), .l (encL v.st.leases), .i v.rd.phase, .l (encS v.rd.queue), .l (encS v.rd.marked), .i v.rd.top, .i v.rd.at_, .i v.rd.rounds] = _ := hro
      simp (disch := omega) only [push_cast, hro']
      congr 3
      exact decide_eq_decide.2 ⟨fun h4 => ⟨h1, h2, h3, hr, h4⟩, fun h4 => h4.rd⟩
    · rw [decide_eq_false he, decide_eq_false (p := VV v) fun h1 => he (by have := h1.run; rw [hr] at this; cases this; rfl)]; rfl
  | inr n =>
    simp only [encRep]
    simp (disch := omega) only [push_cast]
    rw [decide_eq_false (p := VV v) fun h1 => by have := h1.run; rw [hr] at this; cases this]
end KV
end
section
namespace KV
open Go Go.Eng
open Classical
theorem spec_l6Round_eq (r : Round) (h1 : r.queue.length ≤ 1099511627776) (h2 : r.marked.length ≤ 1099511627776) : L_spec_l6Round none (encR r) = some (encRo r) := by
  unfold encR encRo
  rw [e_spec_l6Round_i, mostE]; simp (disch := omega) only [push_cast, List.nil_append]
theorem spec_l2Log_eq (a b : List Bs) (ha : Small a) (hb : Small b) : L_spec_l2Log none [.l (encS a), .l (encS b)] = some [.l (encS a), .l (encS b)] := by
  have h1 := ha.1; have h2 := hb.1
  rw [e_spec_l2Log_i, mostE]; simp (disch := omega) only [push_cast, List.nil_append]
theorem spec_l7Copy_eq {v : Vault} (V : VV v) : L_spec_l7Copy none (encV v) = some (vI v ++ vL v) := by
  have h := V.small; have Vs := V.vs.1
  have h1 := spec_l6Round_eq v.rd h.q h.m
  have h2 := Vs.nT; have h3 := Vs.nP; have h4 := Vs.nL
  unfold encV
  unfold encR encRo at h1
  rw [e_spec_l7Copy_i, spec_l2Log_eq _ _ h.a h.b]
  simp (disch := omega) only [push_cast, spec_l4Copy_eq v.st.width v.st.now v.st.given v.st.births v.st.things (encP v.st.pins) (encL v.st.leases) (by omega) (okRefs Vs) (by rw [encP_len]; omega) (by rw [encL_len]; omega), h1]
  rfl
theorem spec_room_eq {s : State} (V : VS s) : L_spec_l5Room none (encSt s) = some [.i (roomM s : Int)] := by
  unfold encSt
  have hn := V.nT; have hr := roomM_small V
  rw [e_spec_l5Room_i]
  have := inv_loop (f := fun (i : Nat) (a : Nat) => L_spec_l5Room (some 3) [.i (a : Int), .i (i : Int), .i s.width, .i s.now, .i s.given, .i s.births, .l (encK s.things), .l (encP s.pins), .l (encL s.leases)]) (n := s.things.length) (T := some [.i (roomM s : Int)])
    (I := fun i a => a = ((s.things.map fun k => (formM k.thing).size).take i).sum) (fun i a hi hI => ⟨a + (formM (nth K0 s.things i).thing).size, by
      show L_spec_l5Room _ _ = L_spec_l5Room _ _
      have hk := (V.okT _ (nth_mem (d := K0) hi)).1
      have hk2 := okForm hk
      have ha : a ≤ roomM s := by rw [hI]; exact sum_take
      have hf := formM_size (nth K0 s.things i).thing
      have hz : ((nth K0 s.things i).thing.refs.length : Int) * s.width = (szs (nth K0 s.things i).thing.refs : Int) := by
        have : ∀ l : List Bs, (∀ r ∈ l, (r.size : Int) = s.width) → (l.length : Int) * s.width = (szs l : Int) := by
          intro l
          induction l with
          | nil => intro _; simp [szs]
          | cons a l ih => intro hl; rw [szs_cons, List.length_cons, Int.natCast_add, Int.natCast_add, ← ih fun r hr => hl r (by simp [hr]), hl a (by simp), Int.add_mul]; omega
        exact this _ hk.size
      rw [e_spec_l5Room_3]
      simp (disch := omega) only [push_cast, hz]
      congr 3
      omega, by
      show a + (formM (nth K0 s.things i).thing).size = _
      rw [hI, ← List.map_take, ← List.map_take, take_nth K0 hi, List.map_append, List.sum_append]; simp⟩) (fun a hI => by
      show L_spec_l5Room _ _ = _
      rw [e_spec_l5Room_3]
      simp (disch := omega) only [push_cast]
      rw [hI, List.take_of_length_le (by simp)]; rfl) 0 0 (Nat.zero_le _) rfl
  exact this
theorem spec_shade_eq {s : State} (hs : SrtK s.things) (hn : s.things.length ≤ 1000000) (r : Round) (x : Bs) (h1 : r.queue.length ≤ 1099511627775) (h2 : r.marked.length ≤ 1099511627776) : L_spec_l6Shade none (encSt s ++ encR r ++ [.s x]) = some (encRo (shadeM s r x)) := by
  show L_spec_l6Shade none [.i s.width, .i s.now, .i s.given, .i s.births, .l (encK s.things), .l (encP s.pins), .l (encL s.leases), .i r.phase, .l (encS r.queue), .l (encS r.marked), .i r.top, .i r.at_, .i r.rounds, .s x] = _
  have hcr := spec_l6Round_eq r (by omega) h2
  have hcr' : L_spec_l6Round none [.i r.phase, .l (encS r.queue), .l (encS r.marked), .i r.top, .i r.at_, .i r.rounds] = some [.i r.phase, .i r.top, .i r.at_, .i r.rounds, .l (encS r.queue), .l (encS r.marked)] := hcr
  have hf := findT_neg (T := s.things) (x := x)
  rw [e_spec_l6Shade_i, mostE]
  unfold shadeM
  simp (disch := omega) only [push_cast, hcr', spec_l4Find_eq _ _ _ _ s.things _ _ x hs hn]
  by_cases c2 : r.phase = 0
  · rw [if_neg fun h => h.2.1 c2]; simp (disch := omega) only [push_cast]; rfl
  by_cases c1 : hasT s.things x
  rotate_left; · rw [if_neg fun h => c1 h.1]; have := hf.2 c1; simp (disch := omega) only [push_cast]; rfl
  have c1' : ¬ findT s.things x < 0 := fun h => hf.1 h c1
  by_cases c3 : x ∈ r.marked
  · rw [if_neg fun h => h.2.2.1 c3]; simp (disch := omega) only [push_cast, spec_l4Has_eq r.marked x (by omega), decide_eq_true c3]; rfl
  by_cases c4 : r.queue.length < 23200
  · rw [if_pos ⟨c1, c2, c3, c4⟩]; simp (disch := omega) only [push_cast, spec_l4Has_eq r.marked x (by omega), decide_eq_false c3]
    rw [encS_one, encS_app]; rfl
  · rw [if_neg fun h => c4 h.2.2.2]; simp (disch := omega) only [push_cast, spec_l4Has_eq r.marked x (by omega), decide_eq_false c3]; rfl
noncomputable def doS (v : Vault) (e : Entry) : Did := doE v e (decide (shaded e (chg v.st e) ≠ E0))
theorem do_25 (x : Bs) (w lim : Int) (s : State) (r : Round) (sum : Bs) (lease : Int) (sf ls : List Bs) (hs : SrtK s.things) (hn : s.things.length ≤ 1000000) (h1 : r.queue.length ≤ 1099511627775) (h2 : r.marked.length ≤ 1099511627776)
    (i1 i2 i3 i4 i5 : Int) (l1 l2 l3 : Rw) (s2 s3 : Bs) :
    L_spec_l7Do (some 25) [.s x, .i 0, .i 0, .i 0, .i 0, .i 0, .i 0, .i 0, .i 0, .i 0, .i 0, .i 0, .s E0, .i 0, .s E0, .s E0, .i i1, .i i2, .i i3, .i i4, .i i5, .l l1, .l l2, .s sum, .i lease, .s s2, .s s3, .i w, .i lim, .i s.width, .i s.now, .i s.given, .i s.births, .i r.phase, .i r.top, .i r.at_, .i r.rounds, .l l3, .l (encS sf), .l (encS ls), .l (encK s.things), .l (encP s.pins), .l (encL s.leases), .l (encS r.queue), .l (encS r.marked), .l [], .l [], .l [], .l [], .l [], .l [], .l []] =
      some (encDid ⟨0, ⟨w, lim, sf, ls, s, if decide (x ≠ E0) = true then shadeM s r x else r⟩, sum, lease, E0, E0⟩) := by
  rw [e_spec_l7Do_25]
  have := spec_shade_eq hs hn r x h1 h2
  have h' : L_spec_l6Shade none [.i s.width, .i s.now, .i s.given, .i s.births, .l (encK s.things), .l (encP s.pins), .l (encL s.leases), .i r.phase, .l (encS r.queue), .l (encS r.marked), .i r.top, .i r.at_, .i r.rounds, .s x] = _ := this
  rw [h']
  by_cases hx : x = E0
  · rw [if_neg (by simp [hx])]; simp (disch := omega) only [push_cast]; rfl
  · rw [if_pos (by simp [hx])]; unfold encRo; simp (disch := omega) only [push_cast]; rfl
theorem spec_l7Do_eq {v : Vault} (h : SmallV v) (e : Entry) (hn : e.name.size ≤ 4611686018427387904) : L_spec_l7Do none (encV v ++ encE e) = some (encDid (doS v e)) := by
  show L_spec_l7Do none [.i v.width, .i v.limit, .l (encS v.safe), .l (encS v.loose), .i v.st.width, .i v.st.now, .i v.st.given, .i v.st.births, .l (encK v.st.things), .l (encP v.st.pins), .l (encL v.st.leases), .i v.rd.phase, .l (encS v.rd.queue), .l (encS v.rd.marked), .i v.rd.top, .i v.rd.at_, .i v.rd.rounds, .i e.kind, .s e.sum, .s e.name, .i e.number, .s e.thing.text, .l (encS e.thing.refs)] = _
  have hvv := spec_ValidVault_eq h
  unfold encV at hvv
  rw [e_spec_l7Do_i, hvv]
  unfold doS doE
  by_cases V : VV v
  rotate_left
  · rw [if_pos V, decide_eq_false V]; simp (disch := omega) only [push_cast]; rfl
  have hcp := spec_l7Copy_eq V
  unfold encV at hcp
  rw [if_neg (not_not_intro V), decide_eq_true V, hcp]
  have hen := spec_l3Ok_eq e v.width hn
  rw [show L_spec_l3Ok none [.i e.kind, .s e.sum, .s e.name, .i e.number, .s e.thing.text, .l (encS e.thing.refs), .i v.width] = _ from hen]
  by_cases he : entryB e v.width = true
  rotate_left
  · rw [if_pos he]
    have : entryB e v.width = false := by simpa using he
    simp (disch := omega) only [push_cast, this]; rfl
  rw [if_neg (not_not_intro he)]
  have Vs := V.vs
  have he' : entryB e v.st.width = true := by rw [Vs.2]; exact he
  have hch := spec_l4Apply_eq Vs.1 he'
  have hch' : L_spec_l4Apply none [.i v.st.width, .i v.st.now, .i v.st.given, .i v.st.births, .l (encK v.st.things), .l (encP v.st.pins), .i e.kind, .s e.sum, .s e.name, .i e.number, .s e.thing.text, .l (encS e.thing.refs), .l (encL v.st.leases)] = _ := hch
  have hfe := spec_FormEntry_eq e v.width hn
  have hfe' : L_spec_FormEntry none [.i e.kind, .s e.sum, .s e.name, .i e.number, .s e.thing.text, .l (encS e.thing.refs), .i v.width] = _ := hfe
  rw [if_pos he] at hfe'
  have hq := h.q; have hm := h.m
  have hln := V.log.n
  have n1 := Vs.1.nT; have n2 := Vs.1.nP; have n3 := Vs.1.nL
  have hc4 := spec_l4Copy_eq v.st.width v.st.now v.st.given v.st.births v.st.things (encP v.st.pins) (encL v.st.leases) (by omega) (okRefs Vs.1) (by rw [encP_len]; omega) (by rw [encL_len]; omega)
  simp only [vI, vL, List.cons_append, List.nil_append]
  by_cases hcode : (chg v.st e).code = 0
  rotate_left
  · rw [if_pos hcode]
    simp only [encOutS] at hch'
    rw [if_neg hcode] at hch'
    simp (disch := omega) only [push_cast, he, hc4, hch', decide_eq_false hcode]
    rfl
  rw [if_neg (not_not_intro hcode)]
  simp only [encOutS] at hch'
  rw [if_pos hcode] at hch'
  have Vc := chg_VS Vs.1 he' hcode
  have hrm := spec_room_eq Vc
  unfold encSt at hrm
  have hqn := V.rd.nQ
  have hmn := V.rd.nM
  have m1 := Vc.nT; have m2 := Vc.nP; have m3 := Vc.nL
  have hc5 := spec_l4Copy_eq (chg v.st e).st.width (chg v.st e).st.now (chg v.st e).st.given (chg v.st e).st.births (chg v.st e).st.things (encP (chg v.st e).st.pins) (encL (chg v.st e).st.leases) (by omega) (okRefs Vc) (by rw [encP_len]; omega) (by rw [encL_len]; omega)
  by_cases h8 : e.kind = 1 ∧ v.limit < (roomM (chg v.st e).st : Int)
  · rw [if_pos h8]
    have h81 := h8.1; have h82 := h8.2
    simp (disch := omega) only [push_cast, he, hc4, hch', hrm]
    rfl
  rw [if_neg h8]
  by_cases h9 : v.safe.length + v.loose.length = 4000
  · rw [if_pos h9]
    by_cases hk : e.kind = 1
    · have : ¬ v.limit < (roomM (chg v.st e).st : Int) := fun h => h8 ⟨hk, h⟩
      simp (disch := omega) only [push_cast, he, hc4, hch', hrm]; rfl
    · simp (disch := omega) only [push_cast, he, hc4, hch']; rfl
  rw [if_neg h9]
  by_cases hk : e.kind = 1
  · have hlim : ¬ v.limit < (roomM (chg v.st e).st : Int) := fun h => h8 ⟨hk, h⟩
    simp (disch := omega) only [push_cast, he, hc4, hch', hrm, hfe', hc5, mostE]
    rw [encS_one, encS_app, do_25 _ _ _ (chg v.st e).st v.rd _ _ _ _ Vc.srtT (by omega) (by omega) (by omega)]
    unfold shaded; rw [if_pos hk]
  · simp (disch := omega) only [push_cast, he, hc4, hch', hfe', hc5, mostE]
    rw [encS_one, encS_app, do_25 _ _ _ (chg v.st e).st v.rd _ _ _ _ Vc.srtT (by omega) (by omega) (by omega)]
    unfold shaded; rw [if_neg hk]
end KV
end
section
namespace KV
open Go Go.Eng
open Classical
def eHold (name sum : Bs) : Entry := ⟨2, sum, name, 0, ⟨E0, []⟩⟩
theorem impl_Hold_eq {v : Vault} (h : SmallV v) (hc : CutV v) (name sum : Bs) (hn : name.size ≤ 4611686018427387904) : L_impl_Hold none (encV v ++ [.s name, .s sum]) = some (encDid (doE v (eHold name sum) true)) := by
  have := impl_carry_eq h hc (eHold name sum) true hn
  show L_impl_Hold none [.i v.width, .i v.limit, .l (encS v.safe), .l (encS v.loose), .i v.st.width, .i v.st.now, .i v.st.given, .i v.st.births, .l (encK v.st.things), .l (encP v.st.pins), .l (encL v.st.leases), .i v.rd.phase, .l (encS v.rd.queue), .l (encS v.rd.marked), .i v.rd.top, .i v.rd.at_, .i v.rd.rounds, .s name, .s sum] = _
  rw [e_impl_Hold_i, show L_impl_Vault_carry none [.i v.width, .i v.limit, .l (encS v.safe), .l (encS v.loose), .i v.st.width, .i v.st.now, .i v.st.given, .i v.st.births, .l (encK v.st.things), .l (encP v.st.pins), .l (encL v.st.leases), .i v.rd.phase, .l (encS v.rd.queue), .l (encS v.rd.marked), .i v.rd.top, .i v.rd.at_, .i v.rd.rounds, .i 2, .s sum, .s name, .i 0, .s E0, .l [], .b true] = _ from this, Option.bind_some, encDid_eta]
theorem spec_Hold_eq {v : Vault} (h : SmallV v) (name sum : Bs) (hn : name.size ≤ 4611686018427387904) : L_spec_Hold none (encV v ++ [.s name, .s sum]) = some (encDid (doS v (eHold name sum))) := by
  have := spec_l7Do_eq h (eHold name sum) hn
  show L_spec_Hold none [.i v.width, .i v.limit, .l (encS v.safe), .l (encS v.loose), .i v.st.width, .i v.st.now, .i v.st.given, .i v.st.births, .l (encK v.st.things), .l (encP v.st.pins), .l (encL v.st.leases), .i v.rd.phase, .l (encS v.rd.queue), .l (encS v.rd.marked), .i v.rd.top, .i v.rd.at_, .i v.rd.rounds, .s name, .s sum] = _
  rw [e_spec_Hold_i, show L_spec_l7Do none [.i v.width, .i v.limit, .l (encS v.safe), .l (encS v.loose), .i v.st.width, .i v.st.now, .i v.st.given, .i v.st.births, .l (encK v.st.things), .l (encP v.st.pins), .l (encL v.st.leases), .i v.rd.phase, .l (encS v.rd.queue), .l (encS v.rd.marked), .i v.rd.top, .i v.rd.at_, .i v.rd.rounds, .i 2, .s sum, .s name, .i 0, .s E0, .l []] = _ from this, Option.bind_some, encDid_eta]
def eLoosen (name : Bs) : Entry := ⟨3, E0, name, 0, ⟨E0, []⟩⟩
theorem impl_Loosen_eq {v : Vault} (h : SmallV v) (hc : CutV v) (name : Bs) (hn : name.size ≤ 4611686018427387904) : L_impl_Loosen none (encV v ++ [.s name]) = some (encDid (doE v (eLoosen name) false)) := by
  have := impl_carry_eq h hc (eLoosen name) false hn
  show L_impl_Loosen none [.i v.width, .i v.limit, .l (encS v.safe), .l (encS v.loose), .i v.st.width, .i v.st.now, .i v.st.given, .i v.st.births, .l (encK v.st.things), .l (encP v.st.pins), .l (encL v.st.leases), .i v.rd.phase, .l (encS v.rd.queue), .l (encS v.rd.marked), .i v.rd.top, .i v.rd.at_, .i v.rd.rounds, .s name] = _
  rw [e_impl_Loosen_i, show L_impl_Vault_carry none [.i v.width, .i v.limit, .l (encS v.safe), .l (encS v.loose), .i v.st.width, .i v.st.now, .i v.st.given, .i v.st.births, .l (encK v.st.things), .l (encP v.st.pins), .l (encL v.st.leases), .i v.rd.phase, .l (encS v.rd.queue), .l (encS v.rd.marked), .i v.rd.top, .i v.rd.at_, .i v.rd.rounds, .i 3, .s E0, .s name, .i 0, .s E0, .l [], .b false] = _ from this, Option.bind_some, encDid_eta]
theorem spec_Loosen_eq {v : Vault} (h : SmallV v) (name : Bs) (hn : name.size ≤ 4611686018427387904) : L_spec_Loosen none (encV v ++ [.s name]) = some (encDid (doS v (eLoosen name))) := by
  have := spec_l7Do_eq h (eLoosen name) hn
  show L_spec_Loosen none [.i v.width, .i v.limit, .l (encS v.safe), .l (encS v.loose), .i v.st.width, .i v.st.now, .i v.st.given, .i v.st.births, .l (encK v.st.things), .l (encP v.st.pins), .l (encL v.st.leases), .i v.rd.phase, .l (encS v.rd.queue), .l (encS v.rd.marked), .i v.rd.top, .i v.rd.at_, .i v.rd.rounds, .s name] = _
  rw [e_spec_Loosen_i, show L_spec_l7Do none [.i v.width, .i v.limit, .l (encS v.safe), .l (encS v.loose), .i v.st.width, .i v.st.now, .i v.st.given, .i v.st.births, .l (encK v.st.things), .l (encP v.st.pins), .l (encL v.st.leases), .i v.rd.phase, .l (encS v.rd.queue), .l (encS v.rd.marked), .i v.rd.top, .i v.rd.at_, .i v.rd.rounds, .i 3, .s E0, .s name, .i 0, .s E0, .l []] = _ from this, Option.bind_some, encDid_eta]
def eBorrow (sum : Bs) (hold : Int) : Entry := ⟨4, sum, E0, hold, ⟨E0, []⟩⟩
theorem impl_Borrow_eq {v : Vault} (h : SmallV v) (hc : CutV v) (sum : Bs) (hold : Int)  : L_impl_Borrow none (encV v ++ [.s sum, .i hold]) = some (encDid (doE v (eBorrow sum hold) true)) := by
  have := impl_carry_eq h hc (eBorrow sum hold) true (by show (0 : Nat) ≤ 4611686018427387904; omega)
  show L_impl_Borrow none [.i v.width, .i v.limit, .l (encS v.safe), .l (encS v.loose), .i v.st.width, .i v.st.now, .i v.st.given, .i v.st.births, .l (encK v.st.things), .l (encP v.st.pins), .l (encL v.st.leases), .i v.rd.phase, .l (encS v.rd.queue), .l (encS v.rd.marked), .i v.rd.top, .i v.rd.at_, .i v.rd.rounds, .s sum, .i hold] = _
  rw [e_impl_Borrow_i, show L_impl_Vault_carry none [.i v.width, .i v.limit, .l (encS v.safe), .l (encS v.loose), .i v.st.width, .i v.st.now, .i v.st.given, .i v.st.births, .l (encK v.st.things), .l (encP v.st.pins), .l (encL v.st.leases), .i v.rd.phase, .l (encS v.rd.queue), .l (encS v.rd.marked), .i v.rd.top, .i v.rd.at_, .i v.rd.rounds, .i 4, .s sum, .s E0, .i hold, .s E0, .l [], .b true] = _ from this, Option.bind_some, encDid_eta]
theorem spec_Borrow_eq {v : Vault} (h : SmallV v) (sum : Bs) (hold : Int)  : L_spec_Borrow none (encV v ++ [.s sum, .i hold]) = some (encDid (doS v (eBorrow sum hold))) := by
  have := spec_l7Do_eq h (eBorrow sum hold) (by show (0 : Nat) ≤ 4611686018427387904; omega)
  show L_spec_Borrow none [.i v.width, .i v.limit, .l (encS v.safe), .l (encS v.loose), .i v.st.width, .i v.st.now, .i v.st.given, .i v.st.births, .l (encK v.st.things), .l (encP v.st.pins), .l (encL v.st.leases), .i v.rd.phase, .l (encS v.rd.queue), .l (encS v.rd.marked), .i v.rd.top, .i v.rd.at_, .i v.rd.rounds, .s sum, .i hold] = _
  rw [e_spec_Borrow_i, show L_spec_l7Do none [.i v.width, .i v.limit, .l (encS v.safe), .l (encS v.loose), .i v.st.width, .i v.st.now, .i v.st.given, .i v.st.births, .l (encK v.st.things), .l (encP v.st.pins), .l (encL v.st.leases), .i v.rd.phase, .l (encS v.rd.queue), .l (encS v.rd.marked), .i v.rd.top, .i v.rd.at_, .i v.rd.rounds, .i 4, .s sum, .s E0, .i hold, .s E0, .l []] = _ from this, Option.bind_some, encDid_eta]
def eGiveBack (n : Int) : Entry := ⟨5, E0, E0, n, ⟨E0, []⟩⟩
theorem impl_GiveBack_eq {v : Vault} (h : SmallV v) (hc : CutV v) (n : Int)  : L_impl_GiveBack none (encV v ++ [.i n]) = some (encDid (doE v (eGiveBack n) false)) := by
  have := impl_carry_eq h hc (eGiveBack n) false (by show (0 : Nat) ≤ 4611686018427387904; omega)
  show L_impl_GiveBack none [.i v.width, .i v.limit, .l (encS v.safe), .l (encS v.loose), .i v.st.width, .i v.st.now, .i v.st.given, .i v.st.births, .l (encK v.st.things), .l (encP v.st.pins), .l (encL v.st.leases), .i v.rd.phase, .l (encS v.rd.queue), .l (encS v.rd.marked), .i v.rd.top, .i v.rd.at_, .i v.rd.rounds, .i n] = _
  rw [e_impl_GiveBack_i, show L_impl_Vault_carry none [.i v.width, .i v.limit, .l (encS v.safe), .l (encS v.loose), .i v.st.width, .i v.st.now, .i v.st.given, .i v.st.births, .l (encK v.st.things), .l (encP v.st.pins), .l (encL v.st.leases), .i v.rd.phase, .l (encS v.rd.queue), .l (encS v.rd.marked), .i v.rd.top, .i v.rd.at_, .i v.rd.rounds, .i 5, .s E0, .s E0, .i n, .s E0, .l [], .b false] = _ from this, Option.bind_some, encDid_eta]
theorem spec_GiveBack_eq {v : Vault} (h : SmallV v) (n : Int)  : L_spec_GiveBack none (encV v ++ [.i n]) = some (encDid (doS v (eGiveBack n))) := by
  have := spec_l7Do_eq h (eGiveBack n) (by show (0 : Nat) ≤ 4611686018427387904; omega)
  show L_spec_GiveBack none [.i v.width, .i v.limit, .l (encS v.safe), .l (encS v.loose), .i v.st.width, .i v.st.now, .i v.st.given, .i v.st.births, .l (encK v.st.things), .l (encP v.st.pins), .l (encL v.st.leases), .i v.rd.phase, .l (encS v.rd.queue), .l (encS v.rd.marked), .i v.rd.top, .i v.rd.at_, .i v.rd.rounds, .i n] = _
  rw [e_spec_GiveBack_i, show L_spec_l7Do none [.i v.width, .i v.limit, .l (encS v.safe), .l (encS v.loose), .i v.st.width, .i v.st.now, .i v.st.given, .i v.st.births, .l (encK v.st.things), .l (encP v.st.pins), .l (encL v.st.leases), .i v.rd.phase, .l (encS v.rd.queue), .l (encS v.rd.marked), .i v.rd.top, .i v.rd.at_, .i v.rd.rounds, .i 5, .s E0, .s E0, .i n, .s E0, .l []] = _ from this, Option.bind_some, encDid_eta]
def eWait (n : Int) : Entry := ⟨6, E0, E0, n, ⟨E0, []⟩⟩
theorem impl_Wait_eq {v : Vault} (h : SmallV v) (hc : CutV v) (n : Int)  : L_impl_Wait none (encV v ++ [.i n]) = some (encDid (doE v (eWait n) false)) := by
  have := impl_carry_eq h hc (eWait n) false (by show (0 : Nat) ≤ 4611686018427387904; omega)
  show L_impl_Wait none [.i v.width, .i v.limit, .l (encS v.safe), .l (encS v.loose), .i v.st.width, .i v.st.now, .i v.st.given, .i v.st.births, .l (encK v.st.things), .l (encP v.st.pins), .l (encL v.st.leases), .i v.rd.phase, .l (encS v.rd.queue), .l (encS v.rd.marked), .i v.rd.top, .i v.rd.at_, .i v.rd.rounds, .i n] = _
  rw [e_impl_Wait_i, show L_impl_Vault_carry none [.i v.width, .i v.limit, .l (encS v.safe), .l (encS v.loose), .i v.st.width, .i v.st.now, .i v.st.given, .i v.st.births, .l (encK v.st.things), .l (encP v.st.pins), .l (encL v.st.leases), .i v.rd.phase, .l (encS v.rd.queue), .l (encS v.rd.marked), .i v.rd.top, .i v.rd.at_, .i v.rd.rounds, .i 6, .s E0, .s E0, .i n, .s E0, .l [], .b false] = _ from this, Option.bind_some, encDid_eta]
theorem spec_Wait_eq {v : Vault} (h : SmallV v) (n : Int)  : L_spec_Wait none (encV v ++ [.i n]) = some (encDid (doS v (eWait n))) := by
  have := spec_l7Do_eq h (eWait n) (by show (0 : Nat) ≤ 4611686018427387904; omega)
  show L_spec_Wait none [.i v.width, .i v.limit, .l (encS v.safe), .l (encS v.loose), .i v.st.width, .i v.st.now, .i v.st.given, .i v.st.births, .l (encK v.st.things), .l (encP v.st.pins), .l (encL v.st.leases), .i v.rd.phase, .l (encS v.rd.queue), .l (encS v.rd.marked), .i v.rd.top, .i v.rd.at_, .i v.rd.rounds, .i n] = _
  rw [e_spec_Wait_i, show L_spec_l7Do none [.i v.width, .i v.limit, .l (encS v.safe), .l (encS v.loose), .i v.st.width, .i v.st.now, .i v.st.given, .i v.st.births, .l (encK v.st.things), .l (encP v.st.pins), .l (encL v.st.leases), .i v.rd.phase, .l (encS v.rd.queue), .l (encS v.rd.marked), .i v.rd.top, .i v.rd.at_, .i v.rd.rounds, .i 6, .s E0, .s E0, .i n, .s E0, .l []] = _ from this, Option.bind_some, encDid_eta]
theorem spec_Put_eq {v : Vault} (h : SmallV v) (t : Thing) (hold : Int) (ht : t.refs.length ≤ 1099511627776) : L_spec_Put none (encV v ++ [.s t.text, .l (encS t.refs), .i hold]) = some (encDid (doS v (ePut t hold))) := by
  have := spec_l7Do_eq h (ePut t hold) (by show (0 : Nat) ≤ 4611686018427387904; omega)
  show L_spec_Put none [.i v.width, .i v.limit, .l (encS v.safe), .l (encS v.loose), .i v.st.width, .i v.st.now, .i v.st.given, .i v.st.births, .l (encK v.st.things), .l (encP v.st.pins), .l (encL v.st.leases), .i v.rd.phase, .l (encS v.rd.queue), .l (encS v.rd.marked), .i v.rd.top, .i v.rd.at_, .i v.rd.rounds, .s t.text, .l (encS t.refs), .i hold] = _
  rw [e_spec_Put_i, spec_l1Thing_eq _ _ (by rw [encS_len]; exact ht)]
  simp (disch := omega) only [push_cast]
  rw [show L_spec_l7Do none [.i v.width, .i v.limit, .l (encS v.safe), .l (encS v.loose), .i v.st.width, .i v.st.now, .i v.st.given, .i v.st.births, .l (encK v.st.things), .l (encP v.st.pins), .l (encL v.st.leases), .i v.rd.phase, .l (encS v.rd.queue), .l (encS v.rd.marked), .i v.rd.top, .i v.rd.at_, .i v.rd.rounds, .i 1, .s E0, .s E0, .i hold, .s t.text, .l (encS t.refs)] = _ from this, Option.bind_some, encDid_eta]
theorem entry_sum {e : Entry} {w : Int} (h : entryB e w = true) : if uS e.kind = true then (e.sum.size : Int) = w else e.sum = E0 := by
  unfold entryB at h
  simp only [Bool.and_eq_true] at h
  have := h.2.2.1
  unfold sumB at this
  split at this
  · rename_i hu; rw [if_pos hu]; exact of_decide_eq_true this
  · rename_i hu; rw [if_neg hu]; exact of_decide_eq_true this
theorem entry_width {e : Entry} {w : Int} (h : entryB e w = true) : 1 ≤ w ∧ w ≤ 8 := by
  unfold entryB at h
  simp only [Bool.and_eq_true] at h
  exact widthB_iff.1 h.2.1
theorem put_sum {s : State} {e : Entry} (h : (putS s e).code = 0) : (putS s e).sum = sumM (formM e.thing) s.width := by
  unfold putS fail at h ⊢
  repeat' split
  all_goals first | rfl | (rename_i h1; simp_all; done) | simp_all
theorem ne_E0 {x : Bs} {w : Int} (h : (x.size : Int) = w) (hw : 1 ≤ w) : x ≠ E0 := by
  rintro rfl
  have : (E0 : Bs).size = 0 := rfl
  omega
theorem doE_sh {v : Vault} {e : Entry} {a b : Bool} (h : VV v → entryB e v.width = true → (chg v.st e).code = 0 → a = b) : doE v e a = doE v e b := by
  unfold doE
  by_cases V : VV v
  rotate_left; · rw [if_pos V, if_pos V]
  rw [if_neg (not_not_intro V), if_neg (not_not_intro V)]
  by_cases he : entryB e v.width = true
  rotate_left; · rw [if_pos he, if_pos he]
  rw [if_neg (not_not_intro he), if_neg (not_not_intro he)]
  by_cases hc : (chg v.st e).code = 0
  rotate_left; · rw [if_pos hc, if_pos hc]
  rw [h V he hc]
theorem doS_t {v : Vault} {e : Entry} (hk : e.kind = 1 ∨ e.kind = 2 ∨ e.kind = 4 ∨ e.kind = 7) : doS v e = doE v e true := by
  refine doE_sh fun V he hc => decide_eq_true ?_
  have hw := entry_width he
  unfold shaded
  by_cases h1 : e.kind = 1
  · rw [if_pos h1]
    have : chg v.st e = putS v.st e := by unfold chg; rw [if_pos h1]
    rw [this] at hc ⊢
    rw [put_sum hc]
    exact ne_E0 (sumM_width V.vs.1.wd) V.vs.1.wd.1
  · rw [if_neg h1]
    have := entry_sum he
    rw [if_pos (by unfold uS; simp; omega)] at this
    exact ne_E0 this hw.1
theorem doS_f {v : Vault} {e : Entry} (hk : e.kind = 3 ∨ e.kind = 5 ∨ e.kind = 6) : doS v e = doE v e false := by
  refine doE_sh fun V he hc => decide_eq_false ?_
  unfold shaded
  rw [if_neg (by omega)]
  have := entry_sum he
  rw [if_neg (by unfold uS; simp; omega)] at this
  exact not_not_intro this
theorem impl_Crash_eq (a b : List Bs) (k : Int) (ha : Small a) (hb : Small b) : L_impl_Crash none [.l (encS a), .l (encS b), .i k] = some [.l [], .l (encS (if LogOk a b then a ++ b.take k.toNat else []))] := by
  have h1 := ha.1; have h2 := hb.1
  rw [e_impl_Crash_i, mostE]
  by_cases h : LogOk a b
  rotate_left; · rw [if_neg h]; simp (disch := omega) only [push_cast, impl_ValidLog_eq a b ha hb, decide_eq_false h]; rfl
  have hl := h.n
  rw [if_pos h]
  have hm : mx2 0 (mn2 k (b.length : Int)) = ((min k.toNat b.length : Nat) : Int) := by
    unfold mx2 mn2
    split <;> split <;> omega
  have hsub : Eng.sub (encS b) 0 (min k.toNat b.length) = encS (b.take k.toNat) := by
    rw [encS_sub, List.drop_zero, Nat.sub_zero]; congr 1; rcases Nat.le_total k.toNat b.length with h | h; { rw [Nat.min_eq_left h] }; { rw [Nat.min_eq_right h, List.take_length, List.take_of_length_le h] }
  have hlen : (b.take k.toNat).length ≤ b.length := by rw [List.length_take]; omega
  simp (disch := omega) only [push_cast, impl_ValidLog_eq a b ha hb, decide_eq_true h, impl_copied_eq (encS a) (by rw [encS_len]; omega), hm, hsub]
  rw [encS_app]
noncomputable def flushM (v : Vault) : Vault := if VV v then { v with safe := v.safe ++ v.loose, loose := [] } else V0
def encFl (v : Vault) : Lv := [.i v.width, .i v.limit, .l (encS v.loose), .i v.st.width, .i v.st.now, .i v.st.given, .i v.st.births, .i v.rd.phase, .i v.rd.top, .i v.rd.at_, .i v.rd.rounds, .l (encS v.safe), .l (encK v.st.things), .l (encP v.st.pins), .l (encL v.st.leases), .l (encS v.rd.queue), .l (encS v.rd.marked)]
noncomputable def loseM (v : Vault) (k : Int) : Vault := if VV v then (match openM v.width v.limit (v.safe ++ v.loose.take k.toNat) [] with | .inl x => x | .inr _ => V0) else V0
def encLo (v : Vault) : Lv := [.i v.width, .i v.limit, .i v.st.width, .i v.st.now, .i v.st.given, .i v.st.births, .i v.rd.phase, .l (encS v.rd.queue), .l (encS v.rd.marked), .i v.rd.top, .i v.rd.at_, .i v.rd.rounds, .l (encS v.safe), .l (encS v.loose), .l (encK v.st.things), .l (encP v.st.pins), .l (encL v.st.leases)]
theorem flush_VV {v : Vault} (V : VV v) : VV (flushM v) := by
  unfold flushM
  rw [if_pos V]
  refine ⟨V.wd, V.lim, ⟨fun x hx => ?_, (fun x hx => nomatch hx), ?_⟩, ?_, V.rd⟩
  · rcases List.mem_append.1 hx with h | h
    · exact V.log.sa x h
    · exact V.log.sb x h
  · have := V.log.n
    show (v.safe ++ v.loose).length + 0 ≤ 4000
    rw [List.length_append]; omega
  · show runL v.width (empty v.width) ((v.safe ++ v.loose) ++ []) 0 = .inl v.st
    rw [List.append_nil]; exact V.run
theorem lose_open {v : Vault} (V : VV v) (k : Int) : ∃ s, runL v.width (empty v.width) (v.safe ++ v.loose.take k.toNat) 0 = .inl s ∧ openM v.width v.limit (v.safe ++ v.loose.take k.toNat) [] = .inl ⟨v.width, v.limit, v.safe ++ v.loose.take k.toNat, [], s, R0⟩ ∧ VV ⟨v.width, v.limit, v.safe ++ v.loose.take k.toNat, [], s, R0⟩ := by
  have hl : LogOk (v.safe ++ v.loose.take k.toNat) [] := by
    refine ⟨fun x hx => ?_, (fun x hx => nomatch hx), ?_⟩
    · rcases List.mem_append.1 hx with h | h
      · exact V.log.sa x h
      · exact V.log.sb x (List.mem_of_mem_take h)
    · have := V.log.n
      show (v.safe ++ v.loose.take k.toNat).length + 0 ≤ 4000
      rw [List.length_append, List.length_take]; omega
  obtain ⟨s, hs⟩ : ∃ s, runL v.width (empty v.width) (v.safe ++ v.loose.take k.toNat) 0 = .inl s := by
    have := V.run
    rw [← List.take_append_drop k.toNat v.loose, ← List.append_assoc, runL_app] at this
    cases hr : runL v.width (empty v.width) (v.safe ++ v.loose.take k.toNat) 0 with
    | inl s => exact ⟨s, rfl⟩
    | inr n => rw [hr] at this; cases this
  refine ⟨s, hs, ?_, ?_⟩
  · unfold openM; rw [if_pos ⟨V.wd, V.lim, hl⟩, List.append_nil, hs]
  · have W := runL_VS _ _ _ _ (empty_VS (widthB_iff.1 V.wd)) rfl hs
    have hb := W.1.births
    exact ⟨V.wd, V.lim, hl, by rw [List.append_nil]; exact hs, (show RoundOk s.width s.births R0 from ⟨⟨Int.le_refl _, (by show (0 : Int) ≤ 2; omega)⟩, ⟨Int.le_refl _, (by show (0 : Int) ≤ 1000000000; omega)⟩, Nat.zero_le _, Nat.zero_le _, (fun x hx => nomatch hx), List.nodup_nil, (fun x hx => nomatch hx), fun _ => ⟨rfl, rfl, rfl, rfl⟩, fun h => absurd rfl h⟩)⟩
theorem lose_VV {v : Vault} (V : VV v) (k : Int) : VV (loseM v k) := by
  obtain ⟨s, h1, h2, h3⟩ := lose_open V k
  unfold loseM; rw [if_pos V, h2]; exact h3
theorem impl_Sync_eq (a b : List Bs) (ha : Small a) (hb : Small b) : L_impl_Sync none [.l (encS a), .l (encS b)] = some [.l [], .l (encS (if LogOk a b then a ++ b else []))] := by
  have h1 := ha.1; have h2 := hb.1
  rw [e_impl_Sync_i, mostE]
  by_cases h : LogOk a b
  rotate_left; · rw [if_neg h]; simp (disch := omega) only [push_cast, impl_ValidLog_eq a b ha hb, decide_eq_false h]; rfl
  have hl := h.n
  rw [if_pos h]
  simp (disch := omega) only [push_cast, impl_ValidLog_eq a b ha hb, decide_eq_true h, impl_copied_eq (encS a) (by rw [encS_len]; omega)]
  rw [encS_app]
theorem impl_Lose_eq {v : Vault} (h : SmallV v) (hc : CutV v) (k : Int) : L_impl_Lose none (encV v ++ [.i k]) = some (encLo (loseM v k)) := by
  have hvv := impl_ValidVault_eq h hc
  unfold encV at hvv
  show L_impl_Lose none [.i v.width, .i v.limit, .l (encS v.safe), .l (encS v.loose), .i v.st.width, .i v.st.now, .i v.st.given, .i v.st.births, .l (encK v.st.things), .l (encP v.st.pins), .l (encL v.st.leases), .i v.rd.phase, .l (encS v.rd.queue), .l (encS v.rd.marked), .i v.rd.top, .i v.rd.at_, .i v.rd.rounds, .i k] = _
  rw [e_impl_Lose_i, hvv]
  unfold loseM
  by_cases V : VV v
  rotate_left; · rw [if_neg V, decide_eq_false V]; rfl
  rw [if_pos V, decide_eq_true V]
  obtain ⟨s, h1, h2, h3⟩ := lose_open V k
  have hs := h3.small
  simp (disch := omega) only [push_cast, impl_Crash_eq v.safe v.loose k h.a h.b]
  rw [if_pos V.log, show ([] : Rw) = encS [] from rfl, impl_Open_eq _ _ _ _ hs.a hs.b hs.ab, h2]
  rfl
theorem impl_Flush_eq {v : Vault} (h : SmallV v) (hc : CutV v) : L_impl_Flush none (encV v) = some (encFl (flushM v)) := by
  have hvv := impl_ValidVault_eq h hc
  unfold encV at hvv ⊢
  rw [e_impl_Flush_i, hvv]
  unfold flushM
  by_cases V : VV v
  rotate_left; · rw [if_neg V, decide_eq_false V]; rfl
  rw [if_pos V, decide_eq_true V]
  have hcp := impl_copyVault_eq h
  unfold encV at hcp
  rw [hcp]
  simp only [vI, vL, List.cons_append, List.nil_append]
  have hl := V.log.n
  simp (disch := omega) only [push_cast, impl_Sync_eq v.safe v.loose h.a h.b]
  rw [if_pos V.log]
  rfl
end KV
end
section
namespace KV
open Go Go.Eng
open Classical
section
variable {s : State} {x : Bs} (V : VS s)
include V
theorem dropP_loop (hr : ¬ isRef s.things x) : L_spec_l4Drop__plain (some 7) [.s x, .i 0, .i s.width, .i s.now, .i s.given, .i s.births, .l (encK s.things), .l (encP s.pins), .l (encL s.leases), .i 0, .i 0, .i 0, .i 0, .i 0, .s E0, .i 0, .s E0, .s E0, .l (encK []), .l [], .l [], .l []] =
    some [.i 0, .i s.width, .i s.now, .i s.given, .i s.births, .l (encP s.pins), .l (encL s.leases), .s E0, .i 0, .s E0, .s E0, .l (encK (delK x s.things))] := by
  have h1 := V.nT
  refine filter_loop K0 (l := s.things) (p := fun k => !decide (k.sum = x)) (f := fun i a => L_spec_l4Drop__plain (some 7) [.s x, .i (i : Int), .i s.width, .i s.now, .i s.given, .i s.births, .l (encK s.things), .l (encP s.pins), .l (encL s.leases), .i 0, .i 0, .i 0, .i 0, .i 0, .s E0, .i 0, .s E0, .s E0, .l (encK a), .l [], .l [], .l []]) (fun i a hi ha => ?_) ?_
  · show L_spec_l4Drop__plain _ _ = L_spec_l4Drop__plain _ _
    have hm := nth_mem (d := K0) hi
    have hrl := okRefs V _ hm
    have hn : ¬ x ∈ (nth K0 s.things i).thing.refs := fun h => hr ⟨_, hm, h⟩
    rw [e_spec_l4Drop__plain_7, mostE]
    by_cases hc : (nth K0 s.things i).sum = x
    · rw [if_neg (by simp [hc])]; simp (disch := omega) only [push_cast, spec_l4Has_eq _ x (show (nth K0 s.things i).thing.refs.length ≤ 4611686018427387904 by omega), decide_eq_false hn]
    · rw [if_pos (by simp [hc]), ← encK_app]; simp (disch := omega) only [push_cast, spec_l4Has_eq _ x (show (nth K0 s.things i).thing.refs.length ≤ 4611686018427387904 by omega), decide_eq_false hn] <;> rfl
  · show L_spec_l4Drop__plain _ _ = _
    rw [e_spec_l4Drop__plain_7]; simp (disch := omega) only [push_cast] <;> rfl
theorem dropP_ref (hr : isRef s.things x) : ∀ (i : Nat) (a : List Kept), i ≤ s.things.length → (a.length ≤ i ∧ ∃ j, i ≤ j ∧ j < s.things.length ∧ x ∈ (nth K0 s.things j).thing.refs) → L_spec_l4Drop__plain (some 7) [.s x, .i (i : Int), .i s.width, .i s.now, .i s.given, .i s.births, .l (encK s.things), .l (encP s.pins), .l (encL s.leases), .i 0, .i 0, .i 0, .i 0, .i 0, .s E0, .i 0, .s E0, .s E0, .l (encK a), .l [], .l [], .l []] =
    some [.i 6, .i 0, .i 0, .i 0, .i 0, .l [], .l [], .s E0, .i 0, .s E0, .s E0, .l []] := by
  have h1 := V.nT
  intro i a hi hI
  refine inv_loop_ex (f := fun i a => L_spec_l4Drop__plain (some 7) [.s x, .i (i : Int), .i s.width, .i s.now, .i s.given, .i s.births, .l (encK s.things), .l (encP s.pins), .l (encL s.leases), .i 0, .i 0, .i 0, .i 0, .i 0, .s E0, .i 0, .s E0, .s E0, .l (encK a), .l [], .l [], .l []]) (n := s.things.length) (I := fun i a => a.length ≤ i ∧ ∃ j, i ≤ j ∧ j < s.things.length ∧ x ∈ (nth K0 s.things j).thing.refs)
    (T := fun r => r = some [.i 6, .i 0, .i 0, .i 0, .i 0, .l [], .l [], .s E0, .i 0, .s E0, .s E0, .l []]) (fun i a hi hI => ?_) (fun a hI => ?_) i a hi hI
  · obtain ⟨ha, j, hj1, hj2, hj3⟩ := hI
    have hm := nth_mem (d := K0) hi
    have hrl := okRefs V _ hm
    by_cases hn : x ∈ (nth K0 s.things i).thing.refs
    · right
      show L_spec_l4Drop__plain _ _ = _
      rw [e_spec_l4Drop__plain_7]
      simp (disch := omega) only [push_cast, spec_l4Has_eq _ x (show (nth K0 s.things i).thing.refs.length ≤ 4611686018427387904 by omega), decide_eq_true hn]
    · left
      have hj : i + 1 ≤ j := by
        rcases Nat.eq_or_lt_of_le hj1 with h | h
        · rw [h] at hn; exact absurd hj3 hn
        · exact h
      by_cases hc : (nth K0 s.things i).sum = x
      · refine ⟨a, ?_, by omega, j, hj, hj2, hj3⟩
        show L_spec_l4Drop__plain _ _ = L_spec_l4Drop__plain _ _
        rw [e_spec_l4Drop__plain_7]
        simp (disch := omega) only [push_cast, spec_l4Has_eq _ x (show (nth K0 s.things i).thing.refs.length ≤ 4611686018427387904 by omega), decide_eq_false hn]
      · refine ⟨a ++ [nth K0 s.things i], ?_, by simp; omega, j, hj, hj2, hj3⟩
        show L_spec_l4Drop__plain _ _ = L_spec_l4Drop__plain _ _
        rw [e_spec_l4Drop__plain_7, mostE, ← encK_app]
        simp (disch := omega) only [push_cast, spec_l4Has_eq _ x (show (nth K0 s.things i).thing.refs.length ≤ 4611686018427387904 by omega), decide_eq_false hn] <;> rfl
  · obtain ⟨_, j, h1, h2, _⟩ := hI; omega
theorem dropP_eq (hT : hasT s.things x) : L_spec_l4Drop__plain none [.i s.width, .i s.now, .i s.given, .i s.births, .l (encK s.things), .l (encP s.pins), .l (encL s.leases), .s x] =
    some (if held s x ∨ isRef s.things x then [.i 6, .i 0, .i 0, .i 0, .i 0, .l [], .l [], .s E0, .i 0, .s E0, .s E0, .l []] else [.i 0, .i s.width, .i s.now, .i s.given, .i s.births, .l (encP s.pins), .l (encL s.leases), .s E0, .i 0, .s E0, .s E0, .l (encK (delK x s.things))]) := by
  have h2 := V.nP; have h3 := V.nL
  have hh := spec_l4Held_eq s x (by omega) (by omega)
  unfold encSt at hh
  rw [e_spec_l4Drop__plain_i]
  simp (disch := omega) only [push_cast, findT_eq V, show L_spec_l4Held none [.i s.width, .i s.now, .i s.given, .i s.births, .l (encK s.things), .l (encP s.pins), .l (encL s.leases), .s x] = _ from hh]
  rw [decide_eq_false (show ¬ findT s.things x < 0 from fun h => findT_neg.1 h hT)]
  by_cases c1 : held s x
  · rw [if_pos (Or.inl c1), decide_eq_true c1]; simp (disch := omega) only [push_cast] <;> rfl
  · rw [decide_eq_false c1]
    by_cases c2 : isRef s.things x
    · rw [if_pos (Or.inr c2)]
      have := dropP_ref V c2 0 [] (Nat.zero_le _) ⟨Nat.le_refl _, by
        obtain ⟨k, hk1, hk2⟩ := c2
        obtain ⟨j, hj, rfl⟩ := mem_nth K0 hk1
        exact ⟨j, Nat.zero_le _, hj, hk2⟩⟩
      simp (disch := omega) only [push_cast]
      rw [show L_spec_l4Drop__plain (some 7) [.s x, .i 0, .i s.width, .i s.now, .i s.given, .i s.births, .l (encK s.things), .l (encP s.pins), .l (encL s.leases), .i 0, .i 0, .i 0, .i 0, .i 0, .s E0, .i 0, .s E0, .s E0, .l [], .l [], .l [], .l []] = _ from this]
    · rw [if_neg (by rintro (h | h); exact c1 h; exact c2 h)]
      have := dropP_loop V c2
      simp (disch := omega) only [push_cast]
      rw [show L_spec_l4Drop__plain (some 7) [.s x, .i 0, .i s.width, .i s.now, .i s.given, .i s.births, .l (encK s.things), .l (encP s.pins), .l (encL s.leases), .i 0, .i 0, .i 0, .i 0, .i 0, .s E0, .i 0, .s E0, .s E0, .l [], .l [], .l [], .l []] = _ from this]
end
noncomputable def addU (l : List Bs) (x : Bs) : List Bs := if x ∈ l then l else l ++ [x]
theorem addU_len (l : List Bs) (x : Bs) : (addU l x).length ≤ l.length + 1 := by unfold addU; split <;> simp
theorem foldU_len (l : List Bs) : ∀ a, (l.foldl addU a).length ≤ a.length + l.length := by
  induction l with
  | nil => intro a; simp
  | cons x l ih => intro a; rw [List.foldl_cons, List.length_cons]; have := ih (addU a x); have := addU_len a x; omega
theorem mem_addU {l : List Bs} {x y : Bs} : y ∈ addU l x ↔ y ∈ l ∨ y = x := by
  unfold addU
  split
  · rename_i h; exact ⟨.inl, fun h2 => h2.elim id fun e => by rw [e]; exact h⟩
  · simp
theorem mem_foldU (l : List Bs) : ∀ a y, y ∈ l.foldl addU a ↔ y ∈ a ∨ y ∈ l := by
  induction l with
  | nil => intro a y; simp
  | cons x l ih => intro a y; rw [List.foldl_cons, ih, mem_addU, List.mem_cons, or_assoc]
theorem take_fold (l : List Bs) (a : List Bs) (i : Nat) (h : i < l.length) : ((l.take (i + 1)).foldl addU a) = addU ((l.take i).foldl addU a) (nth .empty l i) := by
  rw [take_nth .empty h, List.foldl_append]; rfl
noncomputable def rootsM (s : State) : List Bs := (s.leases.map (·.sum)).foldl addU ((s.pins.map (·.sum)).foldl addU [])
theorem nthP_sum (P : List Pin) (i : Nat) (h : i < P.length) : nth .empty (P.map (·.sum)) i = (nth P0 P i).sum := by
  rw [nth_get _ _ _ (by rw [List.length_map]; exact h), nth_get _ _ _ h, List.getElem_map]
theorem nthL_sum (P : List Lease) (i : Nat) (h : i < P.length) : nth .empty (P.map (·.sum)) i = (nth L0 P i).sum := by
  rw [nth_get _ _ _ (by rw [List.length_map]; exact h), nth_get _ _ _ h, List.getElem_map]
theorem spec_l5Roots_eq (s : State) (h1 : s.pins.length ≤ 1000000) (h2 : s.leases.length ≤ 1000000) : L_spec_l5Roots none (encSt s) = some [.l (encS (rootsM s))] := by
  unfold encSt
  have l2 : ∀ a : List Bs, a.length ≤ 1000000 → L_spec_l5Roots (some 8) [.i 0, .i s.width, .i s.now, .i s.given, .i s.births, .l (encK s.things), .l (encP s.pins), .l (encL s.leases), .l (encS a)] = some [.l (encS ((s.leases.map (·.sum)).foldl addU a))] := by
    intro a0 ha0
    exact inv_loop (f := fun (i : Nat) (a : List Bs) => L_spec_l5Roots (some 8) [.i (i : Int), .i s.width, .i s.now, .i s.given, .i s.births, .l (encK s.things), .l (encP s.pins), .l (encL s.leases), .l (encS a)]) (n := s.leases.length)
      (I := fun i a => a = ((s.leases.map (·.sum)).take i).foldl addU a0) (fun i a hi hI => ⟨addU a (nth L0 s.leases i).sum, by
        show L_spec_l5Roots _ _ = L_spec_l5Roots _ _
        have hl : a.length ≤ 1000000 + i := by rw [hI]; have := foldU_len ((s.leases.map (·.sum)).take i) a0; rw [List.length_take] at this; omega
        rw [e_spec_l5Roots_8, mostE]
        unfold addU
        by_cases hm : (nth L0 s.leases i).sum ∈ a
        · rw [if_pos hm]; simp (disch := omega) only [push_cast, spec_l4Has_eq a _ (show a.length ≤ 4611686018427387904 by omega), decide_eq_true hm] <;> rfl
        · rw [if_neg hm, ← encS_app]; simp (disch := omega) only [push_cast, spec_l4Has_eq a _ (show a.length ≤ 4611686018427387904 by omega), decide_eq_false hm] <;> rfl, by
        show addU a _ = _
        rw [take_fold _ _ _ (by rw [List.length_map]; exact hi), hI, nthL_sum _ _ hi]⟩) (fun a hI => by
        show L_spec_l5Roots _ _ = _
        rw [e_spec_l5Roots_8]
        simp (disch := omega) only [push_cast]
        rw [hI, List.take_of_length_le (by rw [List.length_map]; exact Nat.le_refl _)]) 0 a0 (Nat.zero_le _) rfl
  rw [e_spec_l5Roots_i]
  have l1 := inv_loop (f := fun (i : Nat) (a : List Bs) => L_spec_l5Roots (some 3) [.i (i : Int), .i s.width, .i s.now, .i s.given, .i s.births, .l (encK s.things), .l (encP s.pins), .l (encL s.leases), .l (encS a)]) (n := s.pins.length) (T := some [.l (encS (rootsM s))])
      (I := fun i a => a = ((s.pins.map (·.sum)).take i).foldl addU []) (fun i a hi hI => ⟨addU a (nth P0 s.pins i).sum, by
        show L_spec_l5Roots _ _ = L_spec_l5Roots _ _
        have hl : a.length ≤ i := by rw [hI]; have := foldU_len ((s.pins.map (·.sum)).take i) []; rw [List.length_take] at this; simp at this; omega
        rw [e_spec_l5Roots_3, mostE]
        unfold addU
        by_cases hm : (nth P0 s.pins i).sum ∈ a
        · rw [if_pos hm]; simp (disch := omega) only [push_cast, spec_l4Has_eq a _ (show a.length ≤ 4611686018427387904 by omega), decide_eq_true hm] <;> rfl
        · rw [if_neg hm, ← encS_app]; simp (disch := omega) only [push_cast, spec_l4Has_eq a _ (show a.length ≤ 4611686018427387904 by omega), decide_eq_false hm] <;> rfl, by
        show addU a _ = _
        rw [take_fold _ _ _ (by rw [List.length_map]; exact hi), hI, nthP_sum _ _ hi]⟩) (fun a hI => by
        show L_spec_l5Roots _ _ = _
        have hl : a.length ≤ s.pins.length := by rw [hI]; have := foldU_len ((s.pins.map (·.sum)).take s.pins.length) []; rw [List.length_take] at this; simp at this; omega
        rw [e_spec_l5Roots_3]
        simp (disch := omega) only [push_cast]
        refine (l2 a (by omega)).trans ?_
        unfold rootsM
        rw [hI, List.take_of_length_le (by rw [List.length_map]; exact Nat.le_refl _)]) 0 [] (Nat.zero_le _) rfl
  exact l1
noncomputable def bestI (T : List Kept) (a : Int) : Nat → Int
  | 0 => -1
  | i + 1 => if (nth K0 T i).born < a ∧ (bestI T a i < 0 ∨ (nth K0 T (bestI T a i).toNat).born < (nth K0 T i).born) then (i : Int) else bestI T a i
theorem bestI_lt (T : List Kept) (a : Int) : ∀ i, -1 ≤ bestI T a i ∧ bestI T a i < i
  | 0 => by simp [bestI]
  | i + 1 => by
    have := bestI_lt T a i
    simp only [bestI]
    split <;> omega
theorem bestI_is (T : List Kept) (a : Int) : ∀ i, (bestI T a i < 0 → ∀ j, j < i → ¬ (nth K0 T j).born < a) ∧ (0 ≤ bestI T a i → (nth K0 T (bestI T a i).toNat).born < a ∧ ∀ j, j < i → (nth K0 T j).born < a → (nth K0 T j).born ≤ (nth K0 T (bestI T a i).toNat).born)
  | 0 => by
    refine ⟨fun _ j hj => by omega, fun h => ?_⟩
    simp [bestI] at h
  | i + 1 => by
    obtain ⟨h1, h2⟩ := bestI_is T a i
    have h3 := bestI_lt T a i
    simp only [bestI]
    split
    · rename_i hc
      refine ⟨fun h => by omega, fun _ => ?_⟩
      rw [toNat_cast]
      refine ⟨hc.1, fun j hj hb => ?_⟩
      rcases Nat.lt_or_ge j i with hji | hji
      · rcases hc.2 with h4 | h4
        · exact absurd hb (h1 h4 j hji)
        · rcases (by omega : bestI T a i < 0 ∨ 0 ≤ bestI T a i) with h5 | h5
          · exact absurd hb (h1 h5 j hji)
          · have := (h2 h5).2 j hji hb; omega
      · obtain rfl : j = i := by omega
        exact Int.le_refl _
    · rename_i hc
      refine ⟨fun h j hj hb => ?_, fun h => ⟨(h2 h).1, fun j hj hb => ?_⟩⟩
      · rcases Nat.lt_or_ge j i with hji | hji
        · exact h1 h j hji hb
        · obtain rfl : j = i := by omega
          exact hc ⟨hb, .inl h⟩
      · rcases Nat.lt_or_ge j i with hji | hji
        · exact (h2 h).2 j hji hb
        · obtain rfl : j = i := by omega
          rcases (by omega : (nth K0 T (bestI T a j).toNat).born < (nth K0 T j).born ∨ (nth K0 T j).born ≤ (nth K0 T (bestI T a j).toNat).born) with h6 | h6
          · exact absurd ⟨hb, .inr h6⟩ hc
          · omega
noncomputable def bestT (T : List Kept) (a : Int) : Int := bestI T a T.length
theorem spec_l6Next_eq (s : State) (a : Int) (hn : s.things.length ≤ 1000000) : L_spec_l6Next none (encSt s ++ [.i a]) = some [.i (bestT s.things a)] := by
  show L_spec_l6Next none [.i s.width, .i s.now, .i s.given, .i s.births, .l (encK s.things), .l (encP s.pins), .l (encL s.leases), .i a] = _
  rw [e_spec_l6Next_i]
  have := inv_loop (f := fun (i : Nat) (b : Int) => L_spec_l6Next (some 3) [.i a, .i b, .i (i : Int), .i s.width, .i s.now, .i s.given, .i s.births, .l (encK s.things), .l (encP s.pins), .l (encL s.leases)]) (n := s.things.length) (T := some [.i (bestT s.things a)])
    (I := fun i b => b = bestI s.things a i) (fun i b hi hI => ⟨bestI s.things a (i + 1), by
      show L_spec_l6Next _ _ = L_spec_l6Next _ _
      have hb := bestI_lt s.things a i
      rw [e_spec_l6Next_3]
      simp only [bestI]
      rw [← hI] at hb ⊢
      by_cases c1 : (nth K0 s.things i).born < a
      rotate_left; · rw [if_neg fun h => c1 h.1]; simp (disch := omega) only [push_cast]
      by_cases c2 : b < 0
      · rw [if_pos ⟨c1, .inl c2⟩]; simp (disch := omega) only [push_cast]
      by_cases c3 : (nth K0 s.things b.toNat).born < (nth K0 s.things i).born
      · rw [if_pos ⟨c1, .inr c3⟩]; simp (disch := omega) only [push_cast]
      · rw [if_neg fun h => h.2.elim c2 c3]; simp (disch := omega) only [push_cast], rfl⟩) (fun b hI => by
      show L_spec_l6Next _ _ = _
      rw [e_spec_l6Next_3]
      simp (disch := omega) only [push_cast]
      rw [hI]; rfl) 0 (-1) (Nat.zero_le _) rfl
  exact this
noncomputable def unitM (s : State) (r : Round) : Round × Bs :=
  if r.phase = 0 then (⟨1, rootsM s, r.marked, s.births, s.births + 1, r.rounds⟩, E0)
  else match r.queue with
  | x :: q => if hasT s.things x ∧ x ∉ r.marked then (⟨r.phase, q ++ (nth K0 s.things (lb (qK x) s.things)).thing.refs.filter fun y => !decide (y ∈ r.marked ++ [x]), r.marked ++ [x], r.top, r.at_, r.rounds⟩, E0) else (⟨r.phase, q, r.marked, r.top, r.at_, r.rounds⟩, E0)
  | [] => if bestT s.things r.at_ < 0 then (⟨0, [], [], 0, 0, r.rounds + 1⟩, E0)
    else (⟨2, [], r.marked, r.top, (nth K0 s.things (bestT s.things r.at_).toNat).born, r.rounds⟩, if (nth K0 s.things (bestT s.things r.at_).toNat).sum ∈ r.marked ∨ held s (nth K0 s.things (bestT s.things r.at_).toNat).sum ∨ isRef s.things (nth K0 s.things (bestT s.things r.at_).toNat).sum then E0 else (nth K0 s.things (bestT s.things r.at_).toNat).sum)
noncomputable def stepSt (s : State) (x : Bs) : State := if x = E0 then s else { s with things := delK x s.things }
def oneD (x : Bs) : List Bs := if x = E0 then [] else [x]
def encUn (s : State) (r : Round) (d : Bs) : Lv := [.i 0, .i s.width, .i s.now, .i s.given, .i s.births, .l (encK s.things), .l (encP s.pins), .l (encL s.leases), .i r.phase, .l (encS r.queue), .l (encS r.marked), .i r.top, .i r.at_, .i r.rounds, .l (encS (oneD d))]
theorem VS.sumNe {s : State} (V : VS s) {k : Kept} (hk : k ∈ s.things) : k.sum ≠ E0 := by
  have := V.wd
  intro h
  have h2 := (V.okT k hk).2.1
  have h3 := sumM_width (s := formM k.thing) V.wd
  rw [← h2, h] at h3
  have : (E0 : Bs).size = 0 := rfl
  omega
theorem filt_step (l m : List Bs) (i : Nat) (hi : i < l.length) : (l.take (i + 1)).filter (fun y => !decide (y ∈ m)) = (l.take i).filter (fun y => !decide (y ∈ m)) ++ (if nth .empty l i ∈ m then [] else [nth .empty l i]) := by
  rw [take_nth .empty hi, List.filter_append]
  congr 1
  split
  · rename_i h; simp [h]
  · rename_i h; simp [h]
theorem spec_l6Unit_eq {s : State} (V : VS s) {r : Round} (h : RoundOk s.width s.births r) (hr : r.rounds < 1000000000) : L_spec_l6Unit none (encSt s ++ encR r) = some (encUn (stepSt s (unitM s r).2) (unitM s r).1 (unitM s r).2) := by
  show L_spec_l6Unit none [.i s.width, .i s.now, .i s.given, .i s.births, .l (encK s.things), .l (encP s.pins), .l (encL s.leases), .i r.phase, .l (encS r.queue), .l (encS r.marked), .i r.top, .i r.at_, .i r.rounds] = _
  have n1 := V.nT; have n2 := V.nP; have n3 := V.nL; have hb := V.births; have hq := h.nQ; have hm := h.nM; have hrd := h.rds
  have hro := spec_l5Roots_eq s (by omega) (by omega)
  have hnx := spec_l6Next_eq s r.at_ (by omega)
  unfold encSt at hro
  have hnx' : L_spec_l6Next none [.i s.width, .i s.now, .i s.given, .i s.births, .l (encK s.things), .l (encP s.pins), .l (encL s.leases), .i r.at_] = _ := hnx
  rw [e_spec_l6Unit_i, mostE]
  have st0 : stepSt s E0 = s := if_pos rfl
  by_cases h0 : r.phase = 0
  · have : unitM s r = (⟨1, rootsM s, r.marked, s.births, s.births + 1, r.rounds⟩, E0) := by unfold unitM; rw [if_pos h0]
    rw [this, st0]
    simp (disch := omega) only [push_cast, hro]; rfl
  cases hqq : r.queue with
  | cons x q =>
    rw [hqq] at hq
    simp only [List.length_cons] at hq
    have hsub : Eng.sub (encS (x :: q)) 1 (q.length + 1) = encS q := by rw [encS_sub]; simp
    have hx0 : (rd (encS (x :: q)) 0 0).str = x := rfl
    have hf := findT_neg (T := s.things) (x := x)
    by_cases c1 : hasT s.things x
    rotate_left
    · have : unitM s r = (⟨r.phase, q, r.marked, r.top, r.at_, r.rounds⟩, E0) := by unfold unitM; rw [if_neg h0, hqq]; simp only; rw [if_neg fun h => c1 h.1]
      rw [this, st0]
      have hneg := hf.2 c1
      simp (disch := omega) only [push_cast, hsub, hx0, spec_l4Find_eq _ _ _ _ s.things _ _ x V.srtT (by omega), List.nil_append]; rfl
    have c1' : ¬ findT s.things x < 0 := fun h => hf.1 h c1
    by_cases c2 : x ∈ r.marked
    · have : unitM s r = (⟨r.phase, q, r.marked, r.top, r.at_, r.rounds⟩, E0) := by unfold unitM; rw [if_neg h0, hqq]; simp only; rw [if_neg fun h => h.2 c2]
      rw [this, st0]
      simp (disch := omega) only [push_cast, hsub, hx0, spec_l4Find_eq _ _ _ _ s.things _ _ x V.srtT (by omega), List.nil_append, spec_l4Has_eq r.marked x (by omega), decide_eq_true c2]; rfl
    have : unitM s r = (⟨r.phase, q ++ (nth K0 s.things (lb (qK x) s.things)).thing.refs.filter fun y => !decide (y ∈ r.marked ++ [x]), r.marked ++ [x], r.top, r.at_, r.rounds⟩, E0) := by unfold unitM; rw [if_neg h0, hqq]; simp only; rw [if_pos ⟨c1, c2⟩]
    rw [this, st0]
    have hfi : findT s.things x = (lb (qK x) s.things : Int) := if_pos c1
    have hlt := ((hasT_iff V.srtT x).1 c1).1
    have hrl := (V.okT _ (nth_mem (d := K0) hlt)).1.refs
    have hml : (r.marked ++ [x]).length ≤ 4611686018427387904 := by rw [List.length_append]; simp; omega
    have lp := inv_loop (f := fun (i : Nat) (a : List Bs) => L_spec_l6Unit (some 15) [.l (encS (nth K0 s.things (lb (qK x) s.things)).thing.refs), .i (i : Int), .i s.width, .i s.now, .i s.given, .i s.births, .l (encK s.things), .l (encP s.pins), .l (encL s.leases), .i r.phase, .l (encS (x :: q)), .i r.top, .i r.at_, .i r.rounds, .i 0, .i 0, .i 0, .i 0, .i 0, .i 0, .i 0, .i 0, .i 0, .l (encS a), .l (encS (r.marked ++ [x])), .l [], .l [], .l [], .l [], .l [], .l []])
      (n := (nth K0 s.things (lb (qK x) s.things)).thing.refs.length) (T := some (encUn s ⟨r.phase, q ++ (nth K0 s.things (lb (qK x) s.things)).thing.refs.filter fun y => !decide (y ∈ r.marked ++ [x]), r.marked ++ [x], r.top, r.at_, r.rounds⟩ E0))
      (I := fun i a => a = q ++ ((nth K0 s.things (lb (qK x) s.things)).thing.refs.take i).filter fun y => !decide (y ∈ r.marked ++ [x])) (fun i a hi hI => ⟨a ++ (if nth .empty (nth K0 s.things (lb (qK x) s.things)).thing.refs i ∈ r.marked ++ [x] then [] else [nth .empty (nth K0 s.things (lb (qK x) s.things)).thing.refs i]), by
        show L_spec_l6Unit _ _ = L_spec_l6Unit _ _
        have ha : a.length ≤ 24000 := by
          rw [hI, List.length_append]
          have := List.length_filter_le (fun y => !decide (y ∈ r.marked ++ [x])) ((nth K0 s.things (lb (qK x) s.things)).thing.refs.take i)
          rw [List.length_take] at this; omega
        rw [e_spec_l6Unit_15, mostE]
        by_cases hc : nth .empty (nth K0 s.things (lb (qK x) s.things)).thing.refs i ∈ r.marked ++ [x]
        · rw [if_pos hc, List.append_nil]; simp (disch := omega) only [push_cast, spec_l4Has_eq _ (nth .empty (nth K0 s.things (lb (qK x) s.things)).thing.refs i) hml, decide_eq_true hc]
        · rw [if_neg hc, ← encS_app a]; simp (disch := omega) only [push_cast, spec_l4Has_eq _ (nth .empty (nth K0 s.things (lb (qK x) s.things)).thing.refs i) hml, decide_eq_false hc] <;> rfl, by
        show a ++ _ = _
        rw [filt_step _ _ _ hi, hI, List.append_assoc]⟩) (fun a hI => by
        show L_spec_l6Unit _ _ = _
        rw [e_spec_l6Unit_15]
        simp (disch := omega) only [push_cast]
        rw [hI, List.take_length]; rfl) 0 q (Nat.zero_le _) (by simp)
    simp (disch := omega) only [push_cast, hsub, hx0, spec_l4Find_eq _ _ _ _ s.things _ _ x V.srtT (by omega), List.nil_append, spec_l4Has_eq r.marked x (by omega), decide_eq_false c2, hfi]
    rw [encS_one, encS_app]
    exact lp
  | nil =>
    have hbl := bestI_lt s.things r.at_ s.things.length
    have hbt : bestI s.things r.at_ s.things.length = bestT s.things r.at_ := rfl
    rw [hbt] at hbl
    by_cases c1 : bestT s.things r.at_ < 0
    · have : unitM s r = (⟨0, [], [], 0, 0, r.rounds + 1⟩, E0) := by unfold unitM; rw [if_neg h0, hqq]; simp only; rw [if_pos c1]
      rw [this, st0]
      simp (disch := omega) only [push_cast, hnx']; rfl
    obtain ⟨n, hn⟩ : ∃ n : Nat, bestT s.things r.at_ = n := ⟨(bestT s.things r.at_).toNat, by omega⟩
    have hnl : n < s.things.length := by omega
    have hmem := nth_mem (d := K0) hnl
    have hne := V.sumNe hmem
    have hT : hasT s.things (nth K0 s.things n).sum := ⟨_, hmem, rfl⟩
    have hu : unitM s r = (⟨2, [], r.marked, r.top, (nth K0 s.things n).born, r.rounds⟩, if (nth K0 s.things n).sum ∈ r.marked ∨ held s (nth K0 s.things n).sum ∨ isRef s.things (nth K0 s.things n).sum then E0 else (nth K0 s.things n).sum) := by
      unfold unitM; rw [if_neg h0, hqq]; simp only; rw [if_neg c1, hn, toNat_cast]
    rw [hu]
    simp only
    by_cases c2 : (nth K0 s.things n).sum ∈ r.marked
    · rw [if_pos (Or.inl c2), st0]
      simp (disch := omega) only [push_cast, hnx', hn, spec_l4Has_eq r.marked (nth K0 s.things n).sum (by omega), decide_eq_true c2]; rfl
    by_cases c3 : held s (nth K0 s.things n).sum ∨ isRef s.things (nth K0 s.things n).sum
    · rw [if_pos (Or.inr c3), st0]
      have := dropP_eq V hT
      rw [if_pos c3] at this
      simp (disch := omega) only [push_cast, hnx', hn, spec_l4Has_eq r.marked (nth K0 s.things n).sum (by omega), decide_eq_false c2, this]; rfl
    · have hno : ¬ ((nth K0 s.things n).sum ∈ r.marked ∨ held s (nth K0 s.things n).sum ∨ isRef s.things (nth K0 s.things n).sum) := fun h => h.elim c2 c3
      rw [if_neg hno]
      have := dropP_eq V hT
      rw [if_neg c3] at this
      simp (disch := omega) only [push_cast, hnx', hn, spec_l4Has_eq r.marked (nth K0 s.things n).sum (by omega), decide_eq_false c2, this]
      unfold stepSt encUn oneD; rw [if_neg hne, if_neg hne]; rfl
end KV
end
section
namespace KV
open Go Go.Eng
open Classical
theorem put_1 (x : Bs) (a : List Bs) (p t at_ r : Int) (m : Rw) (ha : a.length ≤ 1000000) : L_impl_State_next_1 none [.s x, .m (setM a), .i p, .l m, .i t, .i at_, .i r, .l (encS a)] = some [.m (setM (addU a x)), .i p, .l m, .i t, .i at_, .i r, .l (encS (addU a x))] := by
  rw [e_impl_State_next_1_i, mostE]
  unfold addU
  by_cases h : x ∈ a
  · rw [if_pos h]; simp (disch := omega) only [push_cast, inM, decide_eq_true h]
  · rw [if_neg h, ← encS_app]; simp (disch := omega) only [push_cast, inM, decide_eq_false h, mput_setM x a h]; rfl
def encNx (r : Round) (d : Bs) : Lv := [.i r.phase, .l (encS r.marked), .i r.top, .i r.at_, .i r.rounds, .s d, .b true, .l (encS r.queue)]
theorem impl_next_eq {s : State} (V : VS s) {r : Round} (h : RoundOk s.width s.births r) : L_impl_State_next none (encR r ++ encSt s) = some (if r.rounds = 1000000000 then [.i 0, .l [], .i 0, .i 0, .i 0, .s E0, .b false, .l []] else encNx (unitM s r).1 (unitM s r).2) := by
  show L_impl_State_next none [.i r.phase, .l (encS r.queue), .l (encS r.marked), .i r.top, .i r.at_, .i r.rounds, .i s.width, .i s.now, .i s.given, .i s.births, .l (encK s.things), .l (encP s.pins), .l (encL s.leases)] = _
  have n1 := V.nT; have n2 := V.nP; have n3 := V.nL; have hb := V.births; have hq := h.nQ; have hm := h.nM; have hrd := h.rds
  have hcr := impl_copyRound_eq r (by omega) (by omega)
  have hcr' : L_impl_copyRound none [.i r.phase, .l (encS r.queue), .l (encS r.marked), .i r.top, .i r.at_, .i r.rounds] = some [.i r.phase, .i r.top, .i r.at_, .i r.rounds, .l (encS r.queue), .l (encS r.marked)] := hcr
  rw [e_impl_State_next_i, mostE]
  by_cases hr : r.rounds = 1000000000
  · rw [if_pos hr]; simp (disch := omega) only [push_cast, hcr']
  rw [if_neg hr]
  by_cases h0 : r.phase = 0
  · have hrest := h.rest h0
    have : unitM s r = (⟨1, rootsM s, r.marked, s.births, s.births + 1, r.rounds⟩, E0) := by unfold unitM; rw [if_pos h0]
    rw [this]
    have l2 : ∀ a : List Bs, a.length ≤ 500000 → L_impl_State_next (some 14) [.l (encL s.leases), .i (s.leases.length : Int), .i 0, .i 0, .i 0, .i 0, .i 0, .i 1, .l (encS r.marked), .i s.births, .i (s.births + 1), .i r.rounds, .l [], .l [], .l (encS a), .m (setM a)] = some (encNx ⟨1, (s.leases.map (·.sum)).foldl addU a, r.marked, s.births, s.births + 1, r.rounds⟩ E0) := by
      intro a0 ha0
      exact inv_loop (f := fun (i : Nat) (a : List Bs) => L_impl_State_next (some 14) [.l (encL s.leases), .i (s.leases.length : Int), .i (i : Int), .i 0, .i 0, .i 0, .i 0, .i 1, .l (encS r.marked), .i s.births, .i (s.births + 1), .i r.rounds, .l [], .l [], .l (encS a), .m (setM a)]) (n := s.leases.length)
        (I := fun i a => a = ((s.leases.map (·.sum)).take i).foldl addU a0) (fun i a hi hI => ⟨addU a (nth L0 s.leases i).sum, by
          show L_impl_State_next _ _ = L_impl_State_next _ _
          have hl : a.length ≤ 500000 + i := by rw [hI]; have := foldU_len ((s.leases.map (·.sum)).take i) a0; rw [List.length_take] at this; omega
          rw [e_impl_State_next_14]
          simp (disch := omega) only [push_cast, put_1 (nth L0 s.leases i).sum a 1 s.births (s.births + 1) r.rounds (encS r.marked) (by omega)] <;> rfl, by
          show addU a _ = _
          rw [take_fold _ _ _ (by rw [List.length_map]; exact hi), hI, nthL_sum _ _ hi]⟩) (fun a hI => by
          show L_impl_State_next _ _ = _
          rw [e_impl_State_next_14]
          simp (disch := omega) only [push_cast]
          rw [hI, List.take_of_length_le (by rw [List.length_map]; exact Nat.le_refl _)]; rfl) 0 a0 (Nat.zero_le _) rfl
    have l1 := inv_loop (f := fun (i : Nat) (a : List Bs) => L_impl_State_next (some 9) [.l (encP s.pins), .i (s.pins.length : Int), .i (i : Int), .i s.width, .i s.now, .i s.given, .i s.births, .l (encK s.things), .l (encP s.pins), .l (encL s.leases), .i 0, .i 0, .i 0, .i 0, .i 1, .l (encS r.marked), .i s.births, .i (s.births + 1), .i r.rounds, .l [], .l [], .l (encS a), .m (setM a)]) (n := s.pins.length) (T := some (encNx ⟨1, rootsM s, r.marked, s.births, s.births + 1, r.rounds⟩ E0))
        (I := fun i a => a = ((s.pins.map (·.sum)).take i).foldl addU []) (fun i a hi hI => ⟨addU a (nth P0 s.pins i).sum, by
          show L_impl_State_next _ _ = L_impl_State_next _ _
          have hl : a.length ≤ i := by rw [hI]; have := foldU_len ((s.pins.map (·.sum)).take i) []; rw [List.length_take] at this; simp at this; omega
          rw [e_impl_State_next_9]
          simp (disch := omega) only [push_cast, put_1 (nth P0 s.pins i).sum a 1 s.births (s.births + 1) r.rounds (encS r.marked) (by omega)] <;> rfl, by
          show addU a _ = _
          rw [take_fold _ _ _ (by rw [List.length_map]; exact hi), hI, nthP_sum _ _ hi]⟩) (fun a hI => by
          show L_impl_State_next _ _ = _
          have hl : a.length ≤ s.pins.length := by rw [hI]; have := foldU_len ((s.pins.map (·.sum)).take s.pins.length) []; rw [List.length_take] at this; simp at this; omega
          rw [e_impl_State_next_9]
          simp (disch := omega) only [push_cast]
          refine (l2 a (by omega)).trans ?_
          unfold rootsM
          rw [hI, List.take_of_length_le (by rw [List.length_map]; exact Nat.le_refl _)]) 0 [] (Nat.zero_le _) rfl
    have l1' : L_impl_State_next (some 9) [.l (encP s.pins), .i (s.pins.length : Int), .i 0, .i s.width, .i s.now, .i s.given, .i s.births, .l (encK s.things), .l (encP s.pins), .l (encL s.leases), .i 0, .i 0, .i 0, .i 0, .i 1, .l (encS r.marked), .i s.births, .i (s.births + 1), .i r.rounds, .l [], .l [], .l [], .m []] = _ := l1
    rw [hrest.1] at hcr' ⊢
    simp (disch := omega) only [push_cast, hcr']
    exact l1'
  cases hqq : r.queue with
  | cons x q =>
    rw [hqq] at hq hcr'
    simp only [List.length_cons] at hq
    have hsub : Eng.sub (encS (x :: q)) 1 (q.length + 1) = encS q := by rw [encS_sub]; simp
    have hx0 : (rd (encS (x :: q)) 0 0).str = x := rfl
    by_cases c1 : hasT s.things x
    rotate_left
    · have : unitM s r = (⟨r.phase, q, r.marked, r.top, r.at_, r.rounds⟩, E0) := by unfold unitM; rw [if_neg h0, hqq]; simp only; rw [if_neg fun h => c1 h.1]
      rw [this]
      simp (disch := omega) only [push_cast, hcr', hsub, hx0, impl_thing_eq _ _ _ _ s.things _ _ x V.srtT (by omega), decide_eq_false c1]; rfl
    by_cases c2 : x ∈ r.marked
    · have : unitM s r = (⟨r.phase, q, r.marked, r.top, r.at_, r.rounds⟩, E0) := by unfold unitM; rw [if_neg h0, hqq]; simp only; rw [if_neg fun h => h.2 c2]
      rw [this]
      simp (disch := omega) only [push_cast, hcr', hsub, hx0, impl_thing_eq _ _ _ _ s.things _ _ x V.srtT (by omega), decide_eq_true c1, impl_has_eq r.marked x (by omega), decide_eq_true c2]; rfl
    have : unitM s r = (⟨r.phase, q ++ (nth K0 s.things (lb (qK x) s.things)).thing.refs.filter fun y => !decide (y ∈ r.marked ++ [x]), r.marked ++ [x], r.top, r.at_, r.rounds⟩, E0) := by unfold unitM; rw [if_neg h0, hqq]; simp only; rw [if_pos ⟨c1, c2⟩]
    rw [this]
    have hlt := ((hasT_iff V.srtT x).1 c1).1
    have hrl := (V.okT _ (nth_mem (d := K0) hlt)).1.refs
    have hml : (r.marked ++ [x]).length ≤ 4611686018427387904 := by rw [List.length_append]; simp; omega
    have lp := inv_loop (f := fun (i : Nat) (a : List Bs) => L_impl_State_next (some 26) [.l (encS (nth K0 s.things (lb (qK x) s.things)).thing.refs), .i ((nth K0 s.things (lb (qK x) s.things)).thing.refs.length : Int), .i (i : Int), .i 0, .i 0, .i 0, .i 0, .i r.phase, .i r.top, .i r.at_, .i r.rounds, .l [], .l [], .l (encS a), .l (encS (r.marked ++ [x]))])
      (n := (nth K0 s.things (lb (qK x) s.things)).thing.refs.length) (T := some (encNx ⟨r.phase, q ++ (nth K0 s.things (lb (qK x) s.things)).thing.refs.filter fun y => !decide (y ∈ r.marked ++ [x]), r.marked ++ [x], r.top, r.at_, r.rounds⟩ E0))
      (I := fun i a => a = q ++ ((nth K0 s.things (lb (qK x) s.things)).thing.refs.take i).filter fun y => !decide (y ∈ r.marked ++ [x])) (fun i a hi hI => ⟨a ++ (if nth .empty (nth K0 s.things (lb (qK x) s.things)).thing.refs i ∈ r.marked ++ [x] then [] else [nth .empty (nth K0 s.things (lb (qK x) s.things)).thing.refs i]), by
        show L_impl_State_next _ _ = L_impl_State_next _ _
        have ha : a.length ≤ 24000 := by
          rw [hI, List.length_append]
          have := List.length_filter_le (fun y => !decide (y ∈ r.marked ++ [x])) ((nth K0 s.things (lb (qK x) s.things)).thing.refs.take i)
          rw [List.length_take] at this; omega
        rw [e_impl_State_next_26, mostE]
        by_cases hc : nth .empty (nth K0 s.things (lb (qK x) s.things)).thing.refs i ∈ r.marked ++ [x]
        · rw [if_pos hc, List.append_nil]; simp (disch := omega) only [push_cast, impl_has_eq _ (nth .empty (nth K0 s.things (lb (qK x) s.things)).thing.refs i) hml, decide_eq_true hc]
        · rw [if_neg hc, ← encS_app a]; simp (disch := omega) only [push_cast, impl_has_eq _ (nth .empty (nth K0 s.things (lb (qK x) s.things)).thing.refs i) hml, decide_eq_false hc] <;> rfl, by
        show a ++ _ = _
        rw [filt_step _ _ _ hi, hI, List.append_assoc]⟩) (fun a hI => by
        show L_impl_State_next _ _ = _
        rw [e_impl_State_next_26]
        simp (disch := omega) only [push_cast]
        rw [hI, List.take_length]; rfl) 0 q (Nat.zero_le _) (by simp)
    simp (disch := omega) only [push_cast, hcr', hsub, hx0, impl_thing_eq _ _ _ _ s.things _ _ x V.srtT (by omega), decide_eq_true c1, impl_has_eq r.marked x (by omega), decide_eq_false c2]
    rw [encS_one, encS_app]
    exact lp
  | nil =>
    rw [hqq] at hcr'
    have hu : unitM s r = if bestT s.things r.at_ < 0 then (⟨0, [], [], 0, 0, r.rounds + 1⟩, E0)
      else (⟨2, [], r.marked, r.top, (nth K0 s.things (bestT s.things r.at_).toNat).born, r.rounds⟩, if (nth K0 s.things (bestT s.things r.at_).toNat).sum ∈ r.marked ∨ held s (nth K0 s.things (bestT s.things r.at_).toNat).sum ∨ isRef s.things (nth K0 s.things (bestT s.things r.at_).toNat).sum then E0 else (nth K0 s.things (bestT s.things r.at_).toNat).sum) := by
      unfold unitM; rw [if_neg h0, hqq]
    rw [hu]
    have lp := inv_loop (f := fun (i : Nat) (b : Int) => L_impl_State_next (some 35) [.i b, .l (encK s.things), .i (s.things.length : Int), .i (i : Int), .i s.width, .i s.now, .i s.given, .i s.births, .l (encK s.things), .l (encP s.pins), .l (encL s.leases), .i r.phase, .l (encS []), .l (encS r.marked), .i r.top, .i r.at_, .i r.rounds, .i 0, .i 0, .i 0, .i 0, .i 2, .i r.top, .i r.at_, .i r.rounds, .l [], .l [], .l (encS []), .l (encS r.marked)]) (n := s.things.length)
      (T := some (encNx (if bestT s.things r.at_ < 0 then ((⟨0, [], [], 0, 0, r.rounds + 1⟩ : Round), E0)
      else (⟨2, [], r.marked, r.top, (nth K0 s.things (bestT s.things r.at_).toNat).born, r.rounds⟩, if (nth K0 s.things (bestT s.things r.at_).toNat).sum ∈ r.marked ∨ held s (nth K0 s.things (bestT s.things r.at_).toNat).sum ∨ isRef s.things (nth K0 s.things (bestT s.things r.at_).toNat).sum then E0 else (nth K0 s.things (bestT s.things r.at_).toNat).sum)).1 (if bestT s.things r.at_ < 0 then ((⟨0, [], [], 0, 0, r.rounds + 1⟩ : Round), E0)
      else (⟨2, [], r.marked, r.top, (nth K0 s.things (bestT s.things r.at_).toNat).born, r.rounds⟩, if (nth K0 s.things (bestT s.things r.at_).toNat).sum ∈ r.marked ∨ held s (nth K0 s.things (bestT s.things r.at_).toNat).sum ∨ isRef s.things (nth K0 s.things (bestT s.things r.at_).toNat).sum then E0 else (nth K0 s.things (bestT s.things r.at_).toNat).sum)).2))
      (I := fun i b => b = bestI s.things r.at_ i) (fun i b hi hI => ⟨bestI s.things r.at_ (i + 1), by
        show L_impl_State_next _ _ = L_impl_State_next _ _
        have hb := bestI_lt s.things r.at_ i
        rw [e_impl_State_next_35]
        simp only [bestI]
        rw [← hI] at hb ⊢
        by_cases c1 : (nth K0 s.things i).born < r.at_
        rotate_left; · rw [if_neg fun h => c1 h.1]; simp (disch := omega) only [push_cast]
        by_cases c2 : b < 0
        · rw [if_pos ⟨c1, .inl c2⟩]; simp (disch := omega) only [push_cast]
        by_cases c3 : (nth K0 s.things b.toNat).born < (nth K0 s.things i).born
        · rw [if_pos ⟨c1, .inr c3⟩]; simp (disch := omega) only [push_cast]
        · rw [if_neg fun h => h.2.elim c2 c3]; simp (disch := omega) only [push_cast], rfl⟩) (fun b hI => by
        show L_impl_State_next _ _ = _
        have hbl := bestI_lt s.things r.at_ s.things.length
        rw [← hI] at hbl
        rw [show bestT s.things r.at_ = b from hI.symm, e_impl_State_next_35]
        by_cases c1 : b < 0
        · rw [if_pos c1]; simp (disch := omega) only [push_cast]; rfl
        rw [if_neg c1]
        obtain ⟨n, rfl⟩ : ∃ n : Nat, b = n := ⟨b.toNat, by omega⟩
        have hnl : n < s.things.length := by omega
        have hh := impl_held_eq s (nth K0 s.things n).sum (by omega) (by omega)
        have hi := impl_isRef_eq s.width s.now s.given s.births s.things (encP s.pins) (encL s.leases) (nth K0 s.things n).sum (by omega) (fun k hk => by have := (V.okT k hk).1.refs; omega)
        have hh' : L_impl_State_held none [.s (nth K0 s.things n).sum, .i s.width, .i s.now, .i s.given, .i s.births, .l (encK s.things), .l (encP s.pins), .l (encL s.leases)] = _ := hh
        by_cases c2 : (nth K0 s.things n).sum ∈ r.marked
        · simp (disch := omega) only [push_cast, impl_has_eq r.marked (nth K0 s.things n).sum (by omega), decide_eq_true c2]
          rw [if_pos (Or.inl c2)]; rfl
        by_cases c3 : held s (nth K0 s.things n).sum
        · simp (disch := omega) only [push_cast, impl_has_eq r.marked (nth K0 s.things n).sum (by omega), decide_eq_false c2, hh', decide_eq_true c3]
          rw [if_pos (Or.inr (Or.inl c3))]; rfl
        by_cases c4 : isRef s.things (nth K0 s.things n).sum
        · simp (disch := omega) only [push_cast, impl_has_eq r.marked (nth K0 s.things n).sum (by omega), decide_eq_false c2, hh', decide_eq_false c3, hi, decide_eq_true c4]
          rw [if_pos (Or.inr (Or.inr c4))]; rfl
        · simp (disch := omega) only [push_cast, impl_has_eq r.marked (nth K0 s.things n).sum (by omega), decide_eq_false c2, hh', decide_eq_false c3, hi, decide_eq_false c4]
          rw [if_neg fun h => h.elim c2 fun h => h.elim c3 c4]; rfl) 0 (-1) (Nat.zero_le _) rfl
    simp (disch := omega) only [push_cast, hcr']
    exact lp
end KV
end
section
namespace KV
open Go Go.Eng
open Classical
def eDrop (x : Bs) : Entry := ⟨7, x, E0, 0, ⟨E0, []⟩⟩
theorem unit_drop {s : State} {r : Round} (V : VS s) (h : (unitM s r).2 ≠ E0) : hasT s.things (unitM s r).2 ∧ ¬ held s (unitM s r).2 ∧ ¬ isRef s.things (unitM s r).2 ∧ (unitM s r).2 ∉ r.marked ∧ r.phase ≠ 0 ∧ r.queue = [] := by
  unfold unitM at h ⊢
  split at h
  · exact absurd rfl h
  · rename_i h0
    rw [if_neg h0]
    split at h
    · split at h <;> exact absurd rfl h
    · rename_i hq
      split at h
      · exact absurd rfl h
      · rename_i hb
        rw [if_neg hb]
        simp only at h ⊢
        have hbl := bestI_lt s.things r.at_ s.things.length
        have hbt : bestI s.things r.at_ s.things.length = bestT s.things r.at_ := rfl
        rw [hbt] at hbl
        split at h
        · exact absurd rfl h
        · rename_i hc
          rw [if_neg hc]
          have hm := nth_mem (d := K0) (show (bestT s.things r.at_).toNat < s.things.length by omega)
          exact ⟨⟨_, hm, rfl⟩, fun h => hc (.inr (.inl h)), fun h => hc (.inr (.inr h)), fun h => hc (.inl h), h0, hq⟩
theorem drop_entry {s : State} {x : Bs} (V : VS s) (h1 : hasT s.things x) (h2 : ¬ held s x) (h3 : ¬ isRef s.things x) : x ≠ E0 ∧ entryB (eDrop x) s.width = true ∧ (chg s (eDrop x)).code = 0 ∧ (chg s (eDrop x)).st = stepSt s x := by
  obtain ⟨k, hk, rfl⟩ := h1
  have hne := V.sumNe hk
  have hsz : (k.sum.size : Int) = s.width := by rw [(V.okT k hk).2.1]; exact sumM_width V.wd
  have hw : widthB s.width = true := widthB_iff.2 V.wd
  refine ⟨hne, ?_, ?_, ?_⟩
  · have a1 : sumB 7 k.sum s.width = true := by
      unfold sumB; rw [if_pos (show uS 7 = true from rfl)]; exact decide_eq_true hsz
    have a2 : namB 7 E0 = true := by
      unfold namB; rw [if_neg (by decide)]; exact decide_eq_true rfl
    have a3 : thgB 7 ⟨E0, []⟩ s.width = true := by
      unfold thgB; rw [if_neg (by decide)]; rw [decide_eq_true (p := (E0 : Bs) = E0) rfl]; rfl
    show entryB ⟨7, k.sum, E0, 0, ⟨E0, []⟩⟩ s.width = true
    unfold entryB
    simp only
    rw [hw, a1, a2, a3]; rfl
  all_goals
    unfold chg
    rw [if_neg (show ¬ (eDrop k.sum).kind = 1 from (by show ¬ (7 : Int) = 1; omega)), if_neg (show ¬ (eDrop k.sum).kind = 2 from (by show ¬ (7 : Int) = 2; omega)), if_neg (show ¬ (eDrop k.sum).kind = 3 from (by show ¬ (7 : Int) = 3; omega)), if_neg (show ¬ (eDrop k.sum).kind = 4 from (by show ¬ (7 : Int) = 4; omega)), if_neg (show ¬ (eDrop k.sum).kind = 5 from (by show ¬ (7 : Int) = 5; omega)), if_neg (show ¬ (eDrop k.sum).kind = 6 from (by show ¬ (7 : Int) = 6; omega)), if_pos (show hasT s.things (eDrop k.sum).sum from ⟨k, hk, rfl⟩), if_neg (show ¬ (held s (eDrop k.sum).sum ∨ isRef s.things (eDrop k.sum).sum) from fun h => h.elim h2 h3)]
  · rfl
  · unfold stepSt; rw [if_neg hne]; rfl
theorem stepSt_keeps (s : State) (x : Bs) : (stepSt s x).width = s.width ∧ (stepSt s x).births = s.births ∧ (stepSt s x).now = s.now ∧ (stepSt s x).given = s.given ∧ (stepSt s x).pins = s.pins ∧ (stepSt s x).leases = s.leases := by
  unfold stepSt; split <;> exact ⟨rfl, rfl, rfl, rfl, rfl, rfl⟩
theorem roots_has {s : State} (V : VS s) {x : Bs} (h : x ∈ rootsM s) : hasT s.things x := by
  unfold rootsM at h
  rw [mem_foldU, mem_foldU] at h
  rcases h with (h | h) | h
  · cases h
  · obtain ⟨p, hp, rfl⟩ := List.mem_map.1 h; exact (V.okP p hp).2
  · obtain ⟨p, hp, rfl⟩ := List.mem_map.1 h; exact (V.okL p hp).2.2.1
theorem roots_len (s : State) : (rootsM s).length ≤ s.pins.length + s.leases.length := by
  unfold rootsM
  have h1 := foldU_len (s.leases.map (·.sum)) ((s.pins.map (·.sum)).foldl addU [])
  have h2 := foldU_len (s.pins.map (·.sum)) []
  rw [List.length_map] at h1 h2
  simp at h2
  omega
theorem VS.szT {s : State} (V : VS s) {x : Bs} (h : hasT s.things x) : (x.size : Int) = s.width := by
  obtain ⟨k, hk, rfl⟩ := h; rw [(V.okT k hk).2.1]; exact sumM_width V.wd
theorem unit_len {s : State} {r : Round} (V : VS s) (h : RoundOk s.width s.births r) : (unitM s r).1.queue.length ≤ 23230 ∧ (unitM s r).1.marked.length ≤ 601 := by
  have hq := h.nQ; have hm := h.nM; have n2 := V.nP; have n3 := V.nL; have hr := roots_len s
  unfold unitM
  split
  · simp only; omega
  · split
    · rename_i x q hqq
      rw [hqq] at hq
      simp only [List.length_cons] at hq
      split
      · rename_i hc
        have hlt := ((hasT_iff V.srtT x).1 hc.1).1
        have hrl := (V.okT _ (nth_mem (d := K0) hlt)).1.refs
        have := List.length_filter_le (fun y => !decide (y ∈ r.marked ++ [x])) (nth K0 s.things (lb (qK x) s.things)).thing.refs
        simp only [List.length_append, List.length_cons, List.length_nil]
        omega
      · simp only; omega
    · split
      · simp
      · simp only [List.length_nil]; omega
theorem unit_ok {s : State} {r : Round} (V : VS s) (h : RoundOk s.width s.births r) (hr : r.rounds < 1000000000) (hq : (unitM s r).1.queue.length ≤ 23200) (hm : (unitM s r).1.marked.length ≤ 600) : RoundOk s.width s.births (unitM s r).1 := by
  have hb := V.births; have hrd := h.rds
  unfold unitM at hq hm ⊢
  split at hq
  · rename_i h0
    rw [if_pos h0] at hm ⊢
    simp only at hq hm ⊢
    refine ⟨⟨by show (0 : Int) ≤ 1; omega, by show (1 : Int) ≤ 2; omega⟩, h.rds, hq, hm, h.szM, h.ndM, fun x hx => V.szT (roots_has V hx), fun h1 => absurd h1 (by show ¬ (1 : Int) = 0; omega), fun _ => ⟨hb.1, Int.le_refl _, by show (1 : Int) ≤ s.births + 1; omega, Int.le_refl _, fun _ => rfl⟩⟩
  · rename_i h0
    rw [if_neg h0] at hm ⊢
    have hgo := h.go h0
    split at hq
    · rename_i x q hqq
      simp only [hqq] at hm ⊢
      have hszx : (x.size : Int) = s.width := h.szQ x (by rw [hqq]; simp)
      have hszq : ∀ y ∈ q, (y.size : Int) = s.width := fun y hy => h.szQ y (by rw [hqq]; simp [hy])
      split at hq
      · rename_i hc
        rw [if_pos hc] at hm ⊢
        simp only at hq hm ⊢
        have hlt := ((hasT_iff V.srtT x).1 hc.1).1
        have hrs := (V.okT _ (nth_mem (d := K0) hlt)).1.size
        refine ⟨h.ph, h.rds, hq, hm, fun y hy => ?_, ?_, fun y hy => ?_, fun h1 => absurd h1 h0, fun _ => hgo⟩
        · rcases List.mem_append.1 hy with h1 | h1
          · exact h.szM y h1
          · rw [List.mem_singleton] at h1; rw [h1]; exact hszx
        · rw [List.nodup_append]
          refine ⟨h.ndM, by simp, fun a ha b hb => ?_⟩
          rw [List.mem_singleton] at hb
          rintro rfl
          rw [hb] at ha; exact hc.2 ha
        · rcases List.mem_append.1 hy with h1 | h1
          · exact hszq y h1
          · exact hrs y (List.mem_filter.1 h1).1
      · rename_i hc
        rw [if_neg hc] at hm ⊢
        simp only at hq hm ⊢
        exact ⟨h.ph, h.rds, hq, hm, h.szM, h.ndM, hszq, fun h1 => absurd h1 h0, fun _ => hgo⟩
    · rename_i hqq
      simp only [hqq] at hm ⊢
      split at hq
      · rename_i hc
        rw [if_pos hc]
        exact ⟨⟨Int.le_refl _, by show (0 : Int) ≤ 2; omega⟩, ⟨by show 0 ≤ r.rounds + 1; omega, by show r.rounds + 1 ≤ 1000000000; omega⟩, Nat.zero_le _, Nat.zero_le _, (fun x hx => nomatch hx), List.nodup_nil, (fun x hx => nomatch hx), fun _ => ⟨rfl, rfl, rfl, rfl⟩, fun h => absurd rfl h⟩
      · rename_i hc
        rw [if_neg hc] at hm ⊢
        simp only at hq hm ⊢
        have hbl := bestI_lt s.things r.at_ s.things.length
        have hbi := (bestI_is s.things r.at_ s.things.length).2
        have hbt : bestI s.things r.at_ s.things.length = bestT s.things r.at_ := rfl
        rw [hbt] at hbl hbi
        have hmm := nth_mem (d := K0) (show (bestT s.things r.at_).toNat < s.things.length by omega)
        have hk := (V.okT _ hmm).2.2
        have hlt := (hbi (by omega)).1
        refine ⟨⟨by show (0 : Int) ≤ 2; omega, Int.le_refl _⟩, h.rds, hq, hm, h.szM, h.ndM, (fun x hx => nomatch hx), fun h1 => absurd h1 (by show ¬ (2 : Int) = 0; omega), fun _ => ⟨hgo.1, hgo.2.1, hk.1, ?_, fun h1 => absurd h1 (by show ¬ (2 : Int) = 1; omega)⟩⟩
        show (nth K0 s.things (bestT s.things r.at_).toNat).born ≤ r.top + 1
        omega
noncomputable def stepV (v : Vault) : Vault := { v with st := stepSt v.st (unitM v.st v.rd).2, rd := (unitM v.st v.rd).1, loose := if (unitM v.st v.rd).2 = E0 then v.loose else v.loose ++ [formE (eDrop (unitM v.st v.rd).2)] }
structure VQ (v : Vault) : Prop where
  wd : widthB v.width = true
  lim : 0 ≤ v.limit ∧ v.limit ≤ 1000000
  log : LogOk v.safe v.loose
  run : runL v.width (empty v.width) (v.safe ++ v.loose) 0 = .inl v.st
  nq : v.rd.queue.length ≤ 23230
  nm : v.rd.marked.length ≤ 601
  rd : v.rd.queue.length ≤ 23200 → v.rd.marked.length ≤ 600 → RoundOk v.st.width v.st.births v.rd
theorem VQ.vs {v : Vault} (h : VQ v) : VS v.st ∧ v.st.width = v.width := runL_VS _ _ _ _ (empty_VS (widthB_iff.1 h.wd)) rfl h.run
theorem VQ.vv {v : Vault} (h : VQ v) (hr : RoundOk v.st.width v.st.births v.rd) : VV v := ⟨h.wd, h.lim, h.log, h.run, hr⟩
theorem VV.vq {v : Vault} (h : VV v) : VQ v := ⟨h.wd, h.lim, h.log, h.run, by have := h.rd.nQ; omega, by have := h.rd.nM; omega, fun _ _ => h.rd⟩
theorem VQ.small {v : Vault} (h : VQ v) : SmallV v := by
  have hn := h.log.n; have hq := h.nq; have hm := h.nm; have hT := h.vs.1.nT
  refine ⟨⟨by omega, fun x hx => by have := h.log.sa x hx; omega⟩, ⟨by omega, fun x hx => by have := h.log.sb x hx; omega⟩, by omega, h.vs.1.small, by omega, by omega, by omega⟩
theorem step_VQ {v : Vault} (V : VV v) (hr : v.rd.rounds < 1000000000) (hl : (unitM v.st v.rd).2 = E0 ∨ v.safe.length + v.loose.length < 4000) : VQ (stepV v) := by
  have Vs := V.vs
  have hlen := unit_len Vs.1 V.rd
  have hk := stepSt_keeps v.st (unitM v.st v.rd).2
  have hlog : LogOk v.safe (stepV v).loose ∧ runL v.width (empty v.width) (v.safe ++ (stepV v).loose) 0 = .inl (stepV v).st := by
    unfold stepV
    simp only
    by_cases h : (unitM v.st v.rd).2 = E0
    · rw [if_pos h]; unfold stepSt; rw [if_pos h]; exact ⟨V.log, V.run⟩
    · rw [if_neg h]
      obtain ⟨a, b, c, _⟩ := unit_drop Vs.1 h
      obtain ⟨d, e, f, g⟩ := drop_entry Vs.1 a b c
      rw [Vs.2] at e
      have hz := formE_size e
      have hl := hl.resolve_left h
      refine ⟨⟨V.log.sa, fun x hx => ?_, ?_⟩, ?_⟩
      · rcases List.mem_append.1 hx with h1 | h1
        · exact V.log.sb x h1
        · rw [List.mem_singleton] at h1; rw [h1]; omega
      · rw [List.length_append]; simp; omega
      · rw [← List.append_assoc, runL_app, V.run]
        simp only [runL, form_readE e]
        rw [if_pos f, g]
  exact ⟨V.wd, V.lim, hlog.1, hlog.2, hlen.1, hlen.2, fun h1 h2 => by
    show RoundOk (stepSt v.st (unitM v.st v.rd).2).width (stepSt v.st (unitM v.st v.rd).2).births (unitM v.st v.rd).1
    rw [hk.1, hk.2.1]
    exact unit_ok Vs.1 V.rd hr h1 h2⟩
abbrev Swp := Option (Vault × List Bs × Nat)
noncomputable def clrS : Nat → Vault → List Bs → Nat → Swp
  | 0, v, d, u => some (v, d, u)
  | n + 1, v, d, u => if 1000000000 ≤ v.rd.rounds ∨ 23200 < (unitM v.st v.rd).1.queue.length ∨ 600 < (unitM v.st v.rd).1.marked.length then none
    else if (unitM v.st v.rd).2 ≠ E0 ∧ 4000 ≤ v.safe.length + v.loose.length then some (v, d, u) else clrS n (stepV v) (d ++ oneD (unitM v.st v.rd).2) (u + 1)
noncomputable def clrI : Nat → Vault → List Bs → Nat → Swp
  | 0, v, d, u => some (v, d, u)
  | n + 1, v, d, u => if ¬ RoundOk v.st.width v.st.births v.rd ∨ v.rd.rounds = 1000000000 then none
    else if (unitM v.st v.rd).2 ≠ E0 ∧ 4000 ≤ v.safe.length + v.loose.length then some (v, d, u) else clrI n (stepV v) (d ++ oneD (unitM v.st v.rd).2) (u + 1)
def encSwS : Swp → Lv
  | some (v, d, u) => .i 0 :: (vI v ++ (.i (u : Int) :: (vL v ++ [.l (encS d)])))
  | none => .i 1 :: (vI V0 ++ (.i 0 :: (vL V0 ++ [.l []])))
def encSwI : Swp → Lv
  | some (v, d, u) => [.i 0, .i v.width, .i v.limit, .i v.st.width, .i v.st.now, .i v.st.given, .i v.st.births, .i v.rd.phase, .l (encS v.rd.marked), .i v.rd.top, .i v.rd.at_, .i v.rd.rounds, .i (u : Int), .l (encS v.safe), .l (encS v.loose), .l (encK v.st.things), .l (encP v.st.pins), .l (encL v.st.leases), .l (encS v.rd.queue), .l (encS d)]
  | none => [.i 1, .i 0, .i 0, .i 0, .i 0, .i 0, .i 0, .i 0, .l [], .i 0, .i 0, .i 0, .i 0, .l [], .l [], .l [], .l [], .l [], .l [], .l []]
theorem impl_clear_loop (i1 i2 i3 i4 i5 i6 i7 i8 i9 i10 i11 : Int) (l1 l2 l3 l4 l5 l6 l7 : Rw) : ∀ (n : Nat) (v : Vault) (d : List Bs) (u : Nat), VQ v → u + n ≤ 10000 → d.length ≤ u →
    L_impl_Clear (some 5) [.i ((u + n : Nat) : Int), .i 0, .i 0, .i 0, .i 0, .i 0, .i 0, .i 0, .i 0, .i 0, .i 0, .i 0, .i 0, .i v.width, .i v.limit, .i v.st.width, .i v.st.now, .i v.st.given, .i v.st.births, .i v.rd.phase, .l (encS v.rd.marked), .i v.rd.top, .i v.rd.at_, .i v.rd.rounds, .i 0, .i i1, .i i2, .i i3, .i i4, .i i5, .i i6, .i i7, .i i8, .i i9, .i i10, .i (u : Int), .l [], .l [], .l [], .l [], .l [], .l [], .l [], .l [], .l (encS v.safe), .l (encS v.loose), .l (encK v.st.things), .l (encP v.st.pins), .l (encL v.st.leases), .l (encS v.rd.queue), .l l1, .l l2, .l l3, .l l4, .l l5, .l l6, .l l7, .l (encS d)] = some (encSwI (clrI n v d u)) := by
  intro n
  induction n with
  | zero =>
    intro v d u V hu hd
    rw [e_impl_Clear_5]
    simp (disch := omega) only [push_cast]
    rfl
  | succ n ih =>
    intro v d u V hu hd
    have Vs := V.vs
    have hro := impl_roundOk_eq v.st v.rd Vs.1.births
    have hro' : L_impl_State_roundOk none [.i v.rd.phase, .l (encS v.rd.queue), .l (encS v.rd.marked), .i v.rd.top, .i v.rd.at_, .i v.rd.rounds, .i v.st.width, .i v.st.now, .i v.st.given, .i v.st.births, .l (encK v.st.things), .l (encP v.st.pins), .l (encL v.st.leases)] = _ := hro
    rw [e_impl_Clear_5, hro', mostE]
    simp only [clrI]
    by_cases hr : RoundOk v.st.width v.st.births v.rd
    rotate_left
    · rw [if_pos (Or.inl hr)]; simp (disch := omega) only [push_cast, decide_eq_false hr]; rfl
    have hnx := impl_next_eq Vs.1 hr
    have hnx' : L_impl_State_next none [.i v.rd.phase, .l (encS v.rd.queue), .l (encS v.rd.marked), .i v.rd.top, .i v.rd.at_, .i v.rd.rounds, .i v.st.width, .i v.st.now, .i v.st.given, .i v.st.births, .l (encK v.st.things), .l (encP v.st.pins), .l (encL v.st.leases)] = _ := hnx
    have hrd := hr.rds
    by_cases h9 : v.rd.rounds = 1000000000
    · rw [if_pos (Or.inr h9)]; rw [if_pos h9] at hnx'; simp (disch := omega) only [push_cast, decide_eq_true hr, hnx']; rfl
    rw [if_neg (fun h => h.elim (fun h => h hr) h9)]
    rw [if_neg h9] at hnx'
    have VVv := V.vv hr
    have hlog := V.log.n
    by_cases hd0 : (unitM v.st v.rd).2 = E0
    · rw [if_neg fun h => h.1 hd0]
      have hs := step_VQ VVv (by omega) (.inl hd0)
      have := ih (stepV v) (d ++ oneD (unitM v.st v.rd).2) (u + 1) hs (by omega) (by rw [List.length_append]; unfold oneD; split <;> simp <;> omega)
      rw [show u + 1 + n = u + (n + 1) by omega] at this
      unfold stepV stepSt oneD at this
      simp only [if_pos hd0, List.append_nil] at this
      unfold encNx at hnx'
      rw [hd0] at hnx'
      have e1 : oneD (unitM v.st v.rd).2 = [] := if_pos hd0
      have e2 : stepV v = { v with rd := (unitM v.st v.rd).1 } := by unfold stepV stepSt; rw [if_pos hd0, if_pos hd0]
      rw [e1, List.append_nil, e2]
      simp (disch := omega) only [push_cast, decide_eq_true hr, hnx']
      exact this
    obtain ⟨a, b, c, _⟩ := unit_drop Vs.1 hd0
    obtain ⟨e1, e2, e3, e4⟩ := drop_entry Vs.1 a b c
    have hch := impl_change_eq Vs.1 e2
    have hch' : L_impl_State_change none [.i 7, .s (unitM v.st v.rd).2, .s E0, .i 0, .s E0, .l [], .i v.st.width, .i v.st.now, .i v.st.given, .i v.st.births, .l (encK v.st.things), .l (encP v.st.pins), .l (encL v.st.leases)] = _ := hch
    have e2' := e2
    rw [Vs.2] at e2'
    have hfe := impl_FormEntry_eq (eDrop (unitM v.st v.rd).2) v.width (by show (0 : Nat) ≤ 4611686018427387904; omega)
    rw [if_pos e2'] at hfe
    have hfe' : L_impl_FormEntry none [.i 7, .s (unitM v.st v.rd).2, .s E0, .i 0, .s E0, .l [], .i v.width] = _ := hfe
    unfold encNx at hnx'
    by_cases hf : 4000 ≤ v.safe.length + v.loose.length
    · rw [if_pos ⟨hd0, hf⟩]
      simp (disch := omega) only [push_cast, decide_eq_true hr, hnx', decide_eq_false hd0]
      rfl
    rw [if_neg fun h => hf h.2]
    have hs := step_VQ VVv (by omega) (.inr (by omega))
    have := ih (stepV v) (d ++ oneD (unitM v.st v.rd).2) (u + 1) hs (by omega) (by rw [List.length_append]; unfold oneD; split <;> simp <;> omega)
    rw [show u + 1 + n = u + (n + 1) by omega] at this
    have e5 : oneD (unitM v.st v.rd).2 = [(unitM v.st v.rd).2] := if_neg hd0
    have e6 : (stepV v).loose = v.loose ++ [formE (eDrop (unitM v.st v.rd).2)] := if_neg hd0
    rw [e5, e6] at this
    rw [e5]
    have e7 : (stepV v).st = (chg v.st (eDrop (unitM v.st v.rd).2)).st := e4.symm
    rw [e7] at this
    simp (disch := omega) only [push_cast, decide_eq_true hr, hnx', decide_eq_false hd0, hch', encOutI, encSt, List.cons_append, List.nil_append, hfe']
    rw [encS_one, encS_app, encS_one, encS_app]
    exact this
theorem impl_Clear_eq {v : Vault} (h : SmallV v) (hc : CutV v) (n : Int) : L_impl_Clear none (encV v ++ [.i n]) = some (encSwI (if VV v ∧ 0 ≤ n ∧ n ≤ 10000 then clrI n.toNat v [] 0 else none)) := by
  show L_impl_Clear none [.i v.width, .i v.limit, .l (encS v.safe), .l (encS v.loose), .i v.st.width, .i v.st.now, .i v.st.given, .i v.st.births, .l (encK v.st.things), .l (encP v.st.pins), .l (encL v.st.leases), .i v.rd.phase, .l (encS v.rd.queue), .l (encS v.rd.marked), .i v.rd.top, .i v.rd.at_, .i v.rd.rounds, .i n] = _
  have hvv := impl_ValidVault_eq h hc
  have hcp := impl_copyVault_eq h
  unfold encV at hvv hcp
  rw [e_impl_Clear_i, hvv, hcp]
  by_cases V : VV v
  rotate_left; · rw [if_neg fun h => V h.1, decide_eq_false V]; simp (disch := omega) only [push_cast]; rfl
  rw [decide_eq_true V]
  by_cases h0 : 0 ≤ n
  rotate_left; · rw [if_neg fun h => h0 h.2.1]; simp (disch := omega) only [push_cast]; rfl
  by_cases h1 : n ≤ 10000
  rotate_left; · rw [if_neg fun h => h1 h.2.2]; simp (disch := omega) only [push_cast]; rfl
  rw [if_pos ⟨V, h0, h1⟩]
  obtain ⟨m, rfl⟩ : ∃ m : Nat, n = m := ⟨n.toNat, by omega⟩
  have := impl_clear_loop 0 0 0 0 0 0 0 0 0 0 0 [] [] [] [] [] [] [] m v [] 0 V.vq (by omega) (Nat.le_refl _)
  simp only [vI, vL, List.cons_append, List.nil_append]
  rw [Nat.zero_add] at this
  simp (disch := omega) only [push_cast]
  exact this
theorem spec_clear_loop (a1 a5 a6 a7 a8 a12 a15 a16 a17 : Int) (a3 a4 a9 a10 a11 a13 a14 : Rw) (w2 : Int) : ∀ (n : Nat) (v : Vault) (d : List Bs) (u : Nat), VV v → u + n ≤ 10000 → d.length ≤ u → 
    L_spec_Clear (some 4) [.i ((u + n : Nat) : Int), .i v.width, .i w2, .l a3, .l a4, .i a5, .i a6, .i a7, .i a8, .l a9, .l a10, .l a11, .i a12, .l a13, .l a14, .i a15, .i a16, .i a17, .i 0, .i 0, .i 0, .i 0, .i 0, .i 0, .i 0, .i 0, .i 0, .i 0, .i 0, .i 0, .i 0, .i v.width, .i v.limit, .i v.st.width, .i v.st.now, .i v.st.given, .i v.st.births, .l (encK v.st.things), .l (encP v.st.pins), .l (encL v.st.leases), .i v.rd.phase, .l (encS v.rd.queue), .l (encS v.rd.marked), .i v.rd.top, .i v.rd.at_, .i v.rd.rounds, .i (u : Int), .l [], .l [], .l [], .l [], .l [], .l [], .l [], .l [], .l (encS v.safe), .l (encS v.loose), .l (encS d)] = some (encSwS (clrS n v d u)) := by
  intro n
  induction n with
  | zero =>
    intro v d u V hu hd
    have hcp := spec_l7Copy_eq V
    unfold encV at hcp
    rw [e_spec_Clear_4]
    simp (disch := omega) only [push_cast, hcp]
    rfl
  | succ n ih =>
    intro v d u V hu hd
    have Vs := V.vs
    have hrd := V.rd.rds
    have hlog := V.log.n
    rw [e_spec_Clear_4, mostE]
    simp only [clrS]
    by_cases h9 : 1000000000 ≤ v.rd.rounds
    · rw [if_pos (Or.inl h9)]; simp (disch := omega) only [push_cast]; rfl
    have hun := spec_l6Unit_eq Vs.1 V.rd (by omega)
    have hun' : L_spec_l6Unit none [.i v.st.width, .i v.st.now, .i v.st.given, .i v.st.births, .l (encK v.st.things), .l (encP v.st.pins), .l (encL v.st.leases), .i v.rd.phase, .l (encS v.rd.queue), .l (encS v.rd.marked), .i v.rd.top, .i v.rd.at_, .i v.rd.rounds] = _ := hun
    unfold encUn at hun'
    by_cases hq : 23200 < (unitM v.st v.rd).1.queue.length
    · rw [if_pos (Or.inr (Or.inl hq))]; simp (disch := omega) only [push_cast, hun']; rfl
    by_cases hm : 600 < (unitM v.st v.rd).1.marked.length
    · rw [if_pos (Or.inr (Or.inr hm))]; simp (disch := omega) only [push_cast, hun']; rfl
    rw [if_neg (fun h => h.elim h9 fun h => h.elim hq hm)]
    have hk := stepSt_keeps v.st (unitM v.st v.rd).2
    by_cases hd0 : (unitM v.st v.rd).2 = E0
    · rw [if_neg fun h => h.1 hd0]
      have hs := step_VQ V (by omega) (.inl hd0)
      have := ih (stepV v) (d ++ oneD (unitM v.st v.rd).2) (u + 1) (hs.vv (hs.rd (by show (unitM v.st v.rd).1.queue.length ≤ 23200; omega) (by show (unitM v.st v.rd).1.marked.length ≤ 600; omega))) (by omega) (by rw [List.length_append]; unfold oneD; split <;> simp <;> omega)
      rw [show u + 1 + n = u + (n + 1) by omega] at this
      have e1 : oneD (unitM v.st v.rd).2 = [] := if_pos hd0
      have e2 : stepV v = { v with rd := (unitM v.st v.rd).1 } := by unfold stepV stepSt; rw [if_pos hd0, if_pos hd0]
      rw [e1, List.append_nil, e2] at this
      rw [e1, List.append_nil, e2]
      have e3 : stepSt v.st (unitM v.st v.rd).2 = v.st := if_pos hd0
      rw [e3, e1] at hun'
      simp (disch := omega) only [push_cast, hun', show encS [] = [] from rfl]
      exact this
    obtain ⟨a, b, c, _⟩ := unit_drop Vs.1 hd0
    obtain ⟨e1, e2, e3, e4⟩ := drop_entry Vs.1 a b c
    have e2' := e2
    rw [Vs.2] at e2'
    have hfe := spec_FormEntry_eq (eDrop (unitM v.st v.rd).2) v.width (by show (0 : Nat) ≤ 4611686018427387904; omega)
    rw [if_pos e2'] at hfe
    have hfe' : L_spec_FormEntry none [.i 7, .s (unitM v.st v.rd).2, .s E0, .i 0, .s E0, .l [], .i v.width] = _ := hfe
    have e5 : oneD (unitM v.st v.rd).2 = [(unitM v.st v.rd).2] := if_neg hd0
    rw [e5] at hun'
    have hx0 : (rd (encS [(unitM v.st v.rd).2]) 0 0).str = (unitM v.st v.rd).2 := rfl
    have hcp := spec_l7Copy_eq V
    unfold encV at hcp
    by_cases hf : 4000 ≤ v.safe.length + v.loose.length
    · rw [if_pos ⟨hd0, hf⟩]
      simp (disch := omega) only [push_cast, hun', hcp]
      rfl
    rw [if_neg fun h => hf h.2]
    have hs := step_VQ V (by omega) (.inr (by omega))
    have := ih (stepV v) (d ++ oneD (unitM v.st v.rd).2) (u + 1) (hs.vv (hs.rd (by show (unitM v.st v.rd).1.queue.length ≤ 23200; omega) (by show (unitM v.st v.rd).1.marked.length ≤ 600; omega))) (by omega) (by rw [List.length_append]; unfold oneD; split <;> simp <;> omega)
    rw [show u + 1 + n = u + (n + 1) by omega] at this
    have e6 : (stepV v).loose = v.loose ++ [formE (eDrop (unitM v.st v.rd).2)] := if_neg hd0
    rw [e5, e6] at this
    rw [e5]
    simp (disch := omega) only [push_cast, hun', hx0, hfe']
    rw [encS_one, encS_app, encS_one, encS_app]
    exact this
theorem spec_Clear_eq {v : Vault} (h : SmallV v) (n : Int) : L_spec_Clear none (encV v ++ [.i n]) = some (encSwS (if VV v ∧ 0 ≤ n ∧ n ≤ 10000 then clrS n.toNat v [] 0 else none)) := by
  show L_spec_Clear none [.i v.width, .i v.limit, .l (encS v.safe), .l (encS v.loose), .i v.st.width, .i v.st.now, .i v.st.given, .i v.st.births, .l (encK v.st.things), .l (encP v.st.pins), .l (encL v.st.leases), .i v.rd.phase, .l (encS v.rd.queue), .l (encS v.rd.marked), .i v.rd.top, .i v.rd.at_, .i v.rd.rounds, .i n] = _
  have hvv := spec_ValidVault_eq h
  unfold encV at hvv
  rw [e_spec_Clear_i, hvv]
  by_cases V : VV v
  rotate_left; · rw [if_neg fun h => V h.1, decide_eq_false V]; simp (disch := omega) only [push_cast]; rfl
  rw [decide_eq_true V]
  by_cases h0 : 0 ≤ n ∧ n ≤ 10000
  rotate_left; · rw [if_neg fun h => h0 h.2]; simp (disch := omega) only [push_cast, spec_l4Range_eq]; rfl
  rw [if_pos ⟨V, h0.1, h0.2⟩]
  obtain ⟨m, rfl⟩ : ∃ m : Nat, n = m := ⟨n.toNat, by omega⟩
  have hcp := spec_l7Copy_eq V
  unfold encV at hcp
  have := spec_clear_loop v.limit v.st.width v.st.now v.st.given v.st.births v.rd.phase v.rd.top v.rd.at_ v.rd.rounds (encS v.safe) (encS v.loose) (encK v.st.things) (encP v.st.pins) (encL v.st.leases) (encS v.rd.queue) (encS v.rd.marked) v.limit m v [] 0 V (by omega) (Nat.le_refl _)
  rw [Nat.zero_add] at this
  simp only [vI, vL, List.cons_append, List.nil_append] at hcp
  simp (disch := omega) only [push_cast, spec_l4Range_eq, decide_eq_true h0, hcp]
  exact this
end KV
end
section
namespace KV
open Go Go.Eng
open Classical
structure RB (b : Rw) : Prop where
  n : b.length ≤ 2000
  by_ : ∀ i, 0 ≤ (rd b i 0).int ∧ (rd b i 0).int ≤ 255
theorem tmod_range {a n : Int} (ha : 0 ≤ a) (hn : 1 ≤ n) : 0 ≤ a.tmod n ∧ a.tmod n < n := by
  rw [Int.tmod_eq_emod_of_nonneg ha]; exact ⟨Int.emod_nonneg _ (by omega), Int.emod_lt_of_pos _ (by omega)⟩
theorem xor_range {a b : Int} (ha : 0 ≤ a) (hb : 0 ≤ b) (ha2 : a < 4611686018427387904) (hb2 : b < 4611686018427387904) :
    0 ≤ IntKind.i64.wrap ((BitVec.ofInt IntKind.i64.bits a ^^^ BitVec.ofInt IntKind.i64.bits b).toNat : Int) := by
  show 0 ≤ IntKind.i64.wrap ((BitVec.ofInt 64 a ^^^ BitVec.ofInt 64 b).toNat : Int)
  rw [BitVec.toNat_xor, BitVec.toNat_ofInt, BitVec.toNat_ofInt]
  have e1 : (a % ((2 ^ 64 : Nat) : Int)).toNat = a.toNat := by
    rw [Int.emod_eq_of_lt ha (by have : (2 ^ 64 : Nat) = 18446744073709551616 := rfl; omega)]
  have e2 : (b % ((2 ^ 64 : Nat) : Int)).toNat = b.toNat := by
    rw [Int.emod_eq_of_lt hb (by have : (2 ^ 64 : Nat) = 18446744073709551616 := rfl; omega)]
  rw [e1, e2]
  have h : a.toNat ^^^ b.toNat < 2 ^ 62 := Nat.xor_lt_two_pow (by have : (2 ^ 62 : Nat) = 4611686018427387904 := rfl; omega) (by have : (2 ^ 62 : Nat) = 4611686018427387904 := rfl; omega)
  have : (2 ^ 62 : Nat) = 4611686018427387904 := rfl
  rw [w64 (by omega)]; omega
theorem pick_ok {b : Rw} (hb : RB b) (n : Int) (hn : n ≤ 1000000000000) (p : Int) (hp : 0 ≤ p ∧ p ≤ 1000000000) : ∃ x : Int, L_spec_l1Rd_pick none [.i n, .l b, .i p] = some [.i x, .l b, .i (p + 1)] ∧ 0 ≤ x ∧ (x < n ∨ x = 0) := by
  obtain ⟨p, rfl⟩ : ∃ q : Nat, p = (q : Int) := ⟨p.toNat, by omega⟩
  rw [e_spec_l1Rd_pick_i]
  have e1 : IntKind.i64.wrap ((p : Int) + 1) = (p : Int) + 1 := w64 (by omega)
  have e2 : IntKind.i64.wrap ((p : Int) + 1 - 1) = (p : Int) := by rw [w64 (by omega)]; omega
  rw [e1, e2]
  by_cases h1 : 1 ≤ n
  rotate_left; · exact ⟨0, by simp (disch := omega) only [push_cast], by omega, .inr rfl⟩
  by_cases h2 : b.length = 0
  · exact ⟨0, by simp (disch := omega) only [push_cast], by omega, .inr rfl⟩
  by_cases h3 : p < b.length
  · have hr := hb.by_ p
    have ht := tmod_range hr.1 h1
    refine ⟨((rd b p 0).int).tmod n, ?_, ht.1, .inl ht.2⟩
    simp (disch := omega) only [push_cast]
  · have hbn := hb.n
    obtain ⟨m, hm⟩ : ∃ m : Nat, b.length = m := ⟨_, rfl⟩
    rw [hm] at h2 h3 hbn ⊢
    have t1 := tmod_range (a := (p : Int)) (n := (m : Int)) (by omega) (by omega)
    have t2 := tmod_range (a := (p : Int) * 7 + 3) (n := (m : Int)) (by omega) (by omega)
    have t3 : 0 ≤ (p : Int).tdiv (m : Int) ∧ (p : Int).tdiv (m : Int) ≤ p := by
      rw [Int.tdiv_eq_ediv_of_nonneg (by omega)]
      exact ⟨Int.ediv_nonneg (by omega) (by omega), Int.ediv_le_self _ (by omega)⟩
    have r1 := hb.by_ ((p : Int).tmod (m : Int)).toNat
    have r2 := hb.by_ (((p : Int) * 7 + 3).tmod (m : Int)).toNat
    obtain ⟨c1, hc1⟩ : ∃ c, (rd b ((p : Int).tmod (m : Int)).toNat 0).int = c := ⟨_, rfl⟩
    obtain ⟨c2, hc2⟩ : ∃ c, (rd b (((p : Int) * 7 + 3).tmod (m : Int)).toNat 0).int = c := ⟨_, rfl⟩
    obtain ⟨q, hq⟩ : ∃ q, (p : Int).tdiv (m : Int) = q := ⟨_, rfl⟩
    rw [hc1] at r1; rw [hc2] at r2; rw [hq] at t3
    have hv : 0 ≤ c1 * 131 + c2 * 1117 + (p : Int) * 29 + q * 53 := by omega
    have h64 : 0 ≤ (c1 * 131 + c2 * 1117 + (p : Int) * 29 + q * 53).tdiv 64 ∧ (c1 * 131 + c2 * 1117 + (p : Int) * 29 + q * 53).tdiv 64 ≤ c1 * 131 + c2 * 1117 + (p : Int) * 29 + q * 53 := by
      rw [Int.tdiv_eq_ediv_of_nonneg hv]; omega
    have hx := xor_range hv h64.1 (by omega) (by omega)
    have ht := tmod_range hx h1
    refine ⟨(IntKind.i64.wrap ((BitVec.ofInt IntKind.i64.bits (c1 * 131 + c2 * 1117 + (p : Int) * 29 + q * 53) ^^^ BitVec.ofInt IntKind.i64.bits ((c1 * 131 + c2 * 1117 + (p : Int) * 29 + q * 53).tdiv 64)).toNat : Int)).tmod n, ?_, ht.1, .inl ht.2⟩
    simp (disch := omega) only [push_cast, hc1, hc2, hq]
theorem open_ok {c : Rw} (hc : ∀ i, 0 ≤ (rd c i 0).int ∧ (rd c i 0).int ≤ 255) : ∃ b, L_spec_l1Open none [.l c] = some [.l b, .i 0] ∧ RB b := by
  rw [e_spec_l1Open_i]
  by_cases h : c.length ≤ 2000
  · exact ⟨c, by simp (disch := omega) only [push_cast], h, hc⟩
  · refine ⟨Eng.sub c 0 2000, by simp (disch := omega) only [push_cast] <;> rfl, ?_, fun i => ?_⟩
    · simp [Eng.sub]; omega
    · have : rd (Eng.sub c 0 2000) i 0 = if i < 2000 then rd c i 0 else .i 0 := by
        unfold rd Eng.sub
        simp only [List.drop_zero, Nat.sub_zero, List.getD_eq_getElem?_getD, List.getElem?_take]
        split <;> rfl
      rw [this]
      split
      · exact hc i
      · exact ⟨Int.le_refl _, by show (0 : Int) ≤ 255; omega⟩
theorem text_13 {b : Rw} (hb : RB b) (n : Nat) (hn : n ≤ 3) : ∀ (m i : Nat) (p : Int) (acc : Rw), n + 1 - i = m → i ≤ n + 1 → 0 ≤ p ∧ p + m ≤ 1000000000 → acc.length = i →
    ∃ s p', L_spec_l1Text (some 13) [.i (n : Int), .i (i : Int), .l b, .i p, .l acc] = some [.s s, .l b, .i p'] ∧ p ≤ p' ∧ p' ≤ p + m ∧ s.size = n + 1
  | 0, i, p, acc, hm, hi, hp, ha => by
    refine ⟨bytesOf acc, p, ?_, by omega, by omega, by rw [bytesOf_size]; omega⟩
    rw [e_spec_l1Text_13]; simp (disch := omega) only [push_cast]
  | m + 1, i, p, acc, hm, hi, hp, ha => by
    obtain ⟨x, hx, hx0, hx1⟩ := pick_ok hb 6 (by omega) p (by omega)
    obtain ⟨s, p', h1, h2, h3, h4⟩ := text_13 hb n hn m (i + 1) (p + 1) (acc ++ [[.i (IntKind.u8.wrap (IntKind.i64.wrap (97 + x)))]]) (by omega) (by omega) (by omega) (by simp [ha])
    refine ⟨s, p', ?_, by omega, by omega, h4⟩
    rw [e_spec_l1Text_13, hx, mostE, ← h1]
    simp (disch := omega) only [push_cast]
theorem text_ok {b : Rw} (hb : RB b) (p : Int) (hp : 0 ≤ p ∧ p ≤ 999999000) : ∃ s p', L_spec_l1Text none [.l b, .i p] = some [.s s, .l b, .i p'] ∧ p ≤ p' ∧ p' ≤ p + 10 ∧ s.size ≤ 4 := by
  obtain ⟨x, hx, hx0, hx1⟩ := pick_ok hb 9 (by omega) p (by omega)
  rw [e_spec_l1Text_i, hx]
  by_cases c0 : x = 0
  · exact ⟨⟨#[]⟩, p + 1, by simp (disch := omega) only [push_cast], by omega, by omega, by decide⟩
  by_cases c1 : x = 1
  · exact ⟨⟨#[97, 32, 98]⟩, p + 1, by simp (disch := omega) only [push_cast], by omega, by omega, by decide⟩
  by_cases c2 : x = 2
  · exact ⟨⟨#[37, 45, 10]⟩, p + 1, by simp (disch := omega) only [push_cast], by omega, by omega, by decide⟩
  by_cases c3 : x = 3
  · exact ⟨⟨#[255, 0]⟩, p + 1, by simp (disch := omega) only [push_cast], by omega, by omega, by decide⟩
  obtain ⟨y, hy, hy0, hy1⟩ := pick_ok hb 4 (by omega) (p + 1) (by omega)
  obtain ⟨n, rfl⟩ : ∃ n : Nat, y = (n : Int) := ⟨y.toNat, by omega⟩
  obtain ⟨s, p', h1, h2, h3, h4⟩ := text_13 hb n (by omega) (n + 1) 0 (p + 1 + 1) [] (by omega) (by omega) (by omega) rfl
  refine ⟨s, p', ?_, by omega, by omega, by omega⟩
  simp (disch := omega) only [push_cast, hy]
  exact h1
theorem width_ok {b : Rw} (hb : RB b) (p : Int) (hp : 0 ≤ p ∧ p ≤ 999999000) : ∃ w, L_spec_l1DrawWidth none [.l b, .i p] = some [.i w, .l b, .i (p + 1)] ∧ (w = 1 ∨ w = 2 ∨ w = 8) := by
  obtain ⟨x, hx, hx0, hx1⟩ := pick_ok hb 8 (by omega) p (by omega)
  rw [e_spec_l1DrawWidth_i, hx]
  by_cases c0 : x < 2
  · exact ⟨1, by simp (disch := omega) only [push_cast], .inl rfl⟩
  by_cases c1 : x = 2
  · exact ⟨2, by simp (disch := omega) only [push_cast], .inr (.inl rfl)⟩
  · exact ⟨8, by simp (disch := omega) only [push_cast], .inr (.inr rfl)⟩
theorem insert_asc {l : List Bs} (h : Asc l) (x : Bs) (hx : x ∉ l) : Asc (l.take (lb (fun a => slt a x) l) ++ x :: l.drop (lb (fun a => slt a x) l)) := by
  unfold Asc at h ⊢
  have mono : ∀ a b, slt a b = true → slt b x = true → slt a x = true := fun a b h1 h2 => slt_trans h1 h2
  have hd : ∀ a ∈ l.drop (lb (fun a => slt a x) l), slt x a = true := fun a ha => by
    obtain ⟨j, hj, rfl⟩ := List.mem_iff_getElem.1 ha
    rw [List.length_drop] at hj
    have := lb_hi .empty h mono (lb (fun a => slt a x) l + j) (by omega) (by omega)
    rw [List.getElem_drop, ← nth_get .empty l _ (by omega)]
    rcases slt_false.1 this with h1 | h1
    · exact absurd (h1 ▸ nth_mem (by omega)) hx
    · exact h1
  have ht : ∀ a ∈ l.take (lb (fun a => slt a x) l), slt a x = true := fun a ha => by
    obtain ⟨j, hj, rfl⟩ := List.mem_iff_getElem.1 ha
    rw [List.length_take] at hj
    have := lb_lt (fun a => slt a x) .empty l j (by omega)
    rw [List.getElem_take, ← nth_get .empty l _ (by omega)]; exact this
  rw [List.pairwise_append, List.pairwise_cons]
  refine ⟨h.sublist (List.take_sublist _ _), ⟨hd, h.sublist (List.drop_sublist _ _)⟩, fun a ha b hb => ?_⟩
  rcases List.mem_cons.1 hb with rfl | hb
  · exact ht a ha
  · exact slt_trans (ht a ha) (hd b hb)
theorem sorted_6 (l : List Bs) (i : Nat) (hi : i < l.length) (out : List Bs) (ho : Asc out) (hol : out.length ≤ 1000000) (hl : l.length ≤ 1000000) : ∀ m k : Nat, lb (fun a => slt a (nth .empty l i)) out - k = m → k ≤ lb (fun a => slt a (nth .empty l i)) out →
    L_spec_l1Sorted (some 6) [.l (encS l), .i (i : Int), .i (k : Int), .l (encS out)] = L_spec_l1Sorted (some 3) [.l (encS l), .i ((i + 1 : Nat) : Int), .l (encS (if nth .empty l i ∈ out then out else out.take (lb (fun a => slt a (nth .empty l i)) out) ++ nth .empty l i :: out.drop (lb (fun a => slt a (nth .empty l i)) out)))]
  | m + 1, k, hm, hk => by
    have hle := lb_le (fun a => slt a (nth .empty l i)) out
    have hq := lb_lt (fun a => slt a (nth .empty l i)) .empty out k (by omega)
    rw [← sorted_6 l i hi out ho hol hl m (k + 1) (by omega) (by omega), e_spec_l1Sorted_6]
    simp (disch := omega) only [push_cast, hq]
  | 0, k, hm, hk => by
    have hle := lb_le (fun a => slt a (nth .empty l i)) out
    have hke : k = lb (fun a => slt a (nth .empty l i)) out := by omega
    generalize hx : nth .empty l i = x at *
    have mono : ∀ a b, slt a b = true → slt b x = true → slt a x = true := fun a b h1 h2 => slt_trans h1 h2
    have hmem : x ∈ out ↔ k < out.length ∧ nth .empty out k = x := by
      have := key_mem (q := fun a => slt a x) (p := fun a => a = x) .empty ho (fun a h => by rw [h]; exact slt_irrefl x) (fun a b hab hb => by rw [← hb]; exact hab)
      rw [hke, ← this]
      exact ⟨fun h => ⟨x, h, rfl⟩, fun ⟨a, h1, h2⟩ => h2 ▸ h1⟩
    have nine : x ∉ out → L_spec_l1Sorted (some 9) [.l (encS l), .i (i : Int), .i (k : Int), .l (encS out)] = L_spec_l1Sorted (some 3) [.l (encS l), .i ((i + 1 : Nat) : Int), .l (encS (out.take k ++ x :: out.drop k))] := fun hn => by
      have s1 : Eng.sub (encS out) 0 k = encS (out.take k) := by rw [encS_sub]; simp
      have s2 : Eng.sub (encS out) k out.length = encS (out.drop k) := by rw [encS_sub, List.take_of_length_le (by simp)]
      rw [e_spec_l1Sorted_9, mostE]
      simp (disch := omega) only [push_cast, hx, s1, s2, List.nil_append, List.length_append, List.length_take, List.length_drop]
      rw [encS_one, encS_app, encS_app, List.append_assoc]; rfl
    rw [e_spec_l1Sorted_6]
    by_cases h1 : k < out.length
    · have hq : slt (nth .empty out k) x = false := by rw [hke]; exact lb_at (fun a => slt a x) .empty out (by omega)
      by_cases h2 : nth .empty out k = x
      · rw [if_pos (hmem.2 ⟨h1, h2⟩)]
        simp (disch := omega) only [push_cast, hx, hq]
      · have hn : x ∉ out := fun h => h2 (hmem.1 h).2
        rw [if_neg hn]
        simp (disch := omega) only [push_cast, hx, hq]
        rw [nine hn, hke]; simp (disch := omega) only [push_cast]
    · have hn : x ∉ out := fun h => h1 (hmem.1 h).1
      rw [if_neg hn]
      simp (disch := omega) only [push_cast]
      rw [nine hn, hke]; simp (disch := omega) only [push_cast]
theorem sorted_ok (l : List Bs) (hl : l.length ≤ 1000000) : ∃ out : List Bs, L_spec_l1Sorted none [.l (encS l)] = some [.l (encS out)] ∧ Asc out ∧ (∀ x, x ∈ out ↔ x ∈ l) ∧ out.length ≤ l.length := by
  rw [e_spec_l1Sorted_i]
  refine inv_loop_ex (f := fun (i : Nat) (out : List Bs) => L_spec_l1Sorted (some 3) [.l (encS l), .i (i : Int), .l (encS out)]) (n := l.length) (I := fun i out => Asc out ∧ (∀ x, x ∈ out ↔ x ∈ l.take i) ∧ out.length ≤ i)
    (T := fun r => ∃ out : List Bs, r = some [.l (encS out)] ∧ Asc out ∧ (∀ x, x ∈ out ↔ x ∈ l) ∧ out.length ≤ l.length) (fun i out hi hI => .inl ?_) (fun out hI => ?_) 0 [] (Nat.zero_le _) ⟨List.Pairwise.nil, fun x => by simp, Nat.zero_le _⟩
  · obtain ⟨ho, hm, hlen⟩ := hI
    refine ⟨if nth .empty l i ∈ out then out else out.take (lb (fun a => slt a (nth .empty l i)) out) ++ nth .empty l i :: out.drop (lb (fun a => slt a (nth .empty l i)) out), ?_, ?_, fun x => ?_, ?_⟩
    · show L_spec_l1Sorted _ _ = L_spec_l1Sorted _ _
      rw [← sorted_6 l i hi out ho (by omega) hl (lb (fun a => slt a (nth .empty l i)) out) 0 (by omega) (Nat.zero_le _), e_spec_l1Sorted_3]; simp (disch := omega) only [push_cast]
    · split
      · exact ho
      · rename_i h; exact insert_asc ho _ h
    · rw [take_nth .empty hi, List.mem_append, List.mem_singleton, ← hm]
      split
      · rename_i h; exact ⟨.inl, fun h1 => by rcases h1 with h1 | rfl; exact h1; exact h⟩
      · rw [List.mem_append, List.mem_cons]
        conv => rhs; rw [← List.take_append_drop (lb (fun a => slt a (nth .empty l i)) out) out, List.mem_append]
        constructor
        · rintro (h | h | h)
          · exact .inl (.inl h)
          · exact .inr h
          · exact .inl (.inr h)
        · rintro ((h | h) | h)
          · exact .inl h
          · exact .inr (.inr h)
          · exact .inr (.inl h)
    · have := lb_le (fun a => slt a (nth .empty l i)) out
      split
      · omega
      · simp; omega
  · refine ⟨out, ?_, hI.1, fun x => by rw [hI.2.1 x, List.take_length], hI.2.2⟩
    show L_spec_l1Sorted _ _ = _
    rw [e_spec_l1Sorted_3]; simp (disch := omega) only [push_cast]
end KV
end
section
namespace KV
open Go Go.Eng
open Classical
theorem many_2 : ∀ (n : Nat) (s out : Bs) (T : Nat), out.size + n * s.size = T → T ≤ 1000000000 → s.size ≤ 1000000000 → n ≤ 1000000000 → ∃ r, L_spec_l1Many (some 2) [.s s, .i (n : Int), .s out] = some [.s r] ∧ r.size = T := by
  intro n
  induction n using Nat.strongRecOn with
  | ind n ih =>
    intro s out T hT hB hs hn
    rw [e_spec_l1Many_2]
    by_cases h0 : n = 0
    · subst h0; exact ⟨out, by simp (disch := omega) only [push_cast], by omega⟩
    have hd : IntKind.i64.wrap ((n : Int).tdiv 2) = ((n / 2 : Nat) : Int) := by
      rw [Int.tdiv_eq_ediv_of_nonneg (by omega), w64 (by omega)]; omega
    have hm : ((n : Int).tmod 2) = ((n % 2 : Nat) : Int) := by rw [Int.tmod_eq_emod_of_nonneg (by omega)]; omega
    have hss : (s ++ s).size = s.size + s.size := size_app s s
    have hmul : n * s.size = (n / 2) * (s.size + s.size) + (n % 2) * s.size := by
      conv => lhs; rw [← Nat.div_add_mod n 2]
      rw [Nat.add_mul, Nat.mul_comm 2 (n / 2), Nat.mul_assoc, Nat.two_mul]
    have hsT : s.size ≤ T := by
      have : 1 * s.size ≤ n * s.size := Nat.mul_le_mul_right _ (by omega)
      omega
    rw [hd, hm, mostE]
    by_cases h1 : n % 2 = 1
    · rw [h1] at hmul ⊢
      have hh : 2 ≤ n → s.size + s.size ≤ T := fun h2 => by
        have : 1 * (s.size + s.size) ≤ (n / 2) * (s.size + s.size) := Nat.mul_le_mul_right _ (by omega)
        omega
      by_cases h2 : 2 ≤ n
      · obtain ⟨r, hr, hr2⟩ := ih (n / 2) (by omega) (s ++ s) (out ++ s) T (by rw [size_app, hss]; omega) hB (by have := hh h2; omega) (by omega)
        refine ⟨r, ?_, hr2⟩
        rw [← hr]
        simp (disch := omega) only [push_cast]
      · have hn1 : n / 2 = 0 := by omega
        refine ⟨out ++ s, ?_, by rw [size_app]; rw [hn1] at hmul; omega⟩
        rw [hn1]
        simp (disch := omega) only [push_cast]
        rw [e_spec_l1Many_2]; simp (disch := omega) only [push_cast]
    · have h2 : n % 2 = 0 := by omega
      rw [h2] at hmul ⊢
      have : 1 * (s.size + s.size) ≤ (n / 2) * (s.size + s.size) := Nat.mul_le_mul_right _ (by omega)
      obtain ⟨r, hr, hr2⟩ := ih (n / 2) (by omega) (s ++ s) out T (by rw [hss]; omega) hB (by omega) (by omega)
      refine ⟨r, ?_, hr2⟩
      rw [← hr]
      simp (disch := omega) only [push_cast]
theorem many_ok (s : Bs) (n : Int) (h0 : 0 ≤ n ∧ n ≤ 1000000000) (hs : s.size = 1) : ∃ r, L_spec_l1Many none [.s s, .i n] = some [.s r] ∧ (r.size : Int) = n := by
  obtain ⟨n, rfl⟩ : ∃ m : Nat, n = (m : Int) := ⟨n.toNat, by omega⟩
  rw [e_spec_l1Many_i]
  obtain ⟨r, h1, h2⟩ := many_2 n s ⟨#[]⟩ n (by show 0 + n * s.size = n; rw [hs]; omega) (by omega) (by omega) (by omega)
  exact ⟨r, h1, by omega⟩
theorem drawThing_6 {b : Rw} (hb : RB b) (w : Int) (hw : widthB w = true) (x : Bs) : ∀ (m : Nat) (p : Int) (acc : List Bs), 0 ≤ p ∧ p + 10 * m ≤ 999999000 → acc.length + m ≤ 1000 → (∀ r ∈ acc, (r.size : Int) = w) → m ≤ 100 →
    ∃ (l : List Bs) (p' : Int), L_spec_l1DrawThing (some 6) [.i w, .i (m : Int), .l b, .i p, .s E0, .s x, .l (encS acc), .l [], .l []] = some [.s x, .l b, .i p', .l (encS l)] ∧ p ≤ p' ∧ p' ≤ p + 10 * m ∧ Asc l ∧ (∀ r ∈ l, (r.size : Int) = w) ∧ l.length ≤ acc.length + m
  | 0, p, acc, hp, hl, ha, hm => by
    obtain ⟨out, h1, h2, h3, h4⟩ := sorted_ok acc (by omega)
    refine ⟨out, p, ?_, by omega, by omega, h2, fun r hr => ha r ((h3 r).1 hr), by omega⟩
    rw [e_spec_l1DrawThing_6]; simp (disch := omega) only [push_cast, h1]
  | m + 1, p, acc, hp, hl, ha, hm => by
    obtain ⟨s, p1, hs, hp1, hp2, hsz⟩ := text_ok hb p (by omega)
    obtain ⟨l, p', h1, h2, h3, h4, h5, h6⟩ := drawThing_6 hb w hw x m p1 (acc ++ [sumM s w]) (by omega) (by simp; omega) (fun r hr => by
      rcases List.mem_append.1 hr with h | h
      · exact ha r h
      · rw [List.mem_singleton] at h; rw [h]; exact sumM_size hw) (by omega)
    refine ⟨l, p', ?_, by omega, by omega, h4, h5, by simp at h6; omega⟩
    rw [e_spec_l1DrawThing_6, hs, mostE, ← h1, ← encS_app]
    have e : ((m + 1 : Nat) : Int) - 1 = (m : Int) := by omega
    simp (disch := omega) only [push_cast, spec_Sum_eq s w (by omega)]
    rw [show (m : Int) + 1 - 1 = (m : Int) by omega]; rfl
structure DT (t : Thing) (w : Int) : Prop where
  text : t.text.size ≤ 4
  refs : t.refs.length ≤ 3
  asc : Asc t.refs
  size : ∀ r ∈ t.refs, (r.size : Int) = w
theorem drawThing_ok {b : Rw} (hb : RB b) (w : Int) (p : Int) (hp : 0 ≤ p ∧ p ≤ 999998000) : ∃ (t : Thing) (p' : Int), L_spec_l1DrawThing none [.i w, .l b, .i p] = some [.s t.text, .l b, .i p', .l (encS t.refs)] ∧ p ≤ p' ∧ p' ≤ p + 50 ∧ DT t w := by
  obtain ⟨s, p1, hs, hp1, hp2, hsz⟩ := text_ok hb p (by omega)
  rw [e_spec_l1DrawThing_i, hs]
  cases hw : widthB w
  · exact ⟨⟨s, []⟩, p1, by simp (disch := omega) only [push_cast, spec_l1Width_eq, hw] <;> rfl, hp1, by omega, hsz, Nat.zero_le _, List.Pairwise.nil, fun r hr => by cases hr⟩
  · obtain ⟨y, hy, hy0, hy1⟩ := pick_ok hb 4 (by omega) p1 (by omega)
    obtain ⟨n, rfl⟩ : ∃ n : Nat, y = (n : Int) := ⟨y.toNat, by omega⟩
    obtain ⟨l, p', h1, h2, h3, h4, h5, h6⟩ := drawThing_6 hb w hw s n (p1 + 1) [] (by omega) (by simp; omega) (fun r hr => by cases hr) (by omega)
    refine ⟨⟨s, l⟩, p', ?_, by omega, by omega, hsz, by simp at h6 ⊢; omega, h4, h5⟩
    simp (disch := omega) only [push_cast, spec_l1Width_eq, hw, hy]
    exact h1
inductive SpT (t t' : Thing) : Prop where
  | text (h : t'.refs = t.refs) (hs : t'.text.size ≤ 2001 ∨ t'.text.size ≤ t.text.size + 1)
  | more (r : Bs) (h : t'.text = t.text) (hr : t'.refs = t.refs ++ [r]) (hs : r.size = 1 ∨ r ∈ t.refs)
  | ones (h : t'.text = t.text) (hr : ∀ r ∈ t'.refs, r.size = 1) (hn : t'.refs.length ≤ 31)
theorem ones_15 {b : Rw} (n : Nat) (hn : n ≤ 31) (p : Int) (x y : Bs) : ∀ (m i : Nat) (acc : List Bs), n - i = m → i ≤ n → acc.length = i → (∀ r ∈ acc, r.size = 1) →
    ∃ l : List Bs, L_spec_l1SpoilThing (some 15) [.i (n : Int), .i (i : Int), .l b, .i p, .s x, .s y, .l [], .l (encS acc)] = some [.s y, .l b, .i p, .l (encS l)] ∧ (∀ r ∈ l, r.size = 1) ∧ l.length = n
  | 0, i, acc, hm, hi, ha, hr => ⟨acc, by rw [e_spec_l1SpoilThing_15]; simp (disch := omega) only [push_cast], hr, by omega⟩
  | m + 1, i, acc, hm, hi, ha, hr => by
    obtain ⟨l, h1, h2, h3⟩ := ones_15 n hn p x y m (i + 1) (acc ++ [bytesOf [[.i (IntKind.u8.wrap (IntKind.i64.wrap (33 + (i : Int))))]]]) (by omega) (by omega) (by simp [ha]) (fun r h => by
      rcases List.mem_append.1 h with h | h
      · exact hr r h
      · rw [List.mem_singleton] at h; rw [h, bytesOf_size]; rfl)
    refine ⟨l, ?_, h2, h3⟩
    rw [e_spec_l1SpoilThing_15, ← h1, mostE, ← encS_app]
    simp (disch := omega) only [push_cast]; rfl
theorem spoilThing_ok {b : Rw} (hb : RB b) (t : Thing) (ht : t.refs.length ≤ 1000000000 ∧ t.text.size ≤ 1000000000) (p : Int) (hp : 0 ≤ p ∧ p ≤ 999998000) :
    ∃ (t' : Thing) (p' : Int), L_spec_l1SpoilThing none [.s t.text, .l (encS t.refs), .l b, .i p] = some [.s t'.text, .l b, .i p', .l (encS t'.refs)] ∧ p ≤ p' ∧ p' ≤ p + 10 ∧ SpT t t' := by
  obtain ⟨x, hx, hx0, hx1⟩ := pick_ok hb 5 (by omega) p (by omega)
  rw [e_spec_l1SpoilThing_i, spec_l1Thing_eq _ _ (by rw [encS_len]; omega), mostE]
  by_cases c0 : x = 0
  · obtain ⟨y, hy, hy0, hy1⟩ := pick_ok hb 2 (by omega) (p + 1) (by omega)
    obtain ⟨r, hr, hr2⟩ := many_ok ⟨#[116]⟩ (2000 + y) (by omega) rfl
    refine ⟨⟨r, t.refs⟩, p + 1 + 1, ?_, by omega, by omega, .text rfl (.inl (by simp only; omega))⟩
    simp (disch := omega) only [push_cast, hx, hy, hr]
  by_cases c1 : x = 1
  · refine ⟨⟨t.text, t.refs ++ [⟨#[120]⟩]⟩, p + 1, ?_, by omega, by omega, .more ⟨#[120]⟩ rfl rfl (.inl rfl)⟩
    simp (disch := omega) only [push_cast, hx]
    rw [encS_one, encS_app]
  by_cases c2 : x = 2
  · by_cases h0 : 0 < t.refs.length
    · refine ⟨⟨t.text, t.refs ++ [nth .empty t.refs 0]⟩, p + 1, ?_, by omega, by omega, .more _ rfl rfl (.inr (nth_mem h0))⟩
      simp (disch := omega) only [push_cast, hx]
      rw [encS_one, encS_app]
    · refine ⟨t, p + 1, ?_, by omega, by omega, .text rfl (.inr (Nat.le_succ _))⟩
      simp (disch := omega) only [push_cast, hx]
  by_cases c3 : x = 3
  · obtain ⟨y, hy, hy0, hy1⟩ := pick_ok hb 2 (by omega) (p + 1) (by omega)
    obtain ⟨n, hn⟩ : ∃ n : Nat, 30 + y = (n : Int) := ⟨(30 + y).toNat, by omega⟩
    obtain ⟨l, h1, h2, h3⟩ := ones_15 (b := b) n (by omega) (p + 1 + 1) E0 t.text n 0 [] (by omega) (by omega) rfl (fun r hr => by cases hr)
    refine ⟨⟨t.text, l⟩, p + 1 + 1, ?_, by omega, by omega, .ones rfl h2 (by simp only; omega)⟩
    simp (disch := omega) only [push_cast, hx, hy, hn]
    exact h1
  · refine ⟨⟨t.text ++ ⟨#[122]⟩, t.refs⟩, p + 1, ?_, by omega, by omega, .text rfl (.inr (by simp only; rw [size_app]; exact Nat.le_refl _))⟩
    have : (⟨#[122]⟩ : Bs).size = 1 := rfl
    simp (disch := omega) only [push_cast, hx, this]
theorem drawFormThing_ok {c : Rw} (hc : ∀ i, 0 ≤ (rd c i 0).int ∧ (rd c i 0).int ≤ 255) : ∃ (t : Thing) (w : Int), L_spec_DrawFormThing none [.l c] = some [.s t.text, .i w, .l (encS t.refs)] ∧ t.text.size ≤ 2001 ∧ t.refs.length ≤ 31 ∧ 0 ≤ w ∧ w < 10 := by
  obtain ⟨b, hop, hb⟩ := open_ok hc
  obtain ⟨w, hw, hw1⟩ := width_ok hb 0 (by omega)
  obtain ⟨t, p1, ht, hp1, hp2, hD⟩ := drawThing_ok hb w (0 + 1) (by omega)
  obtain ⟨y, hy, hy0, hy1⟩ := pick_ok hb 4 (by omega) p1 (by omega)
  have d1 := hD.text; have d2 := hD.refs
  rw [e_spec_DrawFormThing_i]
  have fin : ∀ (p : Int), 0 ≤ p ∧ p ≤ 1000 → ∀ t' : Thing, t'.text.size ≤ 2001 → t'.refs.length ≤ 31 → ∃ (t2 : Thing) (w2 : Int), ((L_spec_l1Rd_pick none [.i 10, .l b, .i p]).bind fun y6 => cond ((g y6 0).int == 0) ((L_spec_l1Rd_pick none [.i 10, .l ((g y6 1).list), .i ((g y6 2).int)]).bind fun y7 => some [Lf.s t'.text, .i ((g y7 0).int), .l (encS t'.refs)]) (some [Lf.s t'.text, .i w, .l (encS t'.refs)])) = some [.s t2.text, .i w2, .l (encS t2.refs)] ∧ t2.text.size ≤ 2001 ∧ t2.refs.length ≤ 31 ∧ 0 ≤ w2 ∧ w2 < 10 := fun p hp t' h1 h2 => by
    obtain ⟨z, hz, hz0, hz1⟩ := pick_ok hb 10 (by omega) p (by omega)
    by_cases h0 : z = 0
    · obtain ⟨v, hv, hv0, hv1⟩ := pick_ok hb 10 (by omega) (p + 1) (by omega)
      exact ⟨t', v, by simp (disch := omega) only [push_cast, hz, hv], h1, h2, hv0, by omega⟩
    · exact ⟨t', w, by simp (disch := omega) only [push_cast, hz], h1, h2, by omega, by omega⟩
  by_cases h0 : y = 0
  · obtain ⟨t', p2, hs, hp3, hp4, hsp⟩ := spoilThing_ok hb t (by omega) (p1 + 1) (by omega)
    have sz : t'.text.size ≤ 2001 ∧ t'.refs.length ≤ 31 := by
      cases hsp with
      | text h hs => rw [h]; omega
      | more r h hr hs => rw [h, hr]; simp; omega
      | ones h hr hn => rw [h]; exact ⟨by omega, hn⟩
    obtain ⟨t2, w2, h1, h2⟩ := fin p2 (by omega) t' sz.1 sz.2
    refine ⟨t2, w2, ?_, h2⟩
    simp (disch := omega) only [push_cast, hop, hw, ht, hy, hs]
    rw [← h1]
    simp (disch := omega) only [push_cast]
  · obtain ⟨t2, w2, h1, h2⟩ := fin (p1 + 1) (by omega) t (by omega) (by omega)
    refine ⟨t2, w2, ?_, h2⟩
    simp (disch := omega) only [push_cast, hop, hw, ht, hy]
    rw [← h1]
    simp (disch := omega) only [push_cast]
end KV
end
section
namespace KV
open Go Go.Eng
open Classical
def bendL : Rw := [[.s (⟨#[32]⟩ : ByteArray)], [.s (⟨#[10]⟩ : ByteArray)], [.s (⟨#[0]⟩ : ByteArray)], [.s (⟨#[45]⟩ : ByteArray)], [.s (⟨#[48]⟩ : ByteArray)], [.s (⟨#[120]⟩ : ByteArray)], [.s (⟨#[37, 122, 122]⟩ : ByteArray)], [.s (⟨#[37, 52]⟩ : ByteArray)]]
theorem bendL_size (i : Nat) : ((rd bendL i 0).str).size ≤ 3 := by
  have h : ∀ j, j < 8 → ((rd bendL j 0).str).size ≤ 3 := by decide
  rcases Nat.lt_or_ge i 8 with h1 | h1
  · exact h i h1
  · have : rd bendL i 0 = .i 0 := by
      unfold rd
      rw [List.getD_eq_getElem?_getD (l := bendL), List.getElem?_eq_none (by exact h1)]; rfl
    rw [this]; decide
theorem bend_10 {b : Rw} (hb : RB b) (s : Bs) (hs : s.size ≤ 1000000000) (x : Int) (hx : 0 ≤ x) (hx2 : x ≤ s.size) (p : Int) (hp : 0 ≤ p ∧ p ≤ 999999000) : ∃ (r : Bs) (p' : Int), L_spec_l1Bend (some 10) [.s s, .i x, .l b, .i p] = some [.s r, .l b, .i p'] ∧ p ≤ p' ∧ p' ≤ p + 1 ∧ r.size ≤ s.size + 3 := by
  obtain ⟨x, rfl⟩ : ∃ n : Nat, x = (n : Int) := ⟨x.toNat, by omega⟩
  rw [e_spec_l1Bend_10, mostE]
  by_cases h : x < s.size
  · obtain ⟨y, hy, hy0, hy1⟩ := pick_ok hb 256 (by omega) p (by omega)
    have h1 : (bytesOf ([[.i (IntKind.u8.wrap y)]] : Rw)).size = 1 := by rw [bytesOf_size]; rfl
    have z1 : (s.extract 0 x).size = x := by rw [size_extract]; omega
    have z2 : (s.extract (x + 1) s.size).size = s.size - (x + 1) := by rw [size_extract]; omega
    refine ⟨s.extract 0 x ++ bytesOf [[.i (IntKind.u8.wrap y)]] ++ s.extract (x + 1) s.size, p + 1, ?_, by omega, by omega, by rw [size_app, size_app, h1, z1, z2]; omega⟩
    simp (disch := omega) only [push_cast, hy, bytesOf_size, z1, z2, size_app]
  · exact ⟨s, p, by simp (disch := omega) only [push_cast], by omega, by omega, by omega⟩
theorem bend_ok {b : Rw} (hb : RB b) (s : Bs) (hs : s.size ≤ 1000000000) (p : Int) (hp : 0 ≤ p ∧ p ≤ 999998000) : ∃ (r : Bs) (p' : Int), L_spec_l1Bend none [.s s, .l b, .i p] = some [.s r, .l b, .i p'] ∧ p ≤ p' ∧ p' ≤ p + 5 ∧ r.size ≤ s.size + 3 := by
  obtain ⟨x, hx, hx0, hx1⟩ := pick_ok hb ((s.size : Int) + 1) (by omega) p (by omega)
  obtain ⟨y, hy, hy0, hy1⟩ := pick_ok hb 4 (by omega) (p + 1) (by omega)
  obtain ⟨x, rfl⟩ : ∃ n : Nat, x = (n : Int) := ⟨x.toNat, by omega⟩
  rw [e_spec_l1Bend_i, mostE]
  have z1 : (s.extract 0 x).size = x := by rw [size_extract]; omega
  have z2 : (s.extract x s.size).size = s.size - x := by rw [size_extract]; omega
  by_cases c0 : y = 0
  · exact ⟨s.extract 0 x, p + 1 + 1, by simp (disch := omega) only [push_cast, hx, hy], by omega, by omega, by omega⟩
  by_cases c1 : y = 1
  · obtain ⟨z, hz, hz0, hz1⟩ := pick_ok hb 8 (by omega) (p + 1 + 1) (by omega)
    have hl := bendL_size z.toNat
    refine ⟨s.extract 0 x ++ (rd bendL z.toNat 0).str ++ s.extract x s.size, p + 1 + 1 + 1, ?_, by omega, by omega, by rw [size_app, size_app, z1, z2]; omega⟩
    have e : ([[.s (⟨#[32]⟩ : ByteArray)], [.s (⟨#[10]⟩ : ByteArray)], [.s (⟨#[0]⟩ : ByteArray)], [.s (⟨#[45]⟩ : ByteArray)], [.s (⟨#[48]⟩ : ByteArray)], [.s (⟨#[120]⟩ : ByteArray)], [.s (⟨#[37, 122, 122]⟩ : ByteArray)], [.s (⟨#[37, 52]⟩ : ByteArray)]] : Rw) = bendL := rfl
    have hlen : bendL.length = 8 := rfl
    rw [e]
    simp (disch := omega) only [push_cast, hx, hy, hz, hlen, z1, z2, size_app]
  by_cases c2 : y = 2
  · by_cases h : x < s.size
    · have z3 : (s.extract (x + 1) s.size).size = s.size - (x + 1) := by rw [size_extract]; omega
      refine ⟨s.extract 0 x ++ s.extract (x + 1) s.size, p + 1 + 1, ?_, by omega, by omega, by rw [size_app, z1, z3]; omega⟩
      simp (disch := omega) only [push_cast, hx, hy, z1, z3, size_app]
    · obtain ⟨r, p', h1, h2, h3, h4⟩ := bend_10 hb s hs (x : Int) (by omega) (by omega) (p + 1 + 1) (by omega)
      exact ⟨r, p', by simp (disch := omega) only [push_cast, hx, hy, h1], by omega, by omega, h4⟩
  · obtain ⟨r, p', h1, h2, h3, h4⟩ := bend_10 hb s hs (x : Int) (by omega) (by omega) (p + 1 + 1) (by omega)
    exact ⟨r, p', by simp (disch := omega) only [push_cast, hx, hy, h1], by omega, by omega, h4⟩
theorem formT_size (t : Thing) (w : Int) : (formT t w).size ≤ 2241 := by
  unfold formT
  split
  · rename_i h
    have := okForm (thingB_iff.1 h)
    rw [formM_size]; omega
  · exact Nat.zero_le _
theorem drawReadThing_ok {c : Rw} (hc : ∀ i, 0 ≤ (rd c i 0).int ∧ (rd c i 0).int ≤ 255) : ∃ (s : Bs) (w : Int), L_spec_DrawReadThing none [.l c] = some [.s s, .i w] ∧ s.size ≤ 2244 := by
  obtain ⟨b, hop, hb⟩ := open_ok hc
  obtain ⟨t, w, ht, h1, h2, h3, h4⟩ := drawFormThing_ok hc
  obtain ⟨y, hy, hy0, hy1⟩ := pick_ok hb 2 (by omega) 0 (by omega)
  have hz := formT_size t w
  rw [e_spec_DrawReadThing_i]
  by_cases h0 : y = 0
  · obtain ⟨r, p', h5, h6, h7, h8⟩ := bend_ok hb (formT t w) (by omega) (0 + 1) (by omega)
    exact ⟨r, w, by simp (disch := omega) only [push_cast, hop, ht, spec_FormThing_eq, hy, h5], by omega⟩
  · exact ⟨formT t w, w, by simp (disch := omega) only [push_cast, hop, ht, spec_FormThing_eq, hy], by omega⟩
end KV
end
section
namespace KV
open Go Go.Eng
open Classical
structure Act where
  kind : Int
  text : Bs
  refs : Int
  name : Bs
  pick : Int
  ticks : Int
def encA (a : Act) : Lv := [.i a.kind, .s a.text, .i a.refs, .s a.name, .i a.pick, .i a.ticks]
structure ActOk (a : Act) : Prop where
  kind : (1 ≤ a.kind ∧ a.kind ≤ 6) ∨ a.kind = 8 ∨ a.kind = 9 ∨ a.kind = 10
  text : a.text.size ≤ 4
  refs : 0 ≤ a.refs ∧ a.refs < 8
  name : a.name.size ≤ 1
  pick : 0 ≤ a.pick ∧ a.pick < 40
  ticks : 1 ≤ a.ticks ∧ a.ticks ≤ 200
def nameL : Rw := [[.s (⟨#[112]⟩ : ByteArray)], [.s (⟨#[113]⟩ : ByteArray)], [.s (⟨#[114]⟩ : ByteArray)]]
def tickL : Rw := [[.i 1], [.i 3], [.i 10], [.i 40], [.i 200]]
theorem nameL_size (i : Nat) : ((rd nameL i 0).str).size ≤ 1 := by
  match i with
  | 0 => exact Nat.le_refl _
  | 1 => exact Nat.le_refl _
  | 2 => exact Nat.le_refl _
  | n + 3 => exact Nat.zero_le _
theorem tickL_rng (i : Nat) (h : i < 5) : 1 ≤ (rd tickL i 0).int ∧ (rd tickL i 0).int ≤ 200 := by
  match i, h with
  | 0, _ => exact ⟨Int.le_refl _, by show (1 : Int) ≤ 200; omega⟩
  | 1, _ => exact ⟨by show (1 : Int) ≤ 3; omega, by show (3 : Int) ≤ 200; omega⟩
  | 2, _ => exact ⟨by show (1 : Int) ≤ 10; omega, by show (10 : Int) ≤ 200; omega⟩
  | 3, _ => exact ⟨by show (1 : Int) ≤ 40; omega, by show (40 : Int) ≤ 200; omega⟩
  | 4, _ => exact ⟨by show (1 : Int) ≤ 200; omega, Int.le_refl _⟩
theorem act_ok {b : Rw} (hb : RB b) (p : Int) (hp : 0 ≤ p ∧ p ≤ 999998000) : ∃ (a : Act) (p' : Int), L_spec_l7Act none [.l b, .i p] = some (encA a ++ [.l b, .i p']) ∧ p ≤ p' ∧ p' ≤ p + 20 ∧ ActOk a := by
  obtain ⟨s, p1, h1, h2, h3, hs⟩ := text_ok hb p (by omega)
  obtain ⟨x2, e2, r2, s2⟩ := pick_ok hb 8 (by omega) p1 (by omega)
  obtain ⟨x3, e3, r3, s3⟩ := pick_ok hb 3 (by omega) (p1 + 1) (by omega)
  obtain ⟨x4, e4, r4, s4⟩ := pick_ok hb 40 (by omega) (p1 + 1 + 1) (by omega)
  obtain ⟨x5, e5, r5, s5⟩ := pick_ok hb 5 (by omega) (p1 + 1 + 1 + 1) (by omega)
  obtain ⟨x6, e6, r6, s6⟩ := pick_ok hb 20 (by omega) (p1 + 1 + 1 + 1 + 1) (by omega)
  have ht := tickL_rng x5.toNat (by omega)
  have hnm := nameL_size x3.toNat
  refine ⟨⟨if x6 < 7 then 1 else if x6 < 10 then 2 else if x6 = 10 then 3 else if x6 = 11 then 4 else if x6 = 12 then 5 else if x6 < 15 then 6 else if x6 = 15 then 8 else if x6 = 16 then 9 else 10, s, x2, (rd nameL x3.toNat 0).str, x4, (rd tickL x5.toNat 0).int⟩, p1 + 1 + 1 + 1 + 1 + 1, ?_, by omega, by omega, ?_⟩
  · rw [e_spec_l7Act_i, h1]
    simp (disch := omega) only [push_cast, e2, e3, e4, e5, e6]
    by_cases c1 : x6 < 7
    · rw [if_pos c1]; simp (disch := omega) only [push_cast]; rfl
    rw [if_neg c1]
    by_cases c2 : x6 < 10
    · rw [if_pos c2]; simp (disch := omega) only [push_cast]; rfl
    rw [if_neg c2]
    by_cases c3 : x6 = 10
    · rw [if_pos c3]; simp (disch := omega) only [push_cast]; rfl
    rw [if_neg c3]
    by_cases c4 : x6 = 11
    · rw [if_pos c4]; simp (disch := omega) only [push_cast]; rfl
    rw [if_neg c4]
    by_cases c5 : x6 = 12
    · rw [if_pos c5]; simp (disch := omega) only [push_cast]; rfl
    rw [if_neg c5]
    by_cases c6 : x6 < 15
    · rw [if_pos c6]; simp (disch := omega) only [push_cast]; rfl
    rw [if_neg c6]
    by_cases c7 : x6 = 15
    · rw [if_pos c7]; simp (disch := omega) only [push_cast]; rfl
    rw [if_neg c7]
    by_cases c8 : x6 = 16
    · rw [if_pos c8]; simp (disch := omega) only [push_cast]; rfl
    rw [if_neg c8]; simp (disch := omega) only [push_cast]; rfl
  · refine ⟨?_, hs, by simp only; omega, hnm, by simp only; omega, ht⟩
    show (1 ≤ (if x6 < 7 then (1 : Int) else _) ∧ _) ∨ _
    simp only
    repeat' split
    all_goals omega
theorem actThing_5 (a : Act) (s : State) (ha : ActOk a) (hT : 0 < s.things.length) (hn : s.things.length ≤ 1000000) : ∀ (m k : Nat) (acc : List Bs), 4 - k = m → k ≤ 4 → acc.length ≤ k → (∀ r ∈ acc, hasT s.things r) →
    ∃ l : List Bs, L_spec_Act_Thing (some 5) [.i (k : Int), .i a.kind, .s a.text, .i a.refs, .s a.name, .i a.pick, .i a.ticks, .i s.width, .i s.now, .i s.given, .i s.births, .l (encK s.things), .l (encP s.pins), .l (encL s.leases), .s E0, .s a.text, .l (encS acc), .l [], .l []] = some [.s a.text, .l (encS l)] ∧ l.length ≤ 4 ∧ Asc l ∧ ∀ r ∈ l, hasT s.things r := by
  intro m
  have fin : ∀ acc : List Bs, acc.length ≤ 4 → (∀ r ∈ acc, hasT s.things r) → ∃ l : List Bs, (L_spec_l1Sorted none [.l (encS acc)]).bind (fun y1 => some ([.s a.text, .l ((g y1 0).list)] : Lv)) = some ([.s a.text, .l (encS l)] : Lv) ∧ l.length ≤ 4 ∧ Asc l ∧ ∀ r ∈ l, hasT s.things r := by
    intro acc h1 h2
    obtain ⟨out, e, h3, h4, h5⟩ := sorted_ok acc (by omega)
    exact ⟨out, by rw [e]; rfl, by omega, h3, fun r hr => h2 r ((h4 r).1 hr)⟩
  have hr := ha.refs
  have hp := ha.pick
  have hd : 0 ≤ a.refs.tdiv 2 ∧ a.refs.tdiv 2 ≤ 3 := by rw [Int.tdiv_eq_ediv_of_nonneg hr.1]; omega
  induction m with
  | zero =>
    intro k acc hm hk hl hh
    have : k = 4 := by omega
    subst this
    obtain ⟨l, e, r⟩ := fin acc (by omega) hh
    refine ⟨l, ?_, r⟩
    rw [e_spec_Act_Thing_5]
    simp (disch := omega) only [push_cast]
    exact e
  | succ m ih =>
    intro k acc hm hk hl hh
    by_cases c : (k : Int) < a.refs.tdiv 2
    · have ht := tmod_range (a := a.pick + 5 * (k : Int)) (n := (s.things.length : Int)) (by omega) (by omega)
      obtain ⟨j, hj⟩ : ∃ j : Nat, (a.pick + 5 * (k : Int)).tmod (s.things.length : Int) = j := ⟨((a.pick + 5 * (k : Int)).tmod (s.things.length : Int)).toNat, by omega⟩
      obtain ⟨l, e, r⟩ := ih (k + 1) (acc ++ [(nth K0 s.things j).sum]) (by omega) (by omega) (by simp; omega) (fun r hr => by
        rcases List.mem_append.1 hr with h | h
        · exact hh r h
        · rw [List.mem_singleton] at h; rw [h]; exact ⟨_, nth_mem (by omega), rfl⟩)
      refine ⟨l, ?_, r⟩
      rw [e_spec_Act_Thing_5, mostE]
      rw [← encS_app] at e
      simp (disch := omega) only [push_cast, hj]
      exact e
    · obtain ⟨l, e, r⟩ := fin acc (by omega) hh
      refine ⟨l, ?_, r⟩
      rw [e_spec_Act_Thing_5]
      simp (disch := omega) only [push_cast]
      exact e
theorem actThing_ok (a : Act) (s : State) (ha : ActOk a) (hn : s.things.length ≤ 1000000) : ∃ l : List Bs, L_spec_Act_Thing none (encA a ++ encSt s) = some [.s a.text, .l (encS l)] ∧ l.length ≤ 4 ∧ Asc l ∧ ∀ r ∈ l, hasT s.things r := by
  show ∃ l : List Bs, L_spec_Act_Thing none [.i a.kind, .s a.text, .i a.refs, .s a.name, .i a.pick, .i a.ticks, .i s.width, .i s.now, .i s.given, .i s.births, .l (encK s.things), .l (encP s.pins), .l (encL s.leases)] = _ ∧ _
  rw [e_spec_Act_Thing_i]
  by_cases h : 0 < s.things.length
  · obtain ⟨l, e, r⟩ := actThing_5 a s ha h hn 4 0 [] rfl (by omega) (Nat.le_refl _) (fun r hr => nomatch hr)
    exact ⟨l, by simp (disch := omega) only [push_cast]; exact e, r⟩
  · obtain ⟨out, e, h3, h4, h5⟩ := sorted_ok [] (Nat.zero_le _)
    have e' : L_spec_l1Sorted none [.l []] = some [.l (encS out)] := e
    refine ⟨out, by simp (disch := omega) only [push_cast, e'], by have : out.length ≤ 0 := h5; omega, h3, fun r hr => nomatch (h4 r).1 hr⟩
theorem actSum_ok (a : Act) (s : State) (ha : ActOk a) (hn : s.things.length ≤ 1000000) : ∃ x : Bs, L_spec_Act_Sum none (encA a ++ encSt s) = some [.s x] := by
  show ∃ x : Bs, L_spec_Act_Sum none [.i a.kind, .s a.text, .i a.refs, .s a.name, .i a.pick, .i a.ticks, .i s.width, .i s.now, .i s.given, .i s.births, .l (encK s.things), .l (encP s.pins), .l (encL s.leases)] = _
  rw [e_spec_Act_Sum_i]
  have hp := ha.pick
  by_cases h : s.things.length = 0
  · refine ⟨sumM ⟨#[110, 111, 110, 101]⟩ s.width, ?_⟩
    simp (disch := omega) only [push_cast, spec_Sum_eq (⟨#[110, 111, 110, 101]⟩ : ByteArray) s.width (by show (4 : Nat) ≤ 1099511627776; omega)]
  · have ht := tmod_range (a := a.pick) (n := (s.things.length : Int)) (by omega) (by omega)
    obtain ⟨j, hj⟩ : ∃ j : Nat, a.pick.tmod (s.things.length : Int) = j := ⟨(a.pick.tmod (s.things.length : Int)).toNat, by omega⟩
    exact ⟨(nth K0 s.things j).sum, by simp (disch := omega) only [push_cast, hj]⟩
theorem actLease_ok (a : Act) (s : State) (ha : ActOk a) (hn : s.leases.length ≤ 1000000) : ∃ x : Int, L_spec_Act_Lease none (encA a ++ encSt s) = some [.i x] := by
  show ∃ x : Int, L_spec_Act_Lease none [.i a.kind, .s a.text, .i a.refs, .s a.name, .i a.pick, .i a.ticks, .i s.width, .i s.now, .i s.given, .i s.births, .l (encK s.things), .l (encP s.pins), .l (encL s.leases)] = _
  rw [e_spec_Act_Lease_i]
  have hp := ha.pick
  by_cases h : s.leases.length = 0
  · exact ⟨1 + a.pick, by simp (disch := omega) only [push_cast]⟩
  · have ht := tmod_range (a := a.pick) (n := (s.leases.length : Int)) (by omega) (by omega)
    obtain ⟨j, hj⟩ : ∃ j : Nat, a.pick.tmod (s.leases.length : Int) = j := ⟨(a.pick.tmod (s.leases.length : Int)).toNat, by omega⟩
    exact ⟨(nth L0 s.leases j).number, by simp (disch := omega) only [push_cast, hj]⟩
def GV (v : Vault) : Prop := VV v ∨ v = V0
theorem GV.small {v : Vault} (h : GV v) : SmallV v := by
  rcases h with h | rfl
  · exact h.small
  · exact ⟨⟨Nat.zero_le _, fun x hx => nomatch hx⟩, ⟨Nat.zero_le _, fun x hx => nomatch hx⟩, Nat.zero_le _, ⟨Nat.zero_le _, Nat.zero_le _, Nat.zero_le _, fun x hx => nomatch hx⟩, Nat.zero_le _, Nat.zero_le _, Nat.zero_le _⟩
theorem GV.nT {v : Vault} (h : GV v) : v.st.things.length ≤ 1000000 ∧ v.st.leases.length ≤ 1000000 := by
  rcases h with h | rfl
  · have h1 := h.vs.1.nT; have h2 := h.vs.1.nL; omega
  · exact ⟨Nat.zero_le _, Nat.zero_le _⟩
end KV
end
section
namespace KV
open Go Go.Eng
open Classical
theorem adj_iff {α : Type} (d : α) {R : α → α → Prop} (tr : ∀ a b c, R a b → R b c → R a c) (l : List α) : l.Pairwise R ↔ ∀ j, 0 < j → j < l.length → R (nth d l (j - 1)) (nth d l j) := by
  constructor
  · intro h j h1 h2; exact pair_nth d h (by omega) h2
  · intro h
    rw [List.pairwise_iff_getElem]
    intro i j hi hj hij
    rw [← nth_get d l i hi, ← nth_get d l j hj]
    have : ∀ k, i + k + 1 < l.length → R (nth d l i) (nth d l (i + k + 1)) := by
      intro k
      induction k with
      | zero => intro hk; have := h (i + 1) (by omega) hk; rwa [Nat.add_sub_cancel] at this
      | succ k ih => intro hk; exact tr _ _ _ (ih (by omega)) (by have := h (i + (k + 1) + 1) (by omega) hk; rwa [Nat.add_sub_cancel] at this)
    have := this (j - i - 1) (by omega)
    rwa [show i + (j - i - 1) + 1 = j by omega] at this
def bsT (T : List Kept) (i : Nat) : List Int := (T.take i).map (·.born)
theorem bsT_S (T : List Kept) (i : Nat) (h : i < T.length) : bsT T (i + 1) = bsT T i ++ [(nth K0 T i).born] := by
  unfold bsT
  rw [nth_get K0 T i h, List.take_add_one, List.map_append, List.getElem?_eq_getElem h]; rfl
structure tP (w births : Int) (T : List Kept) (j : Nat) : Prop where
  adj : 0 < j → slt (nth K0 T (j - 1)).sum (nth K0 T j).sum = true
  ok : ThingOk (nth K0 T j).thing w
  sum : (nth K0 T j).sum = sumM (formM (nth K0 T j).thing) w
  lo : 1 ≤ (nth K0 T j).born
  hi : (nth K0 T j).born ≤ births
  new : (nth K0 T j).born ∉ bsT T j
theorem nd_iff (T : List Kept) : (T.map (·.born)).Nodup ↔ ∀ j, 0 ≤ j → j < T.length → (nth K0 T j).born ∉ bsT T j := by
  constructor
  · intro h j _ hj hm
    obtain ⟨a, ha, he⟩ := List.mem_map.1 hm
    obtain ⟨i, hi, rfl⟩ := List.mem_iff_getElem.1 ha
    rw [List.length_take] at hi
    rw [List.getElem_take] at he
    have := List.pairwise_iff_getElem.1 h i j (by rw [List.length_map]; omega) (by rw [List.length_map]; omega) (by omega)
    rw [List.getElem_map, List.getElem_map] at this
    rw [nth_get K0 T j hj] at he
    exact this he
  · intro h
    rw [List.Nodup, List.pairwise_iff_getElem]
    intro i j hi hj hij he
    rw [List.length_map] at hi hj
    rw [List.getElem_map, List.getElem_map] at he
    apply h j (Nat.zero_le _) hj
    rw [nth_get K0 T j hj, ← he]
    exact List.mem_map.2 ⟨_, List.mem_take_iff_getElem.2 ⟨i, by omega, rfl⟩, rfl⟩
theorem tP_all (w births : Int) (T : List Kept) : (∀ j, 0 ≤ j → j < T.length → tP w births T j) ↔ SrtK T ∧ (∀ k ∈ T, ThingOk k.thing w ∧ k.sum = sumM (formM k.thing) w ∧ 1 ≤ k.born ∧ k.born ≤ births) ∧ (T.map (·.born)).Nodup := by
  rw [nd_iff, show SrtK T ↔ _ from adj_iff K0 (R := fun a b => slt a.sum b.sum = true) (fun a b c h1 h2 => slt_trans h1 h2) T]
  constructor
  · intro h
    refine ⟨fun j h1 h2 => (h j (by omega) h2).adj h1, fun k hk => ?_, fun j h1 h2 => (h j h1 h2).new⟩
    obtain ⟨j, hj, rfl⟩ := mem_nth K0 hk
    have := h j (Nat.zero_le _) hj
    exact ⟨this.ok, this.sum, this.lo, this.hi⟩
  · rintro ⟨h1, h2, h3⟩ j h4 h5
    have := h2 _ (nth_mem (d := K0) h5)
    exact ⟨fun h => h1 j h h5, this.1, this.2.1, this.2.2.1, this.2.2.2, h3 j h4 h5⟩
def refIn (T : List Kept) (b : Int) (r : Bs) : Prop := hasT T r ∧ (nth K0 T (lb (qK r) T)).born < b
theorem refIn_iff {T : List Kept} (h : SrtK T) (b : Int) (r : Bs) : refIn T b r ↔ ∃ j ∈ T, j.sum = r ∧ j.born < b := by
  constructor
  · rintro ⟨h1, h2⟩
    obtain ⟨h3, h4⟩ := (hasT_iff h r).1 h1
    exact ⟨_, nth_mem h3, h4, h2⟩
  · rintro ⟨k, hk, rfl, hb⟩
    obtain ⟨j, hj, rfl⟩ := mem_nth K0 hk
    have := key_at K0 h (kp (nth K0 T j).sum) (kR (nth K0 T j).sum) hj rfl
    refine ⟨⟨_, nth_mem hj, rfl⟩, ?_⟩
    rw [← this]; exact hb
structure pP (T : List Kept) (P : List Pin) (j : Nat) : Prop where
  has : hasT T (nth P0 P j).sum
  nm : NameOk (nth P0 P j).name
  adj : 0 < j → slt (nth P0 P (j - 1)).name (nth P0 P j).name = true
theorem pP_all (T : List Kept) (P : List Pin) : (∀ j, 0 ≤ j → j < P.length → pP T P j) ↔ SrtP P ∧ ∀ p ∈ P, NameOk p.name ∧ hasT T p.sum := by
  rw [show SrtP P ↔ _ from adj_iff P0 (R := fun a b => slt a.name b.name = true) (fun a b c h1 h2 => slt_trans h1 h2) P]
  constructor
  · intro h
    refine ⟨fun j h1 h2 => (h j (by omega) h2).adj h1, fun k hk => ?_⟩
    obtain ⟨j, hj, rfl⟩ := mem_nth P0 hk
    have := h j (Nat.zero_le _) hj
    exact ⟨this.nm, this.has⟩
  · rintro ⟨h1, h2⟩ j h4 h5
    have := h2 _ (nth_mem (d := P0) h5)
    exact ⟨this.2, this.1, fun h => h1 j h h5⟩
structure lP (now given : Int) (T : List Kept) (L : List Lease) (j : Nat) : Prop where
  has : hasT T (nth L0 L j).sum
  lo : 1 ≤ (nth L0 L j).number
  hi : (nth L0 L j).number ≤ given
  adj : 0 < j → (nth L0 L (j - 1)).number < (nth L0 L j).number
  t1 : now < (nth L0 L j).till
  t2 : (nth L0 L j).till ≤ now + 100000
theorem lP_all (now given : Int) (T : List Kept) (L : List Lease) : (∀ j, 0 ≤ j → j < L.length → lP now given T L j) ↔ SrtL L ∧ ∀ l ∈ L, 1 ≤ l.number ∧ l.number ≤ given ∧ hasT T l.sum ∧ now < l.till ∧ l.till ≤ now + 100000 := by
  rw [show SrtL L ↔ _ from adj_iff L0 (R := fun a b => a.number < b.number) (fun a b c h1 h2 => Int.lt_trans h1 h2) L]
  constructor
  · intro h
    refine ⟨fun j h1 h2 => (h j (by omega) h2).adj h1, fun k hk => ?_⟩
    obtain ⟨j, hj, rfl⟩ := mem_nth L0 hk
    have := h j (Nat.zero_le _) hj
    exact ⟨this.lo, this.hi, this.has, this.t1, this.t2⟩
  · rintro ⟨h1, h2⟩ j h4 h5
    have := h2 _ (nth_mem (d := L0) h5)
    exact ⟨this.2.2.1, this.1, this.2.1, fun h => h1 j h h5, this.2.2.2.1, this.2.2.2.2⟩
theorem vs_iff (s : State) : VS s ↔ (1 ≤ s.width ∧ s.width ≤ 8) ∧ (0 ≤ s.now ∧ s.now ≤ 1000000000) ∧ (0 ≤ s.given ∧ s.given ≤ 1000000000) ∧ (0 ≤ s.births ∧ s.births ≤ 1000000000) ∧ s.things.length ≤ 600 ∧ s.pins.length ≤ 100 ∧ s.leases.length ≤ 200 ∧
    (∀ j, 0 ≤ j → j < s.things.length → tP s.width s.births s.things j) ∧ (∀ j, 0 ≤ j → j < s.things.length → ∀ i, 0 ≤ i → i < (nth K0 s.things j).thing.refs.length → refIn s.things (nth K0 s.things j).born (nth .empty (nth K0 s.things j).thing.refs i)) ∧
    (∀ j, 0 ≤ j → j < s.pins.length → pP s.things s.pins j) ∧ (∀ j, 0 ≤ j → j < s.leases.length → lP s.now s.given s.things s.leases j) := by
  rw [tP_all, pP_all, lP_all]
  constructor
  · intro V
    refine ⟨V.wd, V.now, V.given, V.births, V.nT, V.nP, V.nL, ⟨V.srtT, V.okT, V.ndT⟩, fun j _ hj i _ hi => (refIn_iff V.srtT _ _).2 (V.refs _ (nth_mem hj) _ (nth_mem hi)), ⟨V.srtP, V.okP⟩, ⟨V.srtL, V.okL⟩⟩
  · rintro ⟨a, b, c, d, e, f, g, ⟨h1, h2, h3⟩, i, ⟨j1, j2⟩, ⟨k1, k2⟩⟩
    refine ⟨a, b, c, d, e, f, g, h1, h2, h3, fun k hk r hr => ?_, j1, j2, k1, k2⟩
    obtain ⟨m, hm, rfl⟩ := mem_nth K0 hk
    obtain ⟨n, hn, rfl⟩ := mem_nth .empty hr
    exact (refIn_iff h1 _ _).1 (i m (Nat.zero_le _) hm n (Nat.zero_le _) hn)
theorem VS.names {s : State} (V : VS s) : ∀ p ∈ s.pins, p.name.size ≤ 4611686018427387904 := fun p hp => by have := (V.okP p hp).1.hi; omega
end KV
end
section
namespace KV
open Go Go.Eng
open Classical
theorem len_sub {α : Type} : ∀ (l m : List α), l.Nodup → (∀ x ∈ l, x ∈ m) → l.length ≤ m.length
  | [], m, _, _ => Nat.zero_le _
  | a :: l, m, h, hs => by
    rw [List.nodup_cons] at h
    have ha := hs a (by simp)
    have h1 := len_sub l (m.erase a) h.2 fun x hx => by
      have hne : x ≠ a := fun e => h.1 (e ▸ hx)
      exact (List.mem_erase_of_ne hne).2 (hs x (by simp [hx]))
    rw [List.length_erase_of_mem ha] at h1
    have : 0 < m.length := List.length_pos_of_mem ha
    rw [List.length_cons]; omega
structure RI (N : Int) (v : Vault) : Prop where
  vv : VV v
  sub : ∀ x ∈ v.rd.marked, hasT v.st.things x
  q : v.rd.queue.length ≤ 300 + 30 * v.rd.marked.length + (v.safe.length + v.loose.length)
  cnt : ((v.safe.length + v.loose.length : Nat) : Int) + v.rd.rounds ≤ N
  t1 : v.rd.phase ≠ 0 → ∀ x, held v.st x → x ∈ v.rd.marked ∨ x ∈ v.rd.queue
  t2 : v.rd.phase ≠ 0 → ∀ k ∈ v.st.things, k.sum ∈ v.rd.marked → ∀ r ∈ k.thing.refs, r ∈ v.rd.marked ∨ r ∈ v.rd.queue
  t3 : v.rd.phase ≠ 0 → ∀ k ∈ v.st.things, v.rd.at_ ≤ k.born → k.sum ∈ v.rd.marked ∨ k.sum ∈ v.rd.queue
theorem marked_len {T : List Kept} {l : List Bs} (h : l.Nodup) (hs : ∀ x ∈ l, hasT T x) : l.length ≤ T.length := by
  have := len_sub l (T.map (·.sum)) h fun x hx => by
    obtain ⟨k, hk, rfl⟩ := hs x hx
    exact List.mem_map.2 ⟨k, hk, rfl⟩
  rw [List.length_map] at this; exact this
theorem RI.lens {N : Int} {v : Vault} (h : RI N v) : v.rd.marked.length ≤ 600 ∧ v.rd.queue.length ≤ 22300 := by
  have h1 := marked_len h.vv.rd.ndM h.sub
  have h2 := h.vv.vs.1.nT; have h3 := h.q; have h4 := h.vv.log.n
  omega
theorem VS.heldT {s : State} (V : VS s) {x : Bs} (h : held s x) : hasT s.things x := by
  rcases h with ⟨p, hp, rfl⟩ | ⟨l, hl, rfl⟩
  · exact (V.okP p hp).2
  · exact (V.okL l hl).2.2.1
theorem VS.born_inj {s : State} (V : VS s) {a b : Kept} (ha : a ∈ s.things) (hb : b ∈ s.things) (h : a.born = b.born) : a = b := by
  obtain ⟨i, hi, rfl⟩ := mem_nth K0 ha
  obtain ⟨j, hj, rfl⟩ := mem_nth K0 hb
  have nd := V.ndT
  rw [nd_iff] at nd
  rcases Nat.lt_trichotomy i j with h1 | h1 | h1
  · exfalso
    apply nd j (Nat.zero_le _) hj
    unfold bsT
    rw [← h]
    exact List.mem_map.2 ⟨_, by rw [nth_get K0 _ _ hi]; exact List.mem_take_iff_getElem.2 ⟨i, by omega, rfl⟩, rfl⟩
  · rw [h1]
  · exfalso
    apply nd i (Nat.zero_le _) hi
    unfold bsT
    rw [h]
    exact List.mem_map.2 ⟨_, by rw [nth_get K0 _ _ hj]; exact List.mem_take_iff_getElem.2 ⟨j, by omega, rfl⟩, rfl⟩
theorem sweep_free {N : Int} {v : Vault} (h : RI N v) (h0 : v.rd.phase ≠ 0) (hq : v.rd.queue = []) {k : Kept} (hk : k ∈ v.st.things) (hm : k.sum ∉ v.rd.marked)
    (hbest : ∀ j ∈ v.st.things, j.born < v.rd.at_ → j.born ≤ k.born) : ¬ held v.st k.sum ∧ ¬ isRef v.st.things k.sum := by
  have V := h.vv.vs.1
  constructor
  · intro hh
    rcases h.t1 h0 _ hh with h1 | h1
    · exact hm h1
    · rw [hq] at h1; cases h1
  · rintro ⟨j, hj, hr⟩
    obtain ⟨k', hk', he, hb⟩ := V.refs j hj _ hr
    obtain rfl : k' = k := by
      have hs := V.srtT
      obtain ⟨a, ha, rfl⟩ := mem_nth K0 hk'
      obtain ⟨b, hb2, rfl⟩ := mem_nth K0 hk
      have h1 := key_at K0 hs (kp (nth K0 v.st.things b).sum) (kR (nth K0 v.st.things b).sum) ha he
      have h2 := key_at K0 hs (kp (nth K0 v.st.things b).sum) (kR (nth K0 v.st.things b).sum) hb2 rfl
      rw [h1, ← h2]
    have hjm : j.sum ∉ v.rd.marked := by
      intro hjm
      rcases h.t2 h0 j hj hjm _ hr with h1 | h1
      · exact hm h1
      · rw [hq] at h1; cases h1
    have hlt : j.born < v.rd.at_ := by
      rcases (by omega : j.born < v.rd.at_ ∨ v.rd.at_ ≤ j.born) with h1 | h1
      · exact h1
      · rcases h.t3 h0 j hj h1 with h2 | h2
        · exact absurd h2 hjm
        · rw [hq] at h2; cases h2
    have := hbest j hj hlt
    omega
theorem hasT_delK {T : List Kept} {x y : Bs} (h : hasT T y) (hne : y ≠ x) : hasT (delK x T) y := by
  obtain ⟨k, hk, rfl⟩ := h
  exact ⟨k, mem_delK.2 ⟨hk, hne⟩, rfl⟩
theorem RI_unit {N : Int} {v : Vault} (h : RI N v) (hN : N ≤ 3000) : RI (N + 1) (stepV v) ∧ ((stepV v).rd.phase = 2 → (stepV v).rd.at_ ≠ v.rd.at_ → ∀ k ∈ (stepV v).st.things, k.born = (stepV v).rd.at_ → k.sum ∈ (stepV v).rd.marked) := by
  have Vs := h.vv.vs
  have V := Vs.1
  have hlen := h.lens
  have hlog := h.vv.log.n
  have hcnt := h.cnt
  have hrd := h.vv.rd.rds
  have hq := h.q
  have mk : ∀ (v' : Vault), v' = stepV v → v'.rd.rounds < 1000000001 → (∀ x ∈ v'.rd.marked, hasT v'.st.things x) → v'.rd.queue.length ≤ 300 + 30 * v'.rd.marked.length + (v'.safe.length + v'.loose.length) → v'.rd.marked.Nodup → ((v'.safe.length + v'.loose.length : Nat) : Int) + v'.rd.rounds ≤ N + 1 →
      (v'.rd.phase ≠ 0 → ∀ x, held v'.st x → x ∈ v'.rd.marked ∨ x ∈ v'.rd.queue) → (v'.rd.phase ≠ 0 → ∀ k ∈ v'.st.things, k.sum ∈ v'.rd.marked → ∀ r ∈ k.thing.refs, r ∈ v'.rd.marked ∨ r ∈ v'.rd.queue) → (v'.rd.phase ≠ 0 → ∀ k ∈ v'.st.things, v'.rd.at_ ≤ k.born → k.sum ∈ v'.rd.marked ∨ k.sum ∈ v'.rd.queue) → RI (N + 1) (stepV v) := by
    rintro v' rfl h1 h2 h3 h4 h5 h6 h7 h8
    have hs := step_VQ h.vv (by omega) (.inr (by omega))
    have hml := marked_len h4 h2
    have hT := hs.vs.1.nT
    have hl := hs.log.n
    exact ⟨hs.vv (hs.rd (by omega) (by omega)), h2, h3, h5, h6, h7, h8⟩
  have est : ∀ d, d = E0 → stepSt v.st d = v.st := fun d hd => if_pos hd
  by_cases h0 : v.rd.phase = 0
  · have hu : unitM v.st v.rd = (⟨1, rootsM v.st, v.rd.marked, v.st.births, v.st.births + 1, v.rd.rounds⟩, E0) := by unfold unitM; rw [if_pos h0]
    have hv' : stepV v = { v with rd := ⟨1, rootsM v.st, v.rd.marked, v.st.births, v.st.births + 1, v.rd.rounds⟩ } := by
      unfold stepV; rw [hu, est E0 rfl, if_pos rfl]
    have hrl := roots_len v.st
    have n2 := V.nP; have n3 := V.nL
    refine ⟨mk _ hv'.symm (by simp only; omega) h.sub (by simp only; omega) h.vv.rd.ndM (by simp only; omega) (fun _ x hx => .inr ?_) (fun _ k hk hm => ?_) (fun _ k hk hb => ?_), ?_⟩
    · simp only at hx ⊢
      unfold rootsM
      rw [mem_foldU, mem_foldU]
      rcases hx with ⟨p, hp, rfl⟩ | ⟨p, hp, rfl⟩
      · exact .inl (.inr (List.mem_map.2 ⟨p, hp, rfl⟩))
      · exact .inr (List.mem_map.2 ⟨p, hp, rfl⟩)
    · simp only at hm
      rw [(h.vv.rd.rest h0).2.1] at hm; cases hm
    · simp only at hb hk
      have := (V.okT k hk).2.2.2; omega
    · rw [hv']; intro h1; simp only at h1; omega
  have hgo := h.vv.rd.go h0
  cases hqq : v.rd.queue with
  | cons x q =>
    have hql : v.rd.queue.length = q.length + 1 := by rw [hqq]; rfl
    by_cases c : hasT v.st.things x ∧ x ∉ v.rd.marked
    · have hu : unitM v.st v.rd = (⟨v.rd.phase, q ++ (nth K0 v.st.things (lb (qK x) v.st.things)).thing.refs.filter fun y => !decide (y ∈ v.rd.marked ++ [x]), v.rd.marked ++ [x], v.rd.top, v.rd.at_, v.rd.rounds⟩, E0) := by unfold unitM; rw [if_neg h0, hqq]; simp only; rw [if_pos c]
      have hv' : stepV v = { v with rd := ⟨v.rd.phase, q ++ (nth K0 v.st.things (lb (qK x) v.st.things)).thing.refs.filter fun y => !decide (y ∈ v.rd.marked ++ [x]), v.rd.marked ++ [x], v.rd.top, v.rd.at_, v.rd.rounds⟩ } := by
        unfold stepV; rw [hu, est E0 rfl, if_pos rfl]
      have hlt := (hasT_iff V.srtT x).1 c.1
      have hrl := (V.okT _ (nth_mem (d := K0) hlt.1)).1.refs
      have hfl := List.length_filter_le (fun y => !decide (y ∈ v.rd.marked ++ [x])) (nth K0 v.st.things (lb (qK x) v.st.things)).thing.refs
      have mv : ∀ y, y ∈ v.rd.marked ∨ y ∈ v.rd.queue → y ∈ v.rd.marked ++ [x] ∨ y ∈ q ++ (nth K0 v.st.things (lb (qK x) v.st.things)).thing.refs.filter fun y => !decide (y ∈ v.rd.marked ++ [x]) := by
        intro y hy
        rw [hqq] at hy
        rcases hy with h1 | h1
        · exact .inl (List.mem_append.2 (.inl h1))
        · rcases List.mem_cons.1 h1 with h2 | h2
          · exact .inl (List.mem_append.2 (.inr (by rw [h2]; simp)))
          · exact .inr (List.mem_append.2 (.inl h2))
      refine ⟨mk _ hv'.symm (by simp only; omega) (fun y hy => ?_) ?_ ?_ (by simp only; omega) (fun _ y hy => mv y (h.t1 h0 y hy)) (fun _ k hk hm r hr => ?_) (fun _ k hk hb => mv _ (h.t3 h0 k hk hb)), ?_⟩
      · simp only at hy ⊢
        rcases List.mem_append.1 hy with h1 | h1
        · exact h.sub y h1
        · rw [List.mem_singleton] at h1; rw [h1]; exact c.1
      · simp only [List.length_append, List.length_cons, List.length_nil]
        omega
      · simp only
        rw [List.nodup_append]
        refine ⟨h.vv.rd.ndM, by simp, fun a ha b hb => ?_⟩
        rw [List.mem_singleton] at hb
        rintro rfl
        rw [hb] at ha; exact c.2 ha
      · simp only at hm hk ⊢
        rcases List.mem_append.1 hm with h1 | h1
        · exact mv r (h.t2 h0 k hk h1 r hr)
        · rw [List.mem_singleton] at h1
          obtain ⟨i, hi, rfl⟩ := mem_nth K0 hk
          have hii := key_at K0 V.srtT (kp x) (kR x) hi h1
          rw [hii] at hr
          by_cases hrm : r ∈ v.rd.marked ++ [x]
          · exact .inl hrm
          · exact .inr (List.mem_append.2 (.inr (List.mem_filter.2 ⟨hr, by simp [hrm]⟩)))
      · rw [hv']; intro h1 h2; exact absurd rfl h2
    · have hu : unitM v.st v.rd = (⟨v.rd.phase, q, v.rd.marked, v.rd.top, v.rd.at_, v.rd.rounds⟩, E0) := by unfold unitM; rw [if_neg h0, hqq]; simp only; rw [if_neg c]
      have hv' : stepV v = { v with rd := ⟨v.rd.phase, q, v.rd.marked, v.rd.top, v.rd.at_, v.rd.rounds⟩ } := by
        unfold stepV; rw [hu, est E0 rfl, if_pos rfl]
      have mv : ∀ y, hasT v.st.things y → y ∈ v.rd.marked ∨ y ∈ v.rd.queue → y ∈ v.rd.marked ∨ y ∈ q := by
        intro y hy h1
        rw [hqq] at h1
        rcases h1 with h1 | h1
        · exact .inl h1
        · rcases List.mem_cons.1 h1 with h2 | h2
          · subst h2
            exact .inl (Classical.byContradiction fun h3 => c ⟨hy, h3⟩)
          · exact .inr h2
      refine ⟨mk _ hv'.symm (by simp only; omega) h.sub (by simp only; omega) h.vv.rd.ndM (by simp only; omega) (fun _ y hy => mv y (V.heldT hy) (h.t1 h0 y hy)) (fun _ k hk hm r hr => mv r ?_ (h.t2 h0 k hk hm r hr)) (fun _ k hk hb => mv _ ⟨k, hk, rfl⟩ (h.t3 h0 k hk hb)), ?_⟩
      · obtain ⟨j, hj, he, _⟩ := V.refs k hk r hr; exact ⟨j, hj, he⟩
      · rw [hv']; intro h1 h2; exact absurd rfl h2
  | nil =>
    by_cases c : bestT v.st.things v.rd.at_ < 0
    · have hu : unitM v.st v.rd = (⟨0, [], [], 0, 0, v.rd.rounds + 1⟩, E0) := by unfold unitM; rw [if_neg h0, hqq]; simp only; rw [if_pos c]
      have hv' : stepV v = { v with rd := ⟨0, [], [], 0, 0, v.rd.rounds + 1⟩ } := by
        unfold stepV; rw [hu, est E0 rfl, if_pos rfl]
      refine ⟨mk _ hv'.symm (by simp only; omega) (fun y hy => nomatch hy) (Nat.zero_le _) List.nodup_nil (by simp only; omega) (fun h1 => absurd rfl h1) (fun h1 => absurd rfl h1) (fun h1 => absurd rfl h1), ?_⟩
      rw [hv']; intro h1; simp only at h1; omega
    · have hbl := bestI_lt v.st.things v.rd.at_ v.st.things.length
      have hbi := (bestI_is v.st.things v.rd.at_ v.st.things.length).2
      have hbt : bestI v.st.things v.rd.at_ v.st.things.length = bestT v.st.things v.rd.at_ := rfl
      rw [hbt] at hbl hbi
      obtain ⟨n, hn⟩ : ∃ n : Nat, bestT v.st.things v.rd.at_ = n := ⟨(bestT v.st.things v.rd.at_).toNat, by omega⟩
      have hnl : n < v.st.things.length := by omega
      have hmem := nth_mem (d := K0) hnl
      rw [hn, toNat_cast] at hbi
      obtain ⟨hb1, hb2⟩ := hbi (by omega)
      have hbest : ∀ j ∈ v.st.things, j.born < v.rd.at_ → j.born ≤ (nth K0 v.st.things n).born := by
        intro j hj hjb
        obtain ⟨i, hi, rfl⟩ := mem_nth K0 hj
        exact hb2 i hi hjb
      obtain ⟨k0, hk0⟩ : ∃ k0, nth K0 v.st.things n = k0 := ⟨_, rfl⟩
      have hu : unitM v.st v.rd = (⟨2, [], v.rd.marked, v.rd.top, k0.born, v.rd.rounds⟩, if k0.sum ∈ v.rd.marked ∨ held v.st k0.sum ∨ isRef v.st.things k0.sum then E0 else k0.sum) := by
        unfold unitM; rw [if_neg h0, hqq]; simp only; rw [if_neg c, hn, toNat_cast, hk0]
      rw [hk0] at hmem hb1 hbest
      by_cases cm : k0.sum ∈ v.rd.marked
      · rw [if_pos (Or.inl cm)] at hu
        have hv' : stepV v = { v with rd := ⟨2, [], v.rd.marked, v.rd.top, k0.born, v.rd.rounds⟩ } := by
          unfold stepV; rw [hu, est E0 rfl, if_pos rfl]
        refine ⟨mk _ hv'.symm (by simp only; omega) h.sub (by simp only [List.length_nil]; omega) h.vv.rd.ndM (by simp only; omega) (fun _ y hy => by have := h.t1 h0 y hy; rw [hqq] at this; exact this) (fun _ k hk hm r hr => by have := h.t2 h0 k hk hm r hr; rw [hqq] at this; exact this) (fun _ k hk hb => ?_), ?_⟩
        · simp only at hk hb ⊢
          rcases (by omega : k.born < v.rd.at_ ∨ v.rd.at_ ≤ k.born) with h1 | h1
          · have := hbest k hk h1
            obtain rfl := V.born_inj hk hmem (by omega)
            exact .inl cm
          · have := h.t3 h0 k hk h1; rw [hqq] at this; exact this
        · rw [hv']; intro _ _ k hk hb
          simp only at hk hb ⊢
          obtain rfl := V.born_inj hk hmem hb
          exact cm
      · obtain ⟨f1, f2⟩ := sweep_free h h0 hqq hmem cm hbest
        rw [if_neg (fun h => h.elim cm fun h => h.elim f1 f2)] at hu
        have hne := V.sumNe hmem
        have hv' : stepV v = { v with rd := ⟨2, [], v.rd.marked, v.rd.top, k0.born, v.rd.rounds⟩, st := { v.st with things := delK k0.sum v.st.things }, loose := v.loose ++ [formE (eDrop k0.sum)] } := by
          unfold stepV stepSt; rw [hu]; simp only; rw [if_neg hne, if_neg hne]
        refine ⟨mk _ hv'.symm (by simp only; omega) (fun y hy => ?_) (by simp only [List.length_nil, List.length_append, List.length_cons]; omega) h.vv.rd.ndM (by simp only [List.length_append, List.length_cons, List.length_nil]; omega) (fun _ y hy => by have := h.t1 h0 y hy; rw [hqq] at this; exact this) (fun _ k hk hm r hr => by have := h.t2 h0 k (mem_delK.1 hk).1 hm r hr; rw [hqq] at this; exact this) (fun _ k hk hb => ?_), ?_⟩
        · exact hasT_delK (h.sub y hy) fun e => cm (e ▸ hy)
        · simp only at hk hb ⊢
          obtain ⟨hk1, hk2⟩ := mem_delK.1 hk
          rcases (by omega : k.born < v.rd.at_ ∨ v.rd.at_ ≤ k.born) with h1 | h1
          · have := hbest k hk1 h1
            obtain rfl := V.born_inj hk1 hmem (by omega)
            exact absurd rfl hk2
          · have := h.t3 h0 k hk1 h1; rw [hqq] at this; exact this
        · rw [hv']; intro _ _ k hk hb
          simp only at hk hb ⊢
          obtain ⟨hk1, hk2⟩ := mem_delK.1 hk
          obtain rfl := V.born_inj hk1 hmem hb
          exact absurd rfl hk2
theorem clr_RI : ∀ (n : Nat) (N : Int) (v : Vault) (d : List Bs) (u : Nat), RI N v → N + n ≤ 3000 → ∃ v' d', clrI n v d u = some (v', d', u + n) ∧ clrS n v d u = some (v', d', u + n) ∧ RI (N + n) v'
  | 0, N, v, d, u, h, hN => ⟨v, d, rfl, rfl, by rw [show N + ((0 : Nat) : Int) = N by omega]; exact h⟩
  | n + 1, N, v, d, u, h, hN => by
    have hs := (RI_unit h (by omega)).1
    have hlen := hs.lens
    have hcnt := h.cnt; have hrd := h.vv.rd.rds; have hlog := h.vv.log.n
    obtain ⟨v', d', e1, e2, e3⟩ := clr_RI n (N + 1) (stepV v) (d ++ oneD (unitM v.st v.rd).2) (u + 1) hs (by omega)
    have hq : (unitM v.st v.rd).1.queue.length ≤ 22300 := hlen.2
    have hm : (unitM v.st v.rd).1.marked.length ≤ 600 := hlen.1
    refine ⟨v', d', ?_, ?_, by rw [show N + ((n + 1 : Nat) : Int) = N + 1 + n by omega]; exact e3⟩
    · simp only [clrI]
      rw [if_neg (fun h1 => h1.elim (fun h2 => h2 h.vv.rd) (by omega)), if_neg (fun h1 => by have := h1.2; omega), e1, show u + 1 + n = u + (n + 1) by omega]
    · simp only [clrS]
      rw [if_neg (fun h1 => by rcases h1 with h1 | h1 | h1 <;> omega), if_neg (fun h1 => by have := h1.2; omega), e2, show u + 1 + n = u + (n + 1) by omega]
theorem chg_eff {s : State} {e : Entry} (hk : 1 ≤ e.kind ∧ e.kind ≤ 6) (h : (chg s e).code = 0) : (∀ k ∈ s.things, k ∈ (chg s e).st.things) ∧ (∀ k ∈ (chg s e).st.things, k ∈ s.things ∨ (e.kind = 1 ∧ k.sum = shaded e (chg s e) ∧ k.born = s.births + 1 ∧ ¬ hasT s.things k.sum)) ∧
    (∀ x, held (chg s e).st x → held s x ∨ ((e.kind = 1 ∨ e.kind = 2 ∨ e.kind = 4) ∧ x = shaded e (chg s e))) := by
  have lentH : ∀ (t : State) (x y : Bs) (m : Int), held (lent t x m) y → held t y ∨ y = x := by
    intro t x y m hy
    rcases hy with ⟨p, hp, he⟩ | ⟨l, hl, he⟩
    · exact .inl (.inl ⟨p, hp, he⟩)
    · rcases List.mem_append.1 hl with h1 | h1
      · exact .inl (.inr ⟨l, h1, he⟩)
      · rw [List.mem_singleton] at h1; subst h1; exact .inr he.symm
  by_cases c1 : e.kind = 1
  · have hc : chg s e = putS s e := by unfold chg; rw [if_pos c1]
    have hsh : shaded e (chg s e) = (chg s e).sum := if_pos c1
    rw [hsh]
    rw [hc] at h ⊢
    rw [put_sum h]
    unfold putS at h ⊢
    split at h
    · cases h
    · rename_i a1
      rw [if_neg a1]
      split at h
      · rename_i a2
        rw [if_pos a2]
        split at h
        · rename_i a3
          rw [if_pos a3]
          split at h
          · rename_i a4
            rw [if_pos a4]
            exact ⟨fun k hk => hk, fun k hk => .inl hk, fun x hx => (lentH _ _ _ _ hx).imp id fun h => ⟨.inl c1, h⟩⟩
          · cases h
        · cases h
      · rename_i a2
        rw [if_neg a2]
        split at h
        · rename_i a3
          rw [if_pos a3]
          refine ⟨fun k hk => mem_insK.2 (.inr hk), fun k hk => ?_, fun x hx => (lentH _ _ _ _ hx).imp id fun h => ⟨.inl c1, h⟩⟩
          rcases mem_insK.1 hk with h1 | h1
          · subst h1; exact .inr ⟨c1, rfl, rfl, a2⟩
          · exact .inl h1
        · cases h
  have hsh : shaded e (chg s e) = e.sum := if_neg c1
  rw [hsh]
  unfold chg at h ⊢
  rw [if_neg c1] at h ⊢
  by_cases c2 : e.kind = 2
  · rw [if_pos c2] at h ⊢
    split at h
    · rename_i a1
      rw [if_pos a1]
      split at h
      · rename_i a2
        rw [if_pos a2]
        refine ⟨fun k hk => hk, fun k hk => .inl hk, fun x hx => ?_⟩
        rcases hx with ⟨p, hp, he⟩ | ⟨l, hl, he⟩
        · rcases mem_putP hp with h1 | h1
          · subst h1; exact .inr ⟨.inr (.inl c2), he.symm⟩
          · exact .inl (.inl ⟨p, h1, he⟩)
        · exact .inl (.inr ⟨l, hl, he⟩)
      · cases h
    · cases h
  rw [if_neg c2] at h ⊢
  by_cases c3 : e.kind = 3
  · rw [if_pos c3] at h ⊢
    split at h
    · rename_i a1
      rw [if_pos a1]
      refine ⟨fun k hk => hk, fun k hk => .inl hk, fun x hx => .inl ?_⟩
      rcases hx with ⟨p, hp, he⟩ | ⟨l, hl, he⟩
      · exact .inl ⟨p, (List.mem_filter.1 hp).1, he⟩
      · exact .inr ⟨l, hl, he⟩
    · cases h
  rw [if_neg c3] at h ⊢
  by_cases c4 : e.kind = 4
  · rw [if_pos c4] at h ⊢
    split at h
    · rename_i a1
      rw [if_pos a1]
      split at h
      · rename_i a2
        rw [if_pos a2]
        exact ⟨fun k hk => hk, fun k hk => .inl hk, fun x hx => (lentH _ _ _ _ hx).imp id fun h => ⟨.inr (.inr c4), h⟩⟩
      · cases h
    · cases h
  rw [if_neg c4] at h ⊢
  by_cases c5 : e.kind = 5
  · rw [if_pos c5] at h ⊢
    split at h
    · rename_i a1
      rw [if_pos a1]
      refine ⟨fun k hk => hk, fun k hk => .inl hk, fun x hx => .inl ?_⟩
      rcases hx with ⟨p, hp, he⟩ | ⟨l, hl, he⟩
      · exact .inl ⟨p, hp, he⟩
      · exact .inr ⟨l, (List.mem_filter.1 hl).1, he⟩
    · cases h
  rw [if_neg c5] at h ⊢
  have c6 : e.kind = 6 := by omega
  rw [if_pos c6] at h ⊢
  split at h
  · rename_i a1
    rw [if_pos a1]
    refine ⟨fun k hk => hk, fun k hk => .inl hk, fun x hx => .inl ?_⟩
    rcases hx with ⟨p, hp, he⟩ | ⟨l, hl, he⟩
    · exact .inl ⟨p, hp, he⟩
    · exact .inr ⟨l, (List.mem_filter.1 hl).1, he⟩
  · cases h
theorem chg_has {s : State} {e : Entry} (hk : e.kind = 1 ∨ e.kind = 2 ∨ e.kind = 4) (h : (chg s e).code = 0) : hasT (chg s e).st.things (shaded e (chg s e)) := by
  by_cases c1 : e.kind = 1
  · have hc : chg s e = putS s e := by unfold chg; rw [if_pos c1]
    have hsh : shaded e (chg s e) = (chg s e).sum := if_pos c1
    rw [hsh]
    rw [hc] at h ⊢
    rw [put_sum h]
    unfold putS at h ⊢
    split at h
    · cases h
    · rename_i a1
      rw [if_neg a1]
      split at h
      · rename_i a2
        rw [if_pos a2]
        split at h
        · rename_i a3
          rw [if_pos a3]
          split at h
          · rename_i a4; rw [if_pos a4]; exact a2
          · cases h
        · cases h
      · rename_i a2
        rw [if_neg a2]
        split at h
        · rename_i a3
          rw [if_pos a3]
          exact ⟨_, mem_insK.2 (.inl rfl), rfl⟩
        · cases h
  have hsh : shaded e (chg s e) = e.sum := if_neg c1
  rw [hsh]
  unfold chg at h ⊢
  rw [if_neg c1] at h ⊢
  by_cases c2 : e.kind = 2
  · rw [if_pos c2] at h ⊢
    split at h
    · rename_i a1
      rw [if_pos a1]
      split at h
      · rename_i a2; rw [if_pos a2]; exact a1
      · cases h
    · cases h
  have c4 : e.kind = 4 := by omega
  rw [if_neg c2, if_neg (by omega), if_pos c4] at h ⊢
  split at h
  · rename_i a1
    rw [if_pos a1]
    split at h
    · rename_i a2; rw [if_pos a2]; exact a1
    · cases h
  · cases h
theorem shade_mem {s : State} {r : Round} {x : Bs} (hT : hasT s.things x) (h0 : r.phase ≠ 0) (hq : r.queue.length < 23200) : x ∈ (shadeM s r x).marked ∨ x ∈ (shadeM s r x).queue := by
  unfold shadeM
  by_cases hm : x ∈ r.marked
  · rw [if_neg fun h => h.2.2.1 hm]; exact .inl hm
  · rw [if_pos ⟨hT, h0, hm, hq⟩]; exact .inr (by simp)
theorem shade_keeps (s : State) (r : Round) (x : Bs) : (shadeM s r x).marked = r.marked ∧ (shadeM s r x).phase = r.phase ∧ (shadeM s r x).at_ = r.at_ ∧ (shadeM s r x).rounds = r.rounds ∧ (∀ y ∈ r.queue, y ∈ (shadeM s r x).queue) ∧ (shadeM s r x).queue.length ≤ r.queue.length + 1 := by
  unfold shadeM
  split
  · exact ⟨rfl, rfl, rfl, rfl, fun y hy => List.mem_append.2 (.inl hy), by simp⟩
  · exact ⟨rfl, rfl, rfl, rfl, fun y hy => hy, Nat.le_succ _⟩
theorem doE_v {v : Vault} {e : Entry} {sh : Bool} (h : (doE v e sh).code = 0) : (doE v e sh).v = { v with loose := v.loose ++ [formE e], st := (chg v.st e).st, rd := if sh = true then shadeM (chg v.st e).st v.rd (shaded e (chg v.st e)) else v.rd } := by
  unfold doE at h ⊢
  split at h
  · cases h
  · rename_i a1; rw [if_neg a1]
    split at h
    · cases h
    · rename_i a2; rw [if_neg a2]
      split at h
      · rename_i a3; exact absurd h a3
      · rename_i a3; rw [if_neg a3]
        split at h
        · cases h
        · rename_i a4; rw [if_neg a4]
          split at h
          · cases h
          · rename_i a5; rw [if_neg a5]
theorem RI_do {N : Int} {v : Vault} (h : RI N v) (hN : N ≤ 3000) {e : Entry} {sh : Bool} (hk : 1 ≤ e.kind ∧ e.kind ≤ 6) (hs : (e.kind = 1 ∨ e.kind = 2 ∨ e.kind = 4) → sh = true) (hc : (doE v e sh).code = 0) : RI (N + 1) (doE v e sh).v := by
  obtain ⟨V0', he, hcc, VVn⟩ := doE_VV hc
  have hv := doE_v hc
  have V := h.vv.vs.1
  have hlen := h.lens
  have hcnt := h.cnt
  have hqq := h.q
  obtain ⟨f1, f2, f3⟩ := chg_eff hk hcc
  rw [hv] at VVn ⊢
  obtain ⟨r', hr'⟩ : ∃ r', (if sh = true then shadeM (chg v.st e).st v.rd (shaded e (chg v.st e)) else v.rd) = r' := ⟨_, rfl⟩
  rw [hr'] at VVn ⊢
  have keep : r'.marked = v.rd.marked ∧ r'.phase = v.rd.phase ∧ r'.at_ = v.rd.at_ ∧ r'.rounds = v.rd.rounds ∧ (∀ y ∈ v.rd.queue, y ∈ r'.queue) ∧ r'.queue.length ≤ v.rd.queue.length + 1 := by
    rw [← hr']
    split
    · exact shade_keeps _ _ _
    · exact ⟨rfl, rfl, rfl, rfl, fun y hy => hy, Nat.le_succ _⟩
  have new : v.rd.phase ≠ 0 → (e.kind = 1 ∨ e.kind = 2 ∨ e.kind = 4) → shaded e (chg v.st e) ∈ r'.marked ∨ shaded e (chg v.st e) ∈ r'.queue := by
    intro h0 hk
    rw [← hr', if_pos (hs hk)]
    exact shade_mem (chg_has hk hcc) h0 (by omega)
  obtain ⟨k1, k2, k3, k4, k5, k6⟩ := keep
  have mv : ∀ y, y ∈ v.rd.marked ∨ y ∈ v.rd.queue → y ∈ r'.marked ∨ y ∈ r'.queue := fun y hy => hy.imp (fun h => by rw [k1]; exact h) (k5 y)
  refine ⟨VVn, fun x hx => ?_, ?_, ?_, fun h0 x hx => ?_, fun h0 k hk hm r hr => ?_, fun h0 k hk hb => ?_⟩
  · simp only at hx ⊢
    rw [k1] at hx
    obtain ⟨k, hk, he⟩ := h.sub x hx
    exact ⟨k, f1 k hk, he⟩
  · simp only [List.length_append, List.length_cons, List.length_nil]
    rw [k1]; omega
  · simp only [List.length_append, List.length_cons, List.length_nil]
    rw [k4]; omega
  · simp only at h0 hx ⊢
    rw [k2] at h0
    rcases f3 x hx with h1 | ⟨h1, rfl⟩
    · exact mv x (h.t1 h0 x h1)
    · exact new h0 h1
  · simp only at h0 hk hm ⊢
    rw [k2] at h0
    rw [k1] at hm
    rcases f2 k hk with h1 | ⟨_, _, _, h1⟩
    · exact mv r (h.t2 h0 k h1 hm r hr)
    · exact absurd (h.sub _ hm) h1
  · simp only at h0 hk hb ⊢
    rw [k2] at h0
    rw [k3] at hb
    rcases f2 k hk with h1 | ⟨h1, h2, _, _⟩
    · exact mv _ (h.t3 h0 k h1 hb)
    · rw [h2]; exact new h0 (.inl h1)
end KV
end
section
namespace KV
open Go Go.Eng
open Classical
theorem GV.log {v : Vault} (h : GV v) : v.safe.length + v.loose.length ≤ 4000 ∧ (∀ x ∈ v.safe ++ v.loose, x.size ≤ 5000) := by
  rcases h with h | rfl
  · refine ⟨h.log.n, fun x hx => ?_⟩
    rcases List.mem_append.1 hx with h1 | h1
    · exact h.log.sa x h1
    · exact h.log.sb x h1
  · exact ⟨Nat.zero_le _, fun x hx => nomatch hx⟩
end KV
end
section
namespace KV
open Go Go.Eng
open Classical
theorem RI.mono {N M : Int} {v : Vault} (h : RI N v) (hM : N ≤ M) : RI M v := ⟨h.vv, h.sub, h.q, by have := h.cnt; omega, h.t1, h.t2, h.t3⟩
theorem RI_flush {N : Int} {v : Vault} (h : RI N v) : RI N (flushM v) := by
  have hv := flush_VV h.vv
  have : flushM v = { v with safe := v.safe ++ v.loose, loose := [] } := by unfold flushM; rw [if_pos h.vv]
  rw [this] at hv ⊢
  exact ⟨hv, h.sub, by have := h.q; simp only [List.length_append, List.length_nil]; omega, by have := h.cnt; simp only [List.length_append, List.length_nil]; omega, h.t1, h.t2, h.t3⟩
theorem loseM_eq {v : Vault} (V : VV v) (k : Int) : ∃ s, runL v.width (empty v.width) (v.safe ++ v.loose.take k.toNat) 0 = .inl s ∧ loseM v k = ⟨v.width, v.limit, v.safe ++ v.loose.take k.toNat, [], s, R0⟩ := by
  obtain ⟨s, h1, h2, h3⟩ := lose_open V k
  refine ⟨s, h1, ?_⟩
  unfold loseM; rw [if_pos V, h2]
theorem RI_lose {N : Int} {v : Vault} (h : RI N v) (k : Int) : RI N (loseM v k) := by
  have hv := lose_VV h.vv k
  obtain ⟨s, _, he⟩ := loseM_eq h.vv k
  rw [he] at hv ⊢
  have hl : (v.loose.take k.toNat).length ≤ v.loose.length := by rw [List.length_take]; omega
  exact ⟨hv, (fun x hx => nomatch hx), Nat.zero_le _, by have := h.cnt; have := h.vv.rd.rds; show (((v.safe ++ v.loose.take k.toNat).length + 0 : Nat) : Int) + 0 ≤ N; rw [List.length_append]; omega, fun h => absurd rfl h, fun h => absurd rfl h, fun h => absurd rfl h⟩
theorem doE_same {v : Vault} {e : Entry} {sh : Bool} (V : VV v) (h : ¬ (doE v e sh).code = 0) : (doE v e sh).v = v := by
  unfold doE at h ⊢
  rw [if_neg (not_not_intro V)] at h ⊢
  split
  · rfl
  · rename_i a2; rw [if_neg a2] at h
    split
    · rfl
    · rename_i a3; rw [if_neg a3] at h
      split
      · rfl
      · rename_i a4; rw [if_neg a4] at h
        split
        · rfl
        · rename_i a5; rw [if_neg a5] at h; exact absurd rfl h
theorem RI_doE {N : Int} {v : Vault} (h : RI N v) (hN : N ≤ 3000) {e : Entry} {sh : Bool} (hk : 1 ≤ e.kind ∧ e.kind ≤ 6) (hs : (e.kind = 1 ∨ e.kind = 2 ∨ e.kind = 4) → sh = true) : RI (N + 1) (doE v e sh).v := by
  by_cases hc : (doE v e sh).code = 0
  · exact RI_do h hN hk hs hc
  · rw [doE_same h.vv hc]; exact h.mono (by omega)
def A0 : Act := ⟨0, E0, 0, E0, 0, 0⟩
def cA (a : Act) : List C := [.i a.kind, .s a.text, .i a.refs, .s a.name, .i a.pick, .i a.ticks]
def encAs (l : List Act) : Rw := l.map cA
@[push_cast] theorem encAs_len (l : List Act) : (encAs l).length = l.length := by simp [encAs]
@[push_cast] theorem encAs_0 (l : List Act) (i : Nat) : (rd (encAs l) i 0).int = (nth A0 l i).kind := row_cell cA A0 l i 0 C.int rfl
@[push_cast] theorem encAs_1 (l : List Act) (i : Nat) : (rd (encAs l) i 1).str = (nth A0 l i).text := row_cell cA A0 l i 1 C.str rfl
@[push_cast] theorem encAs_2 (l : List Act) (i : Nat) : (rd (encAs l) i 2).int = (nth A0 l i).refs := row_cell cA A0 l i 2 C.int rfl
@[push_cast] theorem encAs_3 (l : List Act) (i : Nat) : (rd (encAs l) i 3).str = (nth A0 l i).name := row_cell cA A0 l i 3 C.str rfl
@[push_cast] theorem encAs_4 (l : List Act) (i : Nat) : (rd (encAs l) i 4).int = (nth A0 l i).pick := row_cell cA A0 l i 4 C.int rfl
@[push_cast] theorem encAs_5 (l : List Act) (i : Nat) : (rd (encAs l) i 5).int = (nth A0 l i).ticks := row_cell cA A0 l i 5 C.int rfl
theorem drawActs_7 {b : Rw} (hb : RB b) (n : Nat) (hn : n ≤ 40) : ∀ (m i : Nat) (p : Int) (acc : List Act), n - i = m → i ≤ n → 0 ≤ p ∧ p + 20 * m ≤ 999998000 → acc.length = i → (∀ a ∈ acc, ActOk a) →
    ∃ l, L_spec_DrawActs (some 7) [.i (n : Int), .i (i : Int), .l b, .i p, .l (encAs acc)] = some [.l (encAs l)] ∧ l.length = n ∧ ∀ a ∈ l, ActOk a := by
  intro m
  induction m with
  | zero =>
    intro i p acc hm hi hp ha hA
    have : i = n := by omega
    subst this
    refine ⟨acc, ?_, ha, hA⟩
    rw [e_spec_DrawActs_7]; simp (disch := omega) only [push_cast]
  | succ m ih =>
    intro i p acc hm hi hp ha hA
    obtain ⟨a, p1, ea, h1, h2, hok⟩ := act_ok hb p (by omega)
    obtain ⟨l, e, hl, hA'⟩ := ih (i + 1) p1 (acc ++ [a]) (by omega) (by omega) (by omega) (by simp [ha]) (fun x hx => by
      rcases List.mem_append.1 hx with h | h
      · exact hA x h
      · rw [List.mem_singleton] at h; rw [h]; exact hok)
    refine ⟨l, ?_, hl, hA'⟩
    have happ : encAs (acc ++ [a]) = encAs acc ++ [cA a] := by simp [encAs]
    rw [happ] at e
    rw [e_spec_DrawActs_7, ea, mostE]
    unfold encA
    simp only [List.cons_append, List.nil_append]
    simp (disch := omega) only [push_cast]
    exact e
theorem drawActs_ok {c : Rw} (hc : ∀ i, 0 ≤ (rd c i 0).int ∧ (rd c i 0).int ≤ 255) : ∃ l, L_spec_DrawActs none [.l c] = some [.l (encAs l)] ∧ l.length ≤ 39 ∧ ∀ a ∈ l, ActOk a := by
  obtain ⟨b, hop, hb⟩ := open_ok hc
  obtain ⟨x1, e1, r1, s1⟩ := pick_ok hb 16 (by omega) 0 (by omega)
  obtain ⟨x2, e2, r2, s2⟩ := pick_ok hb 8 (by omega) (0 + 1) (by omega)
  rw [e_spec_DrawActs_i, hop]
  by_cases c : x2 = 0
  · obtain ⟨n, hn⟩ : ∃ n : Nat, 4 + x1 + 20 = n := ⟨(4 + x1 + 20).toNat, by omega⟩
    obtain ⟨l, e, h1, h2⟩ := drawActs_7 hb n (by omega) n 0 (0 + 1 + 1) [] (by omega) (by omega) (by omega) rfl (fun a ha => nomatch ha)
    refine ⟨l, ?_, by omega, h2⟩
    simp (disch := omega) only [push_cast, e1, e2, hn]
    exact e
  · obtain ⟨n, hn⟩ : ∃ n : Nat, 4 + x1 = n := ⟨(4 + x1).toNat, by omega⟩
    obtain ⟨l, e, h1, h2⟩ := drawActs_7 hb n (by omega) n 0 (0 + 1 + 1) [] (by omega) (by omega) (by omega) rfl (fun a ha => nomatch ha)
    refine ⟨l, ?_, by omega, h2⟩
    simp (disch := omega) only [push_cast, e1, e2, hn]
    exact e
def encWd (v : Vault) (c : Int) : Lv := [.i v.width, .i v.limit, .l (encS v.loose), .i v.st.width, .i v.st.now, .i v.st.given, .i v.st.births, .i v.rd.phase, .l (encS v.rd.queue), .l (encS v.rd.marked), .i v.rd.top, .i v.rd.at_, .i v.rd.rounds, .i c, .l (encS v.safe), .l (encK v.st.things), .l (encP v.st.pins), .l (encL v.st.leases)]
def Trans (v : Vault) (a : Act) (v' : Vault) (c : Int) : Prop :=
  (∃ (e : Entry) (sh : Bool), (1 ≤ e.kind ∧ e.kind ≤ 6) ∧ a.kind = e.kind ∧ c = (doE v e sh).code ∧ v' = (doE v e sh).v ∧ (a.kind = 1 → L_spec_Act_Thing none (encA a ++ encSt v.st) = some [.s e.thing.text, .l (encS e.thing.refs)])) ∨
  (a.kind = 8 ∧ v' = flushM v ∧ c = 0) ∨ (a.kind = 9 ∧ v' = loseM v (a.pick.tmod 6) ∧ c = 0) ∨ (a.kind = 10 ∧ c = 0 ∧ ∃ d, clrI a.pick.toNat v [] 0 = some (v', d, a.pick.toNat) ∧ clrS a.pick.toNat v [] 0 = some (v', d, a.pick.toNat))
theorem wDo_ok {N : Int} {v : Vault} (h : RI N v) (hN : N ≤ 2900) {a : Act} (ha : ActOk a) : ∃ (v' : Vault) (c : Int), L_laws_wDo none (encV v ++ encA a) = some (encWd v' c) ∧ L_laws_wCode none (encV v ++ encA a) = some [.i c] ∧ RI (N + 40) v' ∧ Trans v a v' c := by
  show ∃ (v' : Vault) (c : Int), L_laws_wDo none [.i v.width, .i v.limit, .l (encS v.safe), .l (encS v.loose), .i v.st.width, .i v.st.now, .i v.st.given, .i v.st.births, .l (encK v.st.things), .l (encP v.st.pins), .l (encL v.st.leases), .i v.rd.phase, .l (encS v.rd.queue), .l (encS v.rd.marked), .i v.rd.top, .i v.rd.at_, .i v.rd.rounds, .i a.kind, .s a.text, .i a.refs, .s a.name, .i a.pick, .i a.ticks] = _ ∧ L_laws_wCode none [.i v.width, .i v.limit, .l (encS v.safe), .l (encS v.loose), .i v.st.width, .i v.st.now, .i v.st.given, .i v.st.births, .l (encK v.st.things), .l (encP v.st.pins), .l (encL v.st.leases), .i v.rd.phase, .l (encS v.rd.queue), .l (encS v.rd.marked), .i v.rd.top, .i v.rd.at_, .i v.rd.rounds, .i a.kind, .s a.text, .i a.refs, .s a.name, .i a.pick, .i a.ticks] = _ ∧ _
  have hsm := h.vv.small
  have hcut := h.vv.cut
  have n1 := h.vv.vs.1.nT; have n3 := h.vv.vs.1.nL
  have hnm := ha.name
  have hk := ha.kind
  have hp := ha.pick
  rw [e_laws_wDo_i, e_laws_wCode_i]
  by_cases c1 : a.kind = 1
  · obtain ⟨l, e, h4, _⟩ := actThing_ok a v.st ha (by omega)
    have e' : L_spec_Act_Thing none [.i a.kind, .s a.text, .i a.refs, .s a.name, .i a.pick, .i a.ticks, .i v.st.width, .i v.st.now, .i v.st.given, .i v.st.births, .l (encK v.st.things), .l (encP v.st.pins), .l (encL v.st.leases)] = _ := e
    have ei := impl_Put_eq hsm hcut ⟨a.text, l⟩ a.ticks (by show l.length ≤ 1099511627776; omega)
    have es := spec_Put_eq hsm ⟨a.text, l⟩ a.ticks (by show l.length ≤ 1099511627776; omega)
    rw [doS_t (by show (1 : Int) = 1 ∨ _; omega)] at es
    have ei' : L_impl_Put none [.i v.width, .i v.limit, .l (encS v.safe), .l (encS v.loose), .i v.st.width, .i v.st.now, .i v.st.given, .i v.st.births, .l (encK v.st.things), .l (encP v.st.pins), .l (encL v.st.leases), .i v.rd.phase, .l (encS v.rd.queue), .l (encS v.rd.marked), .i v.rd.top, .i v.rd.at_, .i v.rd.rounds, .s a.text, .l (encS l), .i a.ticks] = _ := ei
    have es' : L_spec_Put none [.i v.width, .i v.limit, .l (encS v.safe), .l (encS v.loose), .i v.st.width, .i v.st.now, .i v.st.given, .i v.st.births, .l (encK v.st.things), .l (encP v.st.pins), .l (encL v.st.leases), .i v.rd.phase, .l (encS v.rd.queue), .l (encS v.rd.marked), .i v.rd.top, .i v.rd.at_, .i v.rd.rounds, .s a.text, .l (encS l), .i a.ticks] = _ := es
    refine ⟨(doE v (ePut ⟨a.text, l⟩ a.ticks) true).v, (doE v (ePut ⟨a.text, l⟩ a.ticks) true).code, ?_, ?_, (RI_doE h (by omega) (show 1 ≤ (1 : Int) ∧ (1 : Int) ≤ 6 by omega) (fun _ => rfl)).mono (by omega), .inl ⟨(ePut ⟨a.text, l⟩ a.ticks), true, (show 1 ≤ (1 : Int) ∧ (1 : Int) ≤ 6 by omega), c1, rfl, rfl, fun _ => e⟩⟩
    · simp (disch := omega) only [push_cast, e', ei']; rfl
    · simp (disch := omega) only [push_cast, e', es']; rfl
  by_cases c2 : a.kind = 2
  · obtain ⟨x, e⟩ := actSum_ok a v.st ha (by omega)
    have e' : L_spec_Act_Sum none [.i a.kind, .s a.text, .i a.refs, .s a.name, .i a.pick, .i a.ticks, .i v.st.width, .i v.st.now, .i v.st.given, .i v.st.births, .l (encK v.st.things), .l (encP v.st.pins), .l (encL v.st.leases)] = _ := e
    have ei := impl_Hold_eq hsm hcut a.name x (by omega)
    have es := spec_Hold_eq hsm a.name x (by omega)
    rw [doS_t (by show (2 : Int) = 1 ∨ (2 : Int) = 2 ∨ _; omega)] at es
    have ei' : L_impl_Hold none [.i v.width, .i v.limit, .l (encS v.safe), .l (encS v.loose), .i v.st.width, .i v.st.now, .i v.st.given, .i v.st.births, .l (encK v.st.things), .l (encP v.st.pins), .l (encL v.st.leases), .i v.rd.phase, .l (encS v.rd.queue), .l (encS v.rd.marked), .i v.rd.top, .i v.rd.at_, .i v.rd.rounds, .s a.name, .s x] = _ := ei
    have es' : L_spec_Hold none [.i v.width, .i v.limit, .l (encS v.safe), .l (encS v.loose), .i v.st.width, .i v.st.now, .i v.st.given, .i v.st.births, .l (encK v.st.things), .l (encP v.st.pins), .l (encL v.st.leases), .i v.rd.phase, .l (encS v.rd.queue), .l (encS v.rd.marked), .i v.rd.top, .i v.rd.at_, .i v.rd.rounds, .s a.name, .s x] = _ := es
    refine ⟨(doE v (eHold a.name x) true).v, (doE v (eHold a.name x) true).code, ?_, ?_, (RI_doE h (by omega) (show 1 ≤ (2 : Int) ∧ (2 : Int) ≤ 6 by omega) (fun _ => rfl)).mono (by omega), .inl ⟨(eHold a.name x), true, (show 1 ≤ (2 : Int) ∧ (2 : Int) ≤ 6 by omega), c2, rfl, rfl, fun h => by omega⟩⟩
    · simp (disch := omega) only [push_cast, e', ei']; rfl
    · simp (disch := omega) only [push_cast, e', es']; rfl
  by_cases c3 : a.kind = 3
  · have ei := impl_Loosen_eq hsm hcut a.name (by omega)
    have es := spec_Loosen_eq hsm a.name (by omega)
    rw [doS_f (by show (3 : Int) = 3 ∨ _; omega)] at es
    have ei' : L_impl_Loosen none [.i v.width, .i v.limit, .l (encS v.safe), .l (encS v.loose), .i v.st.width, .i v.st.now, .i v.st.given, .i v.st.births, .l (encK v.st.things), .l (encP v.st.pins), .l (encL v.st.leases), .i v.rd.phase, .l (encS v.rd.queue), .l (encS v.rd.marked), .i v.rd.top, .i v.rd.at_, .i v.rd.rounds, .s a.name] = _ := ei
    have es' : L_spec_Loosen none [.i v.width, .i v.limit, .l (encS v.safe), .l (encS v.loose), .i v.st.width, .i v.st.now, .i v.st.given, .i v.st.births, .l (encK v.st.things), .l (encP v.st.pins), .l (encL v.st.leases), .i v.rd.phase, .l (encS v.rd.queue), .l (encS v.rd.marked), .i v.rd.top, .i v.rd.at_, .i v.rd.rounds, .s a.name] = _ := es
    refine ⟨(doE v (eLoosen a.name) false).v, (doE v (eLoosen a.name) false).code, ?_, ?_, (RI_doE h (by omega) (show 1 ≤ (3 : Int) ∧ (3 : Int) ≤ 6 by omega) (fun h => by have h : (3 : Int) = 1 ∨ (3 : Int) = 2 ∨ (3 : Int) = 4 := h; omega)).mono (by omega), .inl ⟨(eLoosen a.name), false, (show 1 ≤ (3 : Int) ∧ (3 : Int) ≤ 6 by omega), c3, rfl, rfl, fun h => by omega⟩⟩
    · simp (disch := omega) only [push_cast, ei']; rfl
    · simp (disch := omega) only [push_cast, es']; rfl
  by_cases c4 : a.kind = 4
  · obtain ⟨x, e⟩ := actSum_ok a v.st ha (by omega)
    have e' : L_spec_Act_Sum none [.i a.kind, .s a.text, .i a.refs, .s a.name, .i a.pick, .i a.ticks, .i v.st.width, .i v.st.now, .i v.st.given, .i v.st.births, .l (encK v.st.things), .l (encP v.st.pins), .l (encL v.st.leases)] = _ := e
    have ei := impl_Borrow_eq hsm hcut x a.ticks
    have es := spec_Borrow_eq hsm x a.ticks
    rw [doS_t (by show (4 : Int) = 1 ∨ (4 : Int) = 2 ∨ (4 : Int) = 4 ∨ _; omega)] at es
    have ei' : L_impl_Borrow none [.i v.width, .i v.limit, .l (encS v.safe), .l (encS v.loose), .i v.st.width, .i v.st.now, .i v.st.given, .i v.st.births, .l (encK v.st.things), .l (encP v.st.pins), .l (encL v.st.leases), .i v.rd.phase, .l (encS v.rd.queue), .l (encS v.rd.marked), .i v.rd.top, .i v.rd.at_, .i v.rd.rounds, .s x, .i a.ticks] = _ := ei
    have es' : L_spec_Borrow none [.i v.width, .i v.limit, .l (encS v.safe), .l (encS v.loose), .i v.st.width, .i v.st.now, .i v.st.given, .i v.st.births, .l (encK v.st.things), .l (encP v.st.pins), .l (encL v.st.leases), .i v.rd.phase, .l (encS v.rd.queue), .l (encS v.rd.marked), .i v.rd.top, .i v.rd.at_, .i v.rd.rounds, .s x, .i a.ticks] = _ := es
    refine ⟨(doE v (eBorrow x a.ticks) true).v, (doE v (eBorrow x a.ticks) true).code, ?_, ?_, (RI_doE h (by omega) (show 1 ≤ (4 : Int) ∧ (4 : Int) ≤ 6 by omega) (fun _ => rfl)).mono (by omega), .inl ⟨(eBorrow x a.ticks), true, (show 1 ≤ (4 : Int) ∧ (4 : Int) ≤ 6 by omega), c4, rfl, rfl, fun h => by omega⟩⟩
    · simp (disch := omega) only [push_cast, e', ei']; rfl
    · simp (disch := omega) only [push_cast, e', es']; rfl
  by_cases c5 : a.kind = 5
  · obtain ⟨x, e⟩ := actLease_ok a v.st ha (by omega)
    have e' : L_spec_Act_Lease none [.i a.kind, .s a.text, .i a.refs, .s a.name, .i a.pick, .i a.ticks, .i v.st.width, .i v.st.now, .i v.st.given, .i v.st.births, .l (encK v.st.things), .l (encP v.st.pins), .l (encL v.st.leases)] = _ := e
    have ei := impl_GiveBack_eq hsm hcut x
    have es := spec_GiveBack_eq hsm x
    rw [doS_f (by show (5 : Int) = 3 ∨ (5 : Int) = 5 ∨ _; omega)] at es
    have ei' : L_impl_GiveBack none [.i v.width, .i v.limit, .l (encS v.safe), .l (encS v.loose), .i v.st.width, .i v.st.now, .i v.st.given, .i v.st.births, .l (encK v.st.things), .l (encP v.st.pins), .l (encL v.st.leases), .i v.rd.phase, .l (encS v.rd.queue), .l (encS v.rd.marked), .i v.rd.top, .i v.rd.at_, .i v.rd.rounds, .i x] = _ := ei
    have es' : L_spec_GiveBack none [.i v.width, .i v.limit, .l (encS v.safe), .l (encS v.loose), .i v.st.width, .i v.st.now, .i v.st.given, .i v.st.births, .l (encK v.st.things), .l (encP v.st.pins), .l (encL v.st.leases), .i v.rd.phase, .l (encS v.rd.queue), .l (encS v.rd.marked), .i v.rd.top, .i v.rd.at_, .i v.rd.rounds, .i x] = _ := es
    refine ⟨(doE v (eGiveBack x) false).v, (doE v (eGiveBack x) false).code, ?_, ?_, (RI_doE h (by omega) (show 1 ≤ (5 : Int) ∧ (5 : Int) ≤ 6 by omega) (fun h => by have h : (5 : Int) = 1 ∨ (5 : Int) = 2 ∨ (5 : Int) = 4 := h; omega)).mono (by omega), .inl ⟨(eGiveBack x), false, (show 1 ≤ (5 : Int) ∧ (5 : Int) ≤ 6 by omega), c5, rfl, rfl, fun h => by omega⟩⟩
    · simp (disch := omega) only [push_cast, e', ei']; rfl
    · simp (disch := omega) only [push_cast, e', es']; rfl
  by_cases c6 : a.kind = 6
  · have ei := impl_Wait_eq hsm hcut a.ticks
    have es := spec_Wait_eq hsm a.ticks
    rw [doS_f (by show (6 : Int) = 3 ∨ (6 : Int) = 5 ∨ (6 : Int) = 6; omega)] at es
    have ei' : L_impl_Wait none [.i v.width, .i v.limit, .l (encS v.safe), .l (encS v.loose), .i v.st.width, .i v.st.now, .i v.st.given, .i v.st.births, .l (encK v.st.things), .l (encP v.st.pins), .l (encL v.st.leases), .i v.rd.phase, .l (encS v.rd.queue), .l (encS v.rd.marked), .i v.rd.top, .i v.rd.at_, .i v.rd.rounds, .i a.ticks] = _ := ei
    have es' : L_spec_Wait none [.i v.width, .i v.limit, .l (encS v.safe), .l (encS v.loose), .i v.st.width, .i v.st.now, .i v.st.given, .i v.st.births, .l (encK v.st.things), .l (encP v.st.pins), .l (encL v.st.leases), .i v.rd.phase, .l (encS v.rd.queue), .l (encS v.rd.marked), .i v.rd.top, .i v.rd.at_, .i v.rd.rounds, .i a.ticks] = _ := es
    refine ⟨(doE v (eWait a.ticks) false).v, (doE v (eWait a.ticks) false).code, ?_, ?_, (RI_doE h (by omega) (show 1 ≤ (6 : Int) ∧ (6 : Int) ≤ 6 by omega) (fun h => by have h : (6 : Int) = 1 ∨ (6 : Int) = 2 ∨ (6 : Int) = 4 := h; omega)).mono (by omega), .inl ⟨(eWait a.ticks), false, (show 1 ≤ (6 : Int) ∧ (6 : Int) ≤ 6 by omega), c6, rfl, rfl, fun h => by omega⟩⟩
    · simp (disch := omega) only [push_cast, ei']; rfl
    · simp (disch := omega) only [push_cast, es']; rfl
  by_cases c8 : a.kind = 8
  · have ep := impl_Flush_eq hsm hcut
    unfold encV at ep
    refine ⟨flushM v, 0, ?_, ?_, (RI_flush h).mono (by omega), .inr (.inl ⟨c8, rfl, rfl⟩)⟩
    · simp (disch := omega) only [push_cast, ep]; rfl
    · simp (disch := omega) only [push_cast]
  by_cases c9 : a.kind = 9
  · have ep := impl_Lose_eq hsm hcut (a.pick.tmod 6)
    have ep' : L_impl_Lose none [.i v.width, .i v.limit, .l (encS v.safe), .l (encS v.loose), .i v.st.width, .i v.st.now, .i v.st.given, .i v.st.births, .l (encK v.st.things), .l (encP v.st.pins), .l (encL v.st.leases), .i v.rd.phase, .l (encS v.rd.queue), .l (encS v.rd.marked), .i v.rd.top, .i v.rd.at_, .i v.rd.rounds, .i (a.pick.tmod 6)] = _ := ep
    refine ⟨loseM v (a.pick.tmod 6), 0, ?_, ?_, (RI_lose h _).mono (by omega), .inr (.inr (.inl ⟨c9, rfl, rfl⟩))⟩
    · simp (disch := omega) only [push_cast, ep']; rfl
    · simp (disch := omega) only [push_cast]
  have c10 : a.kind = 10 := by omega
  have ep := impl_Clear_eq hsm hcut a.pick
  obtain ⟨v', d, e1, e2, e3⟩ := clr_RI a.pick.toNat N v [] 0 h (by omega)
  rw [if_pos ⟨h.vv, by omega, by omega⟩, e1] at ep
  have ep' : L_impl_Clear none [.i v.width, .i v.limit, .l (encS v.safe), .l (encS v.loose), .i v.st.width, .i v.st.now, .i v.st.given, .i v.st.births, .l (encK v.st.things), .l (encP v.st.pins), .l (encL v.st.leases), .i v.rd.phase, .l (encS v.rd.queue), .l (encS v.rd.marked), .i v.rd.top, .i v.rd.at_, .i v.rd.rounds, .i a.pick] = _ := ep
  rw [Nat.zero_add] at e1 e2
  refine ⟨v', 0, ?_, ?_, e3.mono (by omega), .inr (.inr (.inr ⟨c10, rfl, d, e1, e2⟩))⟩
  · simp (disch := omega) only [push_cast, ep']; rfl
  · simp (disch := omega) only [push_cast]
theorem start_ok {c : Rw} (hc : ∀ i, 0 ≤ (rd c i 0).int ∧ (rd c i 0).int ≤ 255) : ∃ v, L_laws_wStart none [.l c] = some [.i v.width, .i v.limit, .i v.st.width, .i v.st.now, .i v.st.given, .i v.st.births, .i v.rd.phase, .l (encS v.rd.queue), .l (encS v.rd.marked), .i v.rd.top, .i v.rd.at_, .i v.rd.rounds, .b true, .l (encS v.safe), .l (encS v.loose), .l (encK v.st.things), .l (encP v.st.pins), .l (encL v.st.leases)] ∧ RI 0 v ∧ v.safe = [] ∧ v.loose = [] ∧ v.st = empty v.width := by
  obtain ⟨s, w, hs, hsz⟩ := drawReadThing_ok hc
  have go : ∀ w : Int, w = 1 ∨ w = 8 → L_impl_Open none [.i w, .i 1000000, .l [], .l []] = some (encO (.inl ⟨w, 1000000, [], [], empty w, R0⟩)) ∧ RI 0 ⟨w, 1000000, [], [], empty w, R0⟩ := by
    intro w hw
    have := impl_Open_eq w 1000000 [] [] ⟨Nat.zero_le _, fun x hx => nomatch hx⟩ ⟨Nat.zero_le _, fun x hx => nomatch hx⟩ (Nat.zero_le _)
    have hwb : widthB w = true := widthB_iff.2 (by omega)
    have hlog : LogOk [] [] := ⟨(fun x hx => nomatch hx), (fun x hx => nomatch hx), Nat.zero_le _⟩
    have ho : openM w 1000000 [] [] = .inl ⟨w, 1000000, [], [], empty w, R0⟩ := by
      unfold openM
      rw [if_pos ⟨hwb, by omega, hlog⟩]
      simp [runL]
    rw [ho] at this
    refine ⟨this, ⟨hwb, by show (0 : Int) ≤ 1000000 ∧ (1000000 : Int) ≤ 1000000; omega, hlog, by simp [runL], (show RoundOk w 0 R0 from ⟨⟨Int.le_refl _, (by show (0 : Int) ≤ 2; omega)⟩, ⟨Int.le_refl _, (by show (0 : Int) ≤ 1000000000; omega)⟩, Nat.zero_le _, Nat.zero_le _, (fun x hx => nomatch hx), List.nodup_nil, (fun x hx => nomatch hx), fun _ => ⟨rfl, rfl, rfl, rfl⟩, fun h => absurd rfl h⟩)⟩, (fun x hx => nomatch hx), Nat.zero_le _, Int.le_refl _, fun h => absurd rfl h, fun h => absurd rfl h, fun h => absurd rfl h⟩
  rw [e_laws_wStart_i, hs]
  by_cases c0 : ((s.size : Int)).tmod 3 = 0
  · obtain ⟨e, hR⟩ := go 1 (.inl rfl)
    refine ⟨_, ?_, hR, rfl, rfl, rfl⟩
    unfold encO at e
    simp (disch := omega) only [push_cast, e]; rfl
  · obtain ⟨e, hR⟩ := go 8 (.inr rfl)
    refine ⟨_, ?_, hR, rfl, rfl, rfl⟩
    unfold encO at e
    simp (disch := omega) only [push_cast, e]; rfl
end KV
end
section
namespace KV
open Go Go.Eng
open Classical
noncomputable def near (T : List Kept) (i : Nat) : Rw := (List.range 601).map fun b : Nat => [.b (decide ((b : Int) ∈ bsT T i))]
def farL (T : List Kept) (i : Nat) : List Int := (bsT T i).filter fun b => decide (600 < b)
def encN (l : List Int) : Rw := l.map fun n => [.i n]
@[push_cast] theorem encN_len (l : List Int) : (encN l).length = l.length := by simp [encN]
@[push_cast] theorem encN_0 (l : List Int) (i : Nat) : (rd (encN l) i 0).int = nth 0 l i := by
  rcases Nat.lt_or_ge i l.length with h | h
  · rw [encN, rd_map _ _ _ _ h, nth_get _ _ _ h]; rfl
  · rw [nth_end _ _ _ h]; unfold encN; rw [rd_end _ _ _ _ h]; rfl
@[push_cast] theorem near_len (T : List Kept) (i : Nat) : (near T i).length = 601 := by simp [near]
theorem near_rd (T : List Kept) (i b : Nat) (h : b ≤ 600) : (rd (near T i) b 0).bool = decide ((b : Int) ∈ bsT T i) := by
  rw [near, rd_map _ _ _ _ (by rw [List.length_range]; omega), List.getElem_range]; rfl
theorem near_wr (T : List Kept) (i b : Nat) (hi : i < T.length) (h : b ≤ 600) (hb : (nth K0 T i).born = (b : Int)) : wrs (near T i) b 0 [.b true] = near T (i + 1) := by
  have e : (near T i).getD b [] = [.b (decide ((b : Int) ∈ bsT T i))] := by
    unfold near
    rw [List.getD_eq_getElem?_getD, List.getElem?_map, List.getElem?_range (by omega)]; rfl
  have h1 : wrs (near T i) b 0 [.b true] = (near T i).set b [.b true] := by
    unfold wrs wrs wr
    rw [e]; rfl
  rw [h1]
  apply List.ext_getElem?
  intro j
  rw [List.getElem?_set]
  rcases Nat.lt_or_ge j 601 with hj | hj
  · by_cases hjb : b = j
    · subst hjb
      rw [if_pos rfl, if_pos (by rw [near_len]; exact hj)]
      unfold near
      rw [List.getElem?_map, List.getElem?_range hj, Option.map_some, bsT_S _ _ hi, hb]
      simp
    · rw [if_neg hjb]
      unfold near
      rw [List.getElem?_map, List.getElem?_map, List.getElem?_range hj, Option.map_some, Option.map_some, bsT_S _ _ hi, hb]
      have : ((j : Int) ∈ bsT T i) ↔ ((j : Int) ∈ bsT T i ++ [(b : Int)]) := by
        rw [List.mem_append, List.mem_singleton]
        exact ⟨.inl, fun h => h.elim id fun h => absurd (by omega : b = j) hjb⟩
      rw [decide_eq_decide.2 this]
  · rw [if_neg (by omega), List.getElem?_eq_none (by rw [near_len]; exact hj), List.getElem?_eq_none (by rw [near_len]; exact hj)]
theorem far_S (T : List Kept) (i : Nat) (hi : i < T.length) : farL T (i + 1) = farL T i ++ (if 600 < (nth K0 T i).born then [(nth K0 T i).born] else []) := by
  unfold farL
  rw [bsT_S _ _ hi, List.filter_append]
  congr 1
  split
  · rename_i h; simp [h]
  · rename_i h; simp [h]
theorem near_S (T : List Kept) (i : Nat) (hi : i < T.length) (h : 600 < (nth K0 T i).born) : near T (i + 1) = near T i := by
  unfold near
  apply List.map_congr_left
  intro b hb
  rw [List.mem_range] at hb
  rw [bsT_S _ _ hi]
  have : ((b : Int) ∈ bsT T i ++ [(nth K0 T i).born]) ↔ ((b : Int) ∈ bsT T i) := by
    rw [List.mem_append, List.mem_singleton]
    exact ⟨fun h1 => h1.elim id fun h1 => absurd h1 (by omega), .inl⟩
  rw [decide_eq_decide.2 this]
theorem far_len (T : List Kept) (i : Nat) : (farL T i).length ≤ T.length := by
  unfold farL bsT
  refine Nat.le_trans (List.length_filter_le _ _) ?_
  rw [List.length_map, List.length_take]; omega
theorem mem_far (T : List Kept) (i : Nat) {b : Int} (h : 600 < b) : b ∈ farL T i ↔ b ∈ bsT T i := by
  unfold farL; rw [List.mem_filter]; simp [h]
section
variable {s : State}
theorem sto_20 (hT : SrtK s.things) (nT : s.things.length ≤ 600) (hR : ∀ k ∈ s.things, k.thing.refs.length ≤ 30) : L_spec_l4ThingsOk (some 20) [.i 0, .i s.width, .i s.now, .i s.given, .i s.births, .l (encK s.things), .l (encP s.pins), .l (encL s.leases)]
    = if (∀ j, 0 ≤ j → j < s.things.length → ∀ i, 0 ≤ i → i < (nth K0 s.things j).thing.refs.length → refIn s.things (nth K0 s.things j).born (nth .empty (nth K0 s.things j).thing.refs i)) then some [.b true] else some [.b false] := by
  refine all_loop (f := fun i : Nat => L_spec_l4ThingsOk (some 20) [.i (i : Int), .i s.width, .i s.now, .i s.given, .i s.births, .l (encK s.things), .l (encP s.pins), .l (encL s.leases)]) (P := fun j => ∀ i, 0 ≤ i → i < (nth K0 s.things j).thing.refs.length → refIn s.things (nth K0 s.things j).born (nth .empty (nth K0 s.things j).thing.refs i)) (fun i hi => ?_) ?_ 0 (Nat.zero_le _)
  · have hr := hR _ (nth_mem (d := K0) hi)
    have inner := all_loop (f := fun j : Nat => L_spec_l4ThingsOk (some 23) [.i (i : Int), .i (j : Int), .i s.width, .i s.now, .i s.given, .i s.births, .l (encK s.things), .l (encP s.pins), .l (encL s.leases)])
      (P := fun j => refIn s.things (nth K0 s.things i).born (nth .empty (nth K0 s.things i).thing.refs j)) (n := (nth K0 s.things i).thing.refs.length) (T := L_spec_l4ThingsOk (some 20) [.i ((i + 1 : Nat) : Int), .i s.width, .i s.now, .i s.given, .i s.births, .l (encK s.things), .l (encP s.pins), .l (encL s.leases)]) (F := some [.b false])
      (fun j hj => by
        show (_ → L_spec_l4ThingsOk _ _ = L_spec_l4ThingsOk _ _) ∧ (_ → L_spec_l4ThingsOk _ _ = _)
        rw [e_spec_l4ThingsOk_23]
        have hf := findT_neg (T := s.things) (x := nth .empty (nth K0 s.things i).thing.refs j)
        simp (disch := omega) only [push_cast, spec_l4Find_eq s.width s.now s.given s.births s.things (encP s.pins) (encL s.leases) (nth .empty (nth K0 s.things i).thing.refs j) hT (by omega)]
        by_cases c1 : hasT s.things (nth .empty (nth K0 s.things i).thing.refs j)
        rotate_left; · exact ⟨fun h => absurd h.1 c1, fun _ => by have := hf.2 c1; simp (disch := omega) only [push_cast]⟩
        have hl := ((hasT_iff hT _).1 c1).1
        have hfi : findT s.things (nth .empty (nth K0 s.things i).thing.refs j) = (lb (qK (nth .empty (nth K0 s.things i).thing.refs j)) s.things : Int) := if_pos c1
        rw [hfi]
        by_cases c2 : (nth K0 s.things (lb (qK (nth .empty (nth K0 s.things i).thing.refs j)) s.things)).born < (nth K0 s.things i).born
        rotate_left; · exact ⟨fun h => absurd h.2 c2, fun _ => by simp (disch := omega) only [push_cast]⟩
        exact ⟨fun _ => by simp (disch := omega) only [push_cast] <;> rfl, fun h => absurd ⟨c1, c2⟩ h⟩)
      (by show L_spec_l4ThingsOk _ _ = L_spec_l4ThingsOk _ _; rw [e_spec_l4ThingsOk_23]; simp (disch := omega) only [push_cast] <;> rfl) 0 (Nat.zero_le _)
    show (_ → L_spec_l4ThingsOk _ _ = L_spec_l4ThingsOk _ _) ∧ (_ → L_spec_l4ThingsOk _ _ = _)
    rw [e_spec_l4ThingsOk_20]
    simp (disch := omega) only [push_cast]
    have inner' : L_spec_l4ThingsOk (some 23) [.i (i : Int), .i 0, .i s.width, .i s.now, .i s.given, .i s.births, .l (encK s.things), .l (encP s.pins), .l (encL s.leases)] = _ := inner
    rw [inner']
    exact ⟨fun h => if_pos h, fun h => if_neg h⟩
  · show L_spec_l4ThingsOk _ _ = _
    rw [e_spec_l4ThingsOk_20]; simp (disch := omega) only [push_cast]
theorem sto_14 (nT : s.things.length ≤ 600) (i : Nat) (hi : i < s.things.length) (l : List Int) (hl : l.length ≤ 1000000) (nrw : Rw) (b : Int) (x y : Bs) (z : Rw) :
    L_spec_l4ThingsOk (some 14) [.i (i : Int), .i 0, .i s.width, .i s.now, .i s.given, .i s.births, .l (encK s.things), .l (encP s.pins), .l (encL s.leases), .l nrw, .l (encN l), .s x, .i b, .s y, .l z] =
      if b ∈ l then some [.b false] else L_spec_l4ThingsOk (some 4) [.i ((i + 1 : Nat) : Int), .i s.width, .i s.now, .i s.given, .i s.births, .l (encK s.things), .l (encP s.pins), .l (encL s.leases), .l nrw, .l (encN (l ++ [b]))] := by
  have := ex_loop (f := fun j : Nat => L_spec_l4ThingsOk (some 14) [.i (i : Int), .i (j : Int), .i s.width, .i s.now, .i s.given, .i s.births, .l (encK s.things), .l (encP s.pins), .l (encL s.leases), .l nrw, .l (encN l), .s x, .i b, .s y, .l z]) (0 : Int) (l := l) (p := fun r => r = b) (T := some [.b false])
    (E := L_spec_l4ThingsOk (some 4) [.i ((i + 1 : Nat) : Int), .i s.width, .i s.now, .i s.given, .i s.births, .l (encK s.things), .l (encP s.pins), .l (encL s.leases), .l nrw, .l (encN (l ++ [b]))]) (fun j hj => by
    show L_spec_l4ThingsOk _ _ = cond _ _ (L_spec_l4ThingsOk _ _)
    rw [e_spec_l4ThingsOk_14, mostE]; simp (disch := omega) only [push_cast]) (by
    show L_spec_l4ThingsOk _ _ = L_spec_l4ThingsOk _ _
    have : encN (l ++ [b]) = encN l ++ [[.i b]] := by simp [encN]
    rw [e_spec_l4ThingsOk_14, mostE, this]; simp (disch := omega) only [push_cast])
  refine Eq.trans this ?_
  by_cases h : b ∈ l
  · rw [if_pos h, if_pos ⟨b, h, rfl⟩]
  · rw [if_neg h, if_neg (by rintro ⟨r, hr, rfl⟩; exact h hr)]
theorem sto_4 (nT : s.things.length ≤ 600) (hb : 0 ≤ s.births ∧ s.births ≤ 1000000000) : L_spec_l4ThingsOk (some 4) [.i 0, .i s.width, .i s.now, .i s.given, .i s.births, .l (encK s.things), .l (encP s.pins), .l (encL s.leases), .l (near s.things 0), .l (encN (farL s.things 0))]
    = if (∀ j, 0 ≤ j → j < s.things.length → tP s.width s.births s.things j) then L_spec_l4ThingsOk (some 20) [.i 0, .i s.width, .i s.now, .i s.given, .i s.births, .l (encK s.things), .l (encP s.pins), .l (encL s.leases)] else some [.b false] := by
  refine all_loop (f := fun i : Nat => L_spec_l4ThingsOk (some 4) [.i (i : Int), .i s.width, .i s.now, .i s.given, .i s.births, .l (encK s.things), .l (encP s.pins), .l (encL s.leases), .l (near s.things i), .l (encN (farL s.things i))]) (fun i hi => ?_) ?_ 0 (Nat.zero_le _)
  · show (_ → L_spec_l4ThingsOk _ _ = L_spec_l4ThingsOk _ _) ∧ (_ → L_spec_l4ThingsOk _ _ = _)
    have hfl := far_len s.things i
    rw [e_spec_l4ThingsOk_4]
    by_cases c1 : ThingOk (nth K0 s.things i).thing s.width
    rotate_left
    · refine ⟨fun h => absurd h.ok c1, fun _ => ?_⟩
      have : thingB (nth K0 s.things i).thing s.width = false := decide_eq_false c1
      simp (disch := omega) only [push_cast, spec_l1ThingOk_eq, this]
    have ht : thingB (nth K0 s.things i).thing s.width = true := decide_eq_true c1
    have hz : (formM (nth K0 s.things i).thing).size ≤ 1099511627776 := by
      rw [formM_size]; have := okForm c1; omega
    have hft : formT (nth K0 s.things i).thing s.width = formM (nth K0 s.things i).thing := if_pos ht
    by_cases c2 : (nth K0 s.things i).sum = sumM (formM (nth K0 s.things i).thing) s.width
    rotate_left
    · refine ⟨fun h => absurd h.sum c2, fun _ => ?_⟩
      simp (disch := omega) only [push_cast, spec_l1ThingOk_eq, ht, spec_FormThing_eq, hft, spec_Sum_eq _ s.width hz]
    have tail : ∀ X : Option Lv, X = (L_spec_l4Range none [.i (nth K0 s.things i).born, .i 1, .i s.births]).bind (fun y4 =>
         cond (!(g y4 0).bool) (some [.b false]) (
         cond (decide ((nth K0 s.things i).born ≤ 600)) (
          cond (inb ((nth K0 s.things i).born) (near s.things i).length) (
           cond ((rd (near s.things i) (((nth K0 s.things i).born).toNat) 0).bool) (some [.b false]) (
            cond (inb ((nth K0 s.things i).born) (near s.things i).length) (
             L_spec_l4ThingsOk (some 4) [.i ((i + 1 : Nat) : Int), .i s.width, .i s.now, .i s.given, .i s.births, .l (encK s.things), .l (encP s.pins), .l (encL s.leases), .l (wrs (near s.things i) (((nth K0 s.things i).born).toNat) 0 ([.b true] : List C)), .l (encN (farL s.things i))]) (none))) (none)) (
          L_spec_l4ThingsOk (some 14) [.i (i : Int), .i 0, .i s.width, .i s.now, .i s.given, .i s.births, .l (encK s.things), .l (encP s.pins), .l (encL s.leases), .l (near s.things i), .l (encN (farL s.things i)), .s (nth K0 s.things i).sum, .i (nth K0 s.things i).born, .s (nth K0 s.things i).thing.text, .l (encS (nth K0 s.things i).thing.refs)]))) →
        (0 < i → slt (nth K0 s.things (i - 1)).sum (nth K0 s.things i).sum = true) →
        (tP s.width s.births s.things i → X = L_spec_l4ThingsOk (some 4) [.i ((i + 1 : Nat) : Int), .i s.width, .i s.now, .i s.given, .i s.births, .l (encK s.things), .l (encP s.pins), .l (encL s.leases), .l (near s.things (i + 1)), .l (encN (farL s.things (i + 1)))]) ∧ (¬ tP s.width s.births s.things i → X = some [.b false]) := by
      rintro X rfl hadj
      by_cases c3 : 1 ≤ (nth K0 s.things i).born ∧ (nth K0 s.things i).born ≤ s.births
      rotate_left; · exact ⟨fun h => absurd ⟨h.lo, h.hi⟩ c3, fun _ => by simp (disch := omega) only [push_cast, spec_l4Range_eq]⟩
      by_cases c5 : (nth K0 s.things i).born ≤ 600
      · obtain ⟨b, hbb⟩ : ∃ b : Nat, (nth K0 s.things i).born = b := ⟨((nth K0 s.things i).born).toNat, by omega⟩
        have hrd := near_rd s.things i b (by omega)
        by_cases c6 : (nth K0 s.things i).born ∈ bsT s.things i
        · refine ⟨fun h => absurd c6 h.new, fun _ => ?_⟩
          rw [hbb] at c6
          simp (disch := omega) only [push_cast, spec_l4Range_eq, hbb, hrd, decide_eq_true c6]
        · refine ⟨fun _ => ?_, fun h => absurd ⟨hadj, c1, c2, c3.1, c3.2, c6⟩ h⟩
          have hw := near_wr s.things i b hi (by omega) hbb
          rw [far_S _ _ hi, if_neg (by omega), List.append_nil]
          rw [hbb] at c6
          simp (disch := omega) only [push_cast, spec_l4Range_eq, hbb, hrd, decide_eq_false c6, hw]
      · have h14 := sto_14 nT i hi (farL s.things i) (by omega) (near s.things i) (nth K0 s.things i).born (nth K0 s.things i).sum (nth K0 s.things i).thing.text (encS (nth K0 s.things i).thing.refs)
        by_cases c6 : (nth K0 s.things i).born ∈ bsT s.things i
        · refine ⟨fun h => absurd c6 h.new, fun _ => ?_⟩
          rw [if_pos ((mem_far _ _ (by omega)).2 c6)] at h14
          simp (disch := omega) only [push_cast, spec_l4Range_eq]
          exact h14
        · refine ⟨fun _ => ?_, fun h => absurd ⟨hadj, c1, c2, c3.1, c3.2, c6⟩ h⟩
          rw [if_neg (fun h => c6 ((mem_far _ _ (by omega)).1 h))] at h14
          rw [far_S _ _ hi, if_pos (by omega), near_S _ _ hi (by omega)]
          simp (disch := omega) only [push_cast, spec_l4Range_eq]
          exact h14
    by_cases c0 : 0 < i
    · cases c4 : slt (nth K0 s.things (i - 1)).sum (nth K0 s.things i).sum
      · exact ⟨fun h => absurd (h.adj c0) (by simp [c4]), fun _ => by simp (disch := omega) only [push_cast, spec_l1ThingOk_eq, ht, spec_FormThing_eq, hft, spec_Sum_eq _ s.width hz, ← c2, c4]⟩
      · refine tail _ ?_ (fun _ => c4)
        simp (disch := omega) only [push_cast, spec_l1ThingOk_eq, ht, spec_FormThing_eq, hft, spec_Sum_eq _ s.width hz, ← c2, c4]
    · refine tail _ ?_ (fun h => absurd h c0)
      simp (disch := omega) only [push_cast, spec_l1ThingOk_eq, ht, spec_FormThing_eq, hft, spec_Sum_eq _ s.width hz, ← c2]
  · show L_spec_l4ThingsOk _ _ = _
    rw [e_spec_l4ThingsOk_4]; simp (disch := omega) only [push_cast]
theorem svs_11 (hn : 0 ≤ s.now ∧ s.now ≤ 1000000000) (hT : SrtK s.things) (nT : s.things.length ≤ 600) (nL : s.leases.length ≤ 200) : L_spec_ValidState (some 11) [.i 0, .i s.width, .i s.now, .i s.given, .i s.births, .l (encK s.things), .l (encP s.pins), .l (encL s.leases)]
    = if (∀ j, 0 ≤ j → j < s.leases.length → lP s.now s.given s.things s.leases j) then some [.b true] else some [.b false] := by
  refine all_loop (f := fun i : Nat => L_spec_ValidState (some 11) [.i (i : Int), .i s.width, .i s.now, .i s.given, .i s.births, .l (encK s.things), .l (encP s.pins), .l (encL s.leases)]) (fun i hi => ?_) ?_ 0 (Nat.zero_le _)
  · show (_ → L_spec_ValidState _ _ = L_spec_ValidState _ _) ∧ (_ → L_spec_ValidState _ _ = _)
    rw [e_spec_ValidState_11]
    have hf := findT_neg (T := s.things) (x := (nth L0 s.leases i).sum)
    have hfe := spec_l4Find_eq s.width s.now s.given s.births s.things (encP s.pins) (encL s.leases) (nth L0 s.leases i).sum hT (by omega)
    by_cases c2 : 1 ≤ (nth L0 s.leases i).number ∧ (nth L0 s.leases i).number ≤ s.given
    rotate_left; · exact ⟨fun h => absurd ⟨h.lo, h.hi⟩ c2, fun _ => by simp (disch := omega) only [push_cast, spec_l4Range_eq]⟩
    by_cases c0 : 0 < i
    · by_cases c4 : (nth L0 s.leases (i - 1)).number < (nth L0 s.leases i).number
      rotate_left; · exact ⟨fun h => absurd (h.adj c0) c4, fun _ => by simp (disch := omega) only [push_cast, spec_l4Range_eq]⟩
      by_cases c1 : hasT s.things (nth L0 s.leases i).sum
      rotate_left; · exact ⟨fun h => absurd h.has c1, fun _ => by have := hf.2 c1; simp (disch := omega) only [push_cast, spec_l4Range_eq, hfe]⟩
      have c1' : ¬ findT s.things (nth L0 s.leases i).sum < 0 := fun h => hf.1 h c1
      by_cases c5 : s.now < (nth L0 s.leases i).till
      rotate_left; · exact ⟨fun h => absurd h.t1 c5, fun _ => by simp (disch := omega) only [push_cast, spec_l4Range_eq, hfe]⟩
      by_cases c6 : (nth L0 s.leases i).till ≤ s.now + 100000
      rotate_left; · exact ⟨fun h => absurd h.t2 c6, fun _ => by simp (disch := omega) only [push_cast, spec_l4Range_eq, hfe]⟩
      exact ⟨fun _ => by simp (disch := omega) only [push_cast, spec_l4Range_eq, hfe] <;> rfl, fun h => absurd ⟨c1, c2.1, c2.2, fun _ => c4, c5, c6⟩ h⟩
    · by_cases c1 : hasT s.things (nth L0 s.leases i).sum
      rotate_left; · exact ⟨fun h => absurd h.has c1, fun _ => by have := hf.2 c1; simp (disch := omega) only [push_cast, spec_l4Range_eq, hfe]⟩
      have c1' : ¬ findT s.things (nth L0 s.leases i).sum < 0 := fun h => hf.1 h c1
      by_cases c5 : s.now < (nth L0 s.leases i).till
      rotate_left; · exact ⟨fun h => absurd h.t1 c5, fun _ => by simp (disch := omega) only [push_cast, spec_l4Range_eq, hfe]⟩
      by_cases c6 : (nth L0 s.leases i).till ≤ s.now + 100000
      rotate_left; · exact ⟨fun h => absurd h.t2 c6, fun _ => by simp (disch := omega) only [push_cast, spec_l4Range_eq, hfe]⟩
      exact ⟨fun _ => by simp (disch := omega) only [push_cast, spec_l4Range_eq, hfe] <;> rfl, fun h => absurd ⟨c1, c2.1, c2.2, fun h => absurd h c0, c5, c6⟩ h⟩
  · show L_spec_ValidState _ _ = _
    rw [e_spec_ValidState_11]; simp (disch := omega) only [push_cast]
theorem svs_6 (hT : SrtK s.things) (nT : s.things.length ≤ 600) (nP : s.pins.length ≤ 100) (hN : ∀ p ∈ s.pins, p.name.size ≤ 4611686018427387904) : L_spec_ValidState (some 6) [.i 0, .i s.width, .i s.now, .i s.given, .i s.births, .l (encK s.things), .l (encP s.pins), .l (encL s.leases)]
    = if (∀ j, 0 ≤ j → j < s.pins.length → pP s.things s.pins j) then L_spec_ValidState (some 11) [.i 0, .i s.width, .i s.now, .i s.given, .i s.births, .l (encK s.things), .l (encP s.pins), .l (encL s.leases)] else some [.b false] := by
  refine all_loop (f := fun i : Nat => L_spec_ValidState (some 6) [.i (i : Int), .i s.width, .i s.now, .i s.given, .i s.births, .l (encK s.things), .l (encP s.pins), .l (encL s.leases)]) (fun i hi => ?_) ?_ 0 (Nat.zero_le _)
  · show (_ → L_spec_ValidState _ _ = L_spec_ValidState _ _) ∧ (_ → L_spec_ValidState _ _ = _)
    rw [e_spec_ValidState_6]
    have hf := findT_neg (T := s.things) (x := (nth P0 s.pins i).sum)
    have hfe := spec_l4Find_eq s.width s.now s.given s.births s.things (encP s.pins) (encL s.leases) (nth P0 s.pins i).sum hT (by omega)
    have hne := spec_l3NameOk_eq (nth P0 s.pins i).name (hN _ (nth_mem hi))
    unfold nameB at hne
    by_cases c2 : NameOk (nth P0 s.pins i).name
    rotate_left; · exact ⟨fun h => absurd h.nm c2, fun _ => by simp (disch := omega) only [push_cast, hne]⟩
    by_cases c0 : 0 < i
    · cases c4 : slt (nth P0 s.pins (i - 1)).name (nth P0 s.pins i).name
      · exact ⟨fun h => absurd (h.adj c0) (by simp [c4]), fun _ => by simp (disch := omega) only [push_cast, hne, c4]⟩
      · by_cases c1 : hasT s.things (nth P0 s.pins i).sum
        rotate_left; · exact ⟨fun h => absurd h.has c1, fun _ => by have := hf.2 c1; simp (disch := omega) only [push_cast, hne, c4, hfe]⟩
        have c1' : ¬ findT s.things (nth P0 s.pins i).sum < 0 := fun h => hf.1 h c1
        exact ⟨fun _ => by simp (disch := omega) only [push_cast, hne, c4, hfe] <;> rfl, fun h => absurd ⟨c1, c2, fun _ => c4⟩ h⟩
    · by_cases c1 : hasT s.things (nth P0 s.pins i).sum
      rotate_left; · exact ⟨fun h => absurd h.has c1, fun _ => by have := hf.2 c1; simp (disch := omega) only [push_cast, hne, hfe]⟩
      have c1' : ¬ findT s.things (nth P0 s.pins i).sum < 0 := fun h => hf.1 h c1
      exact ⟨fun _ => by simp (disch := omega) only [push_cast, hne, hfe] <;> rfl, fun h => absurd ⟨c1, c2, fun h => absurd h c0⟩ h⟩
  · show L_spec_ValidState _ _ = _
    rw [e_spec_ValidState_6]; simp (disch := omega) only [push_cast]
theorem near_0 (T : List Kept) : List.replicate 601 ([.b false] : List C) = near T 0 := by
  unfold near bsT
  simp only [List.take_zero, List.map_nil, List.not_mem_nil, decide_false]
  rw [List.map_const', List.length_range]
theorem spec_ValidState_eq (s : State) (hN : ∀ p ∈ s.pins, p.name.size ≤ 4611686018427387904) : L_spec_ValidState none (encSt s) = some [.b (decide (VS s))] := by
  unfold encSt
  rw [e_spec_ValidState_i]
  have hv := vs_iff s
  by_cases h1 : 1 ≤ s.width ∧ s.width ≤ 8
  rotate_left; · rw [decide_eq_false fun V : VS s => h1 V.wd]; have : widthB s.width = false := by cases h : widthB s.width; { rfl }; { exact absurd (widthB_iff.1 h) h1 }
                 simp (disch := omega) only [push_cast, spec_l1Width_eq, this]
  have hw : widthB s.width = true := widthB_iff.2 h1
  by_cases h2 : 0 ≤ s.now ∧ s.now ≤ 1000000000
  rotate_left; · rw [decide_eq_false fun V : VS s => h2 V.now]; simp (disch := omega) only [push_cast, spec_l1Width_eq, hw, spec_l4Range_eq]
  by_cases h3 : 0 ≤ s.given ∧ s.given ≤ 1000000000
  rotate_left; · rw [decide_eq_false fun V : VS s => h3 V.given]; simp (disch := omega) only [push_cast, spec_l1Width_eq, hw, spec_l4Range_eq]
  by_cases h4 : 0 ≤ s.births ∧ s.births ≤ 1000000000
  rotate_left; · rw [decide_eq_false fun V : VS s => h4 V.births]; simp (disch := omega) only [push_cast, spec_l1Width_eq, hw, spec_l4Range_eq]
  by_cases h5 : s.things.length ≤ 600
  rotate_left; · rw [decide_eq_false fun V : VS s => h5 V.nT]; simp (disch := omega) only [push_cast, spec_l1Width_eq, hw, spec_l4Range_eq]
  by_cases h6 : s.pins.length ≤ 100
  rotate_left; · rw [decide_eq_false fun V : VS s => h6 V.nP]; simp (disch := omega) only [push_cast, spec_l1Width_eq, hw, spec_l4Range_eq]
  by_cases h7 : s.leases.length ≤ 200
  rotate_left; · rw [decide_eq_false fun V : VS s => h7 V.nL]; simp (disch := omega) only [push_cast, spec_l1Width_eq, hw, spec_l4Range_eq]
  have hto : L_spec_l4ThingsOk none [.i s.width, .i s.now, .i s.given, .i s.births, .l (encK s.things), .l (encP s.pins), .l (encL s.leases)] = _ := (e_spec_l4ThingsOk_i _ _ _ _ _ _ _).trans ((by rw [near_0 s.things]; rfl : _ = L_spec_l4ThingsOk (some 4) [.i 0, .i s.width, .i s.now, .i s.given, .i s.births, .l (encK s.things), .l (encP s.pins), .l (encL s.leases), .l (near s.things 0), .l (encN (farL s.things 0))]).trans (sto_4 h5 h4))
  by_cases h8 : ∀ j, 0 ≤ j → j < s.things.length → tP s.width s.births s.things j
  rotate_left; · rw [if_neg h8] at hto; rw [decide_eq_false fun V : VS s => h8 (hv.1 V).2.2.2.2.2.2.2.1]; simp (disch := omega) only [push_cast, spec_l1Width_eq, hw, spec_l4Range_eq, hto]
  have hs := (tP_all _ _ _).1 h8
  rw [if_pos h8, sto_20 hs.1 h5 fun k hk => (hs.2.1 k hk).1.refs] at hto
  by_cases h9 : ∀ j, 0 ≤ j → j < s.things.length → ∀ i, 0 ≤ i → i < (nth K0 s.things j).thing.refs.length → refIn s.things (nth K0 s.things j).born (nth .empty (nth K0 s.things j).thing.refs i)
  rotate_left; · rw [if_neg h9] at hto; rw [decide_eq_false fun V : VS s => h9 (hv.1 V).2.2.2.2.2.2.2.2.1]; simp (disch := omega) only [push_cast, spec_l1Width_eq, hw, spec_l4Range_eq, hto]
  rw [if_pos h9] at hto
  simp (disch := omega) only [push_cast, spec_l1Width_eq, hw, spec_l4Range_eq, hto, svs_6 hs.1 h5 h6 hN]
  by_cases h10 : ∀ j, 0 ≤ j → j < s.pins.length → pP s.things s.pins j
  rotate_left; · rw [if_neg h10, decide_eq_false fun V : VS s => h10 (hv.1 V).2.2.2.2.2.2.2.2.2.1]
  rw [if_pos h10, svs_11 h2 hs.1 h5 h7]
  by_cases h11 : ∀ j, 0 ≤ j → j < s.leases.length → lP s.now s.given s.things s.leases j
  rotate_left; · rw [if_neg h11, decide_eq_false fun V : VS s => h11 (hv.1 V).2.2.2.2.2.2.2.2.2.2]
  rw [if_pos h11, decide_eq_true (hv.2 ⟨h1, h2, h3, h4, h5, h6, h7, h8, h9, h10, h11⟩)]
end
end KV
end
section
namespace KV
open Go Go.Eng
open Classical
inductive Rch (T : List Kept) (F : List Bs) : Bs → Prop where
  | base (x : Bs) (h : x ∈ F) : Rch T F x
  | ref (k : Kept) (x : Bs) (hk : k ∈ T) (h : Rch T F k.sum) (hx : x ∈ k.thing.refs) : Rch T F x
theorem addU_pre (l : List Bs) (x : Bs) : ∃ t, addU l x = l ++ t := by
  unfold addU; split
  · exact ⟨[], by simp⟩
  · exact ⟨[x], rfl⟩
theorem foldU_pre (l : List Bs) : ∀ a, ∃ t, l.foldl addU a = a ++ t := by
  induction l with
  | nil => intro a; exact ⟨[], by simp⟩
  | cons x l ih =>
    intro a
    obtain ⟨t, ht⟩ := addU_pre a x
    obtain ⟨t2, ht2⟩ := ih (addU a x)
    rw [List.foldl_cons, ht2, ht]
    exact ⟨t ++ t2, by simp⟩
theorem addU_nd {l : List Bs} {x : Bs} (h : l.Nodup) : (addU l x).Nodup := by
  unfold addU; split
  · exact h
  · rename_i hx
    rw [List.nodup_append]
    refine ⟨h, by simp, fun a ha b hb => ?_⟩
    rw [List.mem_singleton] at hb
    rintro rfl
    rw [hb] at ha; exact hx ha
theorem foldU_nd (l : List Bs) : ∀ a : List Bs, a.Nodup → (l.foldl addU a).Nodup := by
  induction l with
  | nil => intro a h; exact h
  | cons x l ih => intro a h; rw [List.foldl_cons]; exact ih _ (addU_nd h)
structure BI (s : State) (F : List Bs) (i : Nat) (out : List Bs) : Prop where
  nd : out.Nodup
  has : ∀ x ∈ out, hasT s.things x
  base : ∀ x ∈ F, x ∈ out
  rch : ∀ x ∈ out, Rch s.things F x
  le : i ≤ out.length
  cl : ∀ j, j < i → ∀ k ∈ s.things, k.sum = nth .empty out j → ∀ r ∈ k.thing.refs, r ∈ out
theorem below_14 {s : State} (V : VS s) (i : Int) (refs : List Bs) (hr : refs.length ≤ 30) (out : List Bs) (ho : out.length ≤ 1000000) : L_spec_l5Below (some 14) [.i i, .l (encS refs), .i 0, .i s.width, .i s.now, .i s.given, .i s.births, .l (encK s.things), .l (encP s.pins), .l (encL s.leases), .l (encS out)] =
    L_spec_l5Below (some 8) [.i (IntKind.i64.wrap (i + 1)), .i s.width, .i s.now, .i s.given, .i s.births, .l (encK s.things), .l (encP s.pins), .l (encL s.leases), .l (encS (refs.foldl addU out))] := by
  exact inv_loop (f := fun (j : Nat) (a : List Bs) => L_spec_l5Below (some 14) [.i i, .l (encS refs), .i (j : Int), .i s.width, .i s.now, .i s.given, .i s.births, .l (encK s.things), .l (encP s.pins), .l (encL s.leases), .l (encS a)]) (n := refs.length)
    (I := fun j a => a = (refs.take j).foldl addU out) (fun j a hj hI => ⟨addU a (nth .empty refs j), by
      show L_spec_l5Below _ _ = L_spec_l5Below _ _
      have hl : a.length ≤ 1000000 + j := by rw [hI]; have := foldU_len (refs.take j) out; rw [List.length_take] at this; omega
      rw [e_spec_l5Below_14, mostE]
      unfold addU
      by_cases hm : nth .empty refs j ∈ a
      · rw [if_pos hm]; simp (disch := omega) only [push_cast, spec_l4Has_eq a (nth .empty refs j) (show a.length ≤ 4611686018427387904 by omega), decide_eq_true hm] <;> rfl
      · rw [if_neg hm, ← encS_app]; simp (disch := omega) only [push_cast, spec_l4Has_eq a (nth .empty refs j) (show a.length ≤ 4611686018427387904 by omega), decide_eq_false hm] <;> rfl, by
      show addU a _ = _
      rw [take_fold _ _ _ hj, hI]⟩) (fun a hI => by
      show L_spec_l5Below _ _ = L_spec_l5Below _ _
      rw [e_spec_l5Below_14]
      rw [cneg (show ¬ (refs.length : Int) < ((encS refs).length : Int) by rw [encS_len]; omega), hI, List.take_length]) 0 out (Nat.zero_le _) rfl
theorem below_8 {s : State} (V : VS s) (F : List Bs) : ∀ (m i : Nat) (out : List Bs), s.things.length - i = m → BI s F i out →
    ∃ o : List Bs, L_spec_l5Below (some 8) [.i (i : Int), .i s.width, .i s.now, .i s.given, .i s.births, .l (encK s.things), .l (encP s.pins), .l (encL s.leases), .l (encS out)] = some [.l (encS o)] ∧ o.Nodup ∧ (∀ x, x ∈ o ↔ Rch s.things F x) ∧ ∀ x ∈ o, hasT s.things x := by
  intro m
  have n1 := V.nT
  have fin : ∀ (i : Nat) (out : List Bs), BI s F i out → out.length = i → ∃ o : List Bs, L_spec_l5Below (some 8) [.i (i : Int), .i s.width, .i s.now, .i s.given, .i s.births, .l (encK s.things), .l (encP s.pins), .l (encL s.leases), .l (encS out)] = some [.l (encS o)] ∧ o.Nodup ∧ (∀ x, x ∈ o ↔ Rch s.things F x) ∧ ∀ x ∈ o, hasT s.things x := by
    intro i out h hi
    refine ⟨out, ?_, h.nd, fun x => ⟨h.rch x, fun hx => ?_⟩, h.has⟩
    · rw [e_spec_l5Below_8]; simp (disch := omega) only [push_cast]
    · induction hx with
      | base x hx => exact h.base x hx
      | ref k x hk hks hx ih =>
        obtain ⟨j, hj, he⟩ := mem_nth .empty ih
        exact h.cl j (by omega) k hk he.symm x hx
  induction m with
  | zero =>
    intro i out hm h
    have hl := marked_len h.nd h.has
    exact fin i out h (by have := h.le; omega)
  | succ m ih =>
    intro i out hm h
    have hl := marked_len h.nd h.has
    rcases Nat.lt_or_ge i out.length with hlt | hge
    rotate_left; · exact fin i out h (by have := h.le; omega)
    obtain ⟨x, hx⟩ : ∃ x, nth .empty out i = x := ⟨_, rfl⟩
    have hmem : x ∈ out := by rw [← hx]; exact nth_mem hlt
    have hT := h.has x hmem
    have hi2 := (hasT_iff V.srtT x).1 hT
    have hfi : findT s.things x = (lb (qK x) s.things : Int) := if_pos hT
    obtain ⟨k, hk⟩ : ∃ k, nth K0 s.things (lb (qK x) s.things) = k := ⟨_, rfl⟩
    have hkm : k ∈ s.things := by rw [← hk]; exact nth_mem hi2.1
    have hks : k.sum = x := by rw [← hk]; exact hi2.2
    have hrl := (V.okT k hkm).1.refs
    obtain ⟨t, ht⟩ := foldU_pre k.thing.refs out
    have hb : BI s F (i + 1) (k.thing.refs.foldl addU out) := by
      refine ⟨foldU_nd _ _ h.nd, fun y hy => ?_, fun y hy => (mem_foldU _ _ _).2 (.inl (h.base y hy)), fun y hy => ?_, by rw [ht, List.length_append]; omega, fun j hj k' hk' he r hr => ?_⟩
      · rcases (mem_foldU _ _ _).1 hy with h1 | h1
        · exact h.has y h1
        · obtain ⟨j, hj, e, _⟩ := V.refs k hkm y h1; exact ⟨j, hj, e⟩
      · rcases (mem_foldU _ _ _).1 hy with h1 | h1
        · exact h.rch y h1
        · exact .ref k y hkm (by rw [hks]; exact h.rch x hmem) h1
      · have hnj : nth .empty (k.thing.refs.foldl addU out) j = nth .empty out j := by
          rw [nth_get _ _ _ (by rw [ht, List.length_append]; omega), nth_get _ _ _ (by omega : j < out.length)]
          simp only [ht]
          rw [List.getElem_append_left]
        rw [hnj] at he
        rcases Nat.lt_or_ge j i with h1 | h1
        · exact (mem_foldU _ _ _).2 (.inl (h.cl j h1 k' hk' he r hr))
        · have hji : j = i := by omega
          subst hji
          rw [hx, ← hks] at he
          have hkk : k' = k := by
            obtain ⟨a, ha, rfl⟩ := mem_nth K0 hk'
            have := key_at K0 V.srtT (kp k.sum) (kR k.sum) ha he
            rw [this, hks, hk]
          rw [hkk] at hr
          exact (mem_foldU _ _ _).2 (.inr hr)
    obtain ⟨o, e, r⟩ := ih (i + 1) _ (by omega) hb
    refine ⟨o, ?_, r⟩
    rw [e_spec_l5Below_8]
    have h14 := below_14 V (i : Int) k.thing.refs hrl out (by omega)
    rw [w64 (by omega)] at h14
    simp (disch := omega) only [push_cast, hx, spec_l4Find_eq s.width s.now s.given s.births s.things (encP s.pins) (encL s.leases) x V.srtT (by omega), hfi, hk]
    exact h14.trans e
theorem below_ok {s : State} (V : VS s) (F : List Bs) (hF : ∀ x ∈ F, hasT s.things x) (hl : F.length ≤ 1000000) : ∃ o : List Bs, L_spec_l5Below none (encSt s ++ [.l (encS F)]) = some [.l (encS o)] ∧ o.Nodup ∧ (∀ x, x ∈ o ↔ Rch s.things F x) ∧ ∀ x ∈ o, hasT s.things x := by
  show ∃ o : List Bs, L_spec_l5Below none [.i s.width, .i s.now, .i s.given, .i s.births, .l (encK s.things), .l (encP s.pins), .l (encL s.leases), .l (encS F)] = _ ∧ _
  obtain ⟨o, e, r⟩ := below_8 V F s.things.length 0 (F.foldl addU []) (by omega) ⟨foldU_nd _ _ List.nodup_nil, fun x hx => by
    rcases (mem_foldU _ _ _).1 hx with h | h
    · cases h
    · exact hF x h, fun x hx => (mem_foldU _ _ _).2 (.inr hx), fun x hx => by
    rcases (mem_foldU _ _ _).1 hx with h | h
    · cases h
    · exact .base x h, Nat.zero_le _, fun j hj => by omega⟩
  refine ⟨o, ?_, r⟩
  rw [e_spec_l5Below_i]
  exact (inv_loop (f := fun (j : Nat) (a : List Bs) => L_spec_l5Below (some 3) [.l (encS F), .i (j : Int), .i s.width, .i s.now, .i s.given, .i s.births, .l (encK s.things), .l (encP s.pins), .l (encL s.leases), .l (encS a)]) (n := F.length)
    (I := fun j a => a = (F.take j).foldl addU []) (fun j a hj hI => ⟨addU a (nth .empty F j), by
      show L_spec_l5Below _ _ = L_spec_l5Below _ _
      have hl : a.length ≤ j := by rw [hI]; have := foldU_len (F.take j) []; rw [List.length_take] at this; simp at this; omega
      rw [e_spec_l5Below_3, mostE]
      unfold addU
      by_cases hm : nth .empty F j ∈ a
      · rw [if_pos hm]; simp (disch := omega) only [push_cast, spec_l4Has_eq a (nth .empty F j) (show a.length ≤ 4611686018427387904 by omega), decide_eq_true hm] <;> rfl
      · rw [if_neg hm, ← encS_app]; simp (disch := omega) only [push_cast, spec_l4Has_eq a (nth .empty F j) (show a.length ≤ 4611686018427387904 by omega), decide_eq_false hm] <;> rfl, by
      show addU a _ = _
      rw [take_fold _ _ _ hj, hI]⟩) (fun a hI => by
      show L_spec_l5Below _ _ = _
      rw [e_spec_l5Below_3]
      rw [hI, List.take_length]
      simp (disch := omega) only [push_cast]
      exact e) 0 [] (Nat.zero_le _) rfl)
def Liv (s : State) (x : Bs) : Prop := Rch s.things (rootsM s) x
theorem spec_Live_ok {s : State} (V : VS s) : ∃ o : List Bs, L_spec_Live none (encSt s) = some [.l (encS o)] ∧ Asc o ∧ (∀ x, x ∈ o ↔ Liv s x) ∧ o.length ≤ 600 ∧ ∀ x ∈ o, hasT s.things x := by
  have n1 := V.nT; have n2 := V.nP; have n3 := V.nL
  have hv := spec_ValidState_eq s V.names
  have hr := spec_l5Roots_eq s (by omega) (by omega)
  have hrl := roots_len s
  obtain ⟨o, e, hnd, hm, hh⟩ := below_ok V (rootsM s) (fun x hx => roots_has V hx) (by omega)
  have hol := marked_len hnd hh
  obtain ⟨o2, e2, ha, hm2, hl2⟩ := sorted_ok o (by omega)
  refine ⟨o2, ?_, ha, fun x => (hm2 x).trans (hm x), by omega, fun x hx => hh x ((hm2 x).1 hx)⟩
  have e' : L_spec_l5Below none [.i s.width, .i s.now, .i s.given, .i s.births, .l (encK s.things), .l (encP s.pins), .l (encL s.leases), .l (encS (rootsM s))] = _ := e
  rw [decide_eq_true V] at hv
  unfold encSt at hv hr ⊢
  rw [e_spec_Live_i]
  simp (disch := omega) only [push_cast, hv, hr, e', e2]
end KV
end
section
namespace KV
open Go Go.Eng
open Classical
noncomputable def iterV : Nat → Vault → Vault
  | 0, v => v
  | n + 1, v => iterV n (stepV v)
theorem clr_it : ∀ (n : Nat) (N : Int) (v : Vault) (d : List Bs) (u : Nat), RI N v → N + n ≤ 3000 → ∃ d', clrI n v d u = some (iterV n v, d', u + n) ∧ clrS n v d u = some (iterV n v, d', u + n) ∧ RI (N + n) (iterV n v)
  | 0, N, v, d, u, h, hN => ⟨d, rfl, rfl, by rw [show N + ((0 : Nat) : Int) = N by omega]; exact h⟩
  | n + 1, N, v, d, u, h, hN => by
    have hs := (RI_unit h (by omega)).1
    have hlen := hs.lens
    have hcnt := h.cnt; have hrd := h.vv.rd.rds; have hlog := h.vv.log.n
    obtain ⟨d', e1, e2, e3⟩ := clr_it n (N + 1) (stepV v) (d ++ oneD (unitM v.st v.rd).2) (u + 1) hs (by omega)
    have hq : (unitM v.st v.rd).1.queue.length ≤ 22300 := hlen.2
    have hm : (unitM v.st v.rd).1.marked.length ≤ 600 := hlen.1
    refine ⟨d', ?_, ?_, by rw [show N + ((n + 1 : Nat) : Int) = N + 1 + n by omega]; exact e3⟩
    · simp only [clrI]
      rw [if_neg (fun h1 => h1.elim (fun h2 => h2 h.vv.rd) (by omega)), if_neg (fun h1 => by have := h1.2; omega), e1, show u + 1 + n = u + (n + 1) by omega]; rfl
    · simp only [clrS]
      rw [if_neg (fun h1 => by rcases h1 with h1 | h1 | h1 <;> omega), if_neg (fun h1 => by have := h1.2; omega), e2, show u + 1 + n = u + (n + 1) by omega]; rfl
theorem RI.step_log {N : Int} {v : Vault} (h : RI N v) : (stepV v).width = v.width ∧ (stepV v).safe = v.safe ∧ (((stepV v).loose = v.loose ∧ (stepV v).st = v.st) ∨ (∃ x, (stepV v).loose = v.loose ++ [x])) ∧ ∀ k ∈ (stepV v).st.things, k ∈ v.st.things := by
  refine ⟨rfl, rfl, ?_, fun k hk => ?_⟩
  · by_cases hd : (unitM v.st v.rd).2 = E0
    · left; unfold stepV stepSt; rw [if_pos hd, if_pos hd]; exact ⟨rfl, rfl⟩
    · right; unfold stepV; rw [if_neg hd]; exact ⟨_, rfl⟩
  · have hk : k ∈ (stepSt v.st (unitM v.st v.rd).2).things := hk
    unfold stepSt at hk
    split at hk
    · exact hk
    · exact (mem_delK.1 hk).1
abbrev Put := Bs × Thing
def encQ (l : List Put) : Rw := l.map fun q => [.s q.1, .s q.2.text, .l (encS q.2.refs)]
def encSs (l : List State) : Rw := l.map fun s => [.i s.width, .i s.now, .i s.given, .i s.births, .l (encK s.things), .l (encP s.pins), .l (encL s.leases)]
@[push_cast] theorem encQ_len (l : List Put) : (encQ l).length = l.length := by simp [encQ]
@[push_cast] theorem encSs_len (l : List State) : (encSs l).length = l.length := by simp [encSs]
def q0 : Put := (E0, ⟨E0, []⟩)
def s0 : State := ⟨0, 0, 0, 0, [], [], []⟩
theorem rowS_get (l : List State) (i : Nat) (h : i < l.length) (o : Nat) : rd (encSs l) i o = ([.i (nth s0 l i).width, .i (nth s0 l i).now, .i (nth s0 l i).given, .i (nth s0 l i).births, .l (encK (nth s0 l i).things), .l (encP (nth s0 l i).pins), .l (encL (nth s0 l i).leases)] : List C).getD o (.i 0) := by
  rw [encSs, rd_map _ _ _ _ h, nth_get s0 l i h]
theorem rowQ_get (l : List Put) (i : Nat) (h : i < l.length) (o : Nat) : rd (encQ l) i o = ([.s (nth q0 l i).1, .s (nth q0 l i).2.text, .l (encS (nth q0 l i).2.refs)] : List C).getD o (.i 0) := by
  rw [encQ, rd_map _ _ _ _ h, nth_get q0 l i h]
theorem wAmong_eq (l : List State) (s : State) (hl : l.length ≤ 1000000) (hs : Small1 s) (h : ∀ t ∈ l, Small1 t) : L_laws_wAmong none (.l (encSs l) :: encSt s) = some [.b (decide (s ∈ l))] := by
  show L_laws_wAmong none [.l (encSs l), .i s.width, .i s.now, .i s.given, .i s.births, .l (encK s.things), .l (encP s.pins), .l (encL s.leases)] = _
  rw [e_laws_wAmong_i]
  have := ex_loop (f := fun i : Nat => L_laws_wAmong (some 2) [.l (encSs l), .i (i : Int), .i s.width, .i s.now, .i s.given, .i s.births, .l (encK s.things), .l (encP s.pins), .l (encL s.leases)]) s0 (l := l) (p := fun r => r = s) (T := some [.b true]) (E := some [.b false]) (fun i hi => by
    show L_laws_wAmong _ _ = cond _ _ (L_laws_wAmong _ _)
    have hw := wState_eq (h _ (nth_mem (d := s0) hi)) hs
    have hw' : L_laws_wState none [.i (nth s0 l i).width, .i (nth s0 l i).now, .i (nth s0 l i).given, .i (nth s0 l i).births, .l (encK (nth s0 l i).things), .l (encP (nth s0 l i).pins), .l (encL (nth s0 l i).leases), .i s.width, .i s.now, .i s.given, .i s.births, .l (encK s.things), .l (encP s.pins), .l (encL s.leases)] = _ := hw
    rw [e_laws_wAmong_2]
    simp only [toNat_cast, rowS_get l i hi]
    simp (disch := omega) only [push_cast, hw', List.getD_cons_zero, List.getD_cons_succ, C.int, C.list]) (by show L_laws_wAmong _ _ = _; rw [e_laws_wAmong_2]; simp (disch := omega) only [push_cast])
  refine this.trans ?_
  by_cases h : ∃ r ∈ l, r = s
  · rw [if_pos h, decide_eq_true (p := s ∈ l) (by obtain ⟨r, hr, rfl⟩ := h; exact hr)]
  · rw [if_neg h, decide_eq_false (p := s ∈ l) (fun h3 => h ⟨s, h3, rfl⟩)]
theorem wPut_eq (l : List Put) (x : Bs) (t : Thing) (hl : l.length ≤ 1000000) (ht : t.refs.length ≤ 1000000) (h : ∀ q ∈ l, q.2.refs.length ≤ 1000000) : L_laws_wPut none [.l (encQ l), .s x, .s t.text, .l (encS t.refs)] = some [.b (decide ((x, t) ∈ l))] := by
  rw [e_laws_wPut_i]
  have := ex_loop (f := fun i : Nat => L_laws_wPut (some 2) [.l (encQ l), .s x, .i (i : Int), .s t.text, .l (encS t.refs)]) q0 (l := l) (p := fun r => r = (x, t)) (T := some [.b true]) (E := some [.b false]) (fun i hi => by
    show L_laws_wPut _ _ = cond _ _ (L_laws_wPut _ _)
    have hq := h _ (nth_mem (d := q0) hi)
    have hw := wThing_eq (nth q0 l i).2 t (by omega) (by omega)
    rw [e_laws_wPut_2]
    simp only [toNat_cast, rowQ_get l i hi]
    obtain ⟨yu, hyu⟩ : ∃ yu, nth q0 l i = yu := ⟨_, rfl⟩
    rw [hyu] at hw hq ⊢
    obtain ⟨y, u⟩ := yu
    simp only at hw hq ⊢
    by_cases c1 : y = x
    · subst c1
      simp (disch := omega) only [push_cast, hw, List.getD_cons_zero, List.getD_cons_succ, C.str, C.list]
      by_cases c2 : u = t
      · subst c2; simp
      · have : ¬ ((y, u) = (y, t)) := fun e => c2 (by cases e; rfl)
        simp [c2]
    · have : ¬ ((y, u) = (x, t)) := fun e => c1 (by cases e; rfl)
      simp (disch := omega) only [push_cast, List.getD_cons_zero, List.getD_cons_succ, C.str, C.list] <;> simp [c1]) (by show L_laws_wPut _ _ = _; rw [e_laws_wPut_2]; simp (disch := omega) only [push_cast])
  refine this.trans ?_
  by_cases h : ∃ r ∈ l, r = (x, t)
  · rw [if_pos h, decide_eq_true (p := (x, t) ∈ l) (by obtain ⟨r, hr, rfl⟩ := h; exact hr)]
  · rw [if_neg h, decide_eq_false (p := (x, t) ∈ l) (fun h3 => h ⟨_, h3, rfl⟩)]
noncomputable def moms (v : Vault) (n : Nat) : List State := (List.range n).map fun j => (iterV (j + 1) v).st
theorem wMoments_eq {N : Int} {v : Vault} (h : RI N v) (n : Nat) (hn : n ≤ 40) (hN : N ≤ 2900) : L_laws_wMoments none (encV v ++ [.i (n : Int)]) = some [.l (encSs (moms v (n - 1)))] := by
  show L_laws_wMoments none [.i v.width, .i v.limit, .l (encS v.safe), .l (encS v.loose), .i v.st.width, .i v.st.now, .i v.st.given, .i v.st.births, .l (encK v.st.things), .l (encP v.st.pins), .l (encL v.st.leases), .i v.rd.phase, .l (encS v.rd.queue), .l (encS v.rd.marked), .i v.rd.top, .i v.rd.at_, .i v.rd.rounds, .i (n : Int)] = _
  rw [e_laws_wMoments_i]
  have key : ∀ (m k : Nat) (acc : List State), n - k = m → 1 ≤ k → acc = moms v (k - 1) → L_laws_wMoments (some 3) [.i (n : Int), .i (k : Int), .i v.width, .i v.limit, .l (encS v.safe), .l (encS v.loose), .i v.st.width, .i v.st.now, .i v.st.given, .i v.st.births, .l (encK v.st.things), .l (encP v.st.pins), .l (encL v.st.leases), .i v.rd.phase, .l (encS v.rd.queue), .l (encS v.rd.marked), .i v.rd.top, .i v.rd.at_, .i v.rd.rounds, .l (encSs acc)] = some [.l (encSs (moms v (max k n - 1)))] := by
    intro m
    induction m with
    | zero =>
      intro k acc hm hk ha
      rw [e_laws_wMoments_3]
      simp (disch := omega) only [push_cast]
      rw [ha, Nat.max_eq_left (by omega)]
    | succ m ih =>
      intro k acc hm hk ha
      have hcl := spec_Clear_eq h.vv.small (k : Int)
      obtain ⟨d', _, e2, _⟩ := clr_it k N v [] 0 h (by omega)
      rw [if_pos ⟨h.vv, by omega, by omega⟩, toNat_cast, e2] at hcl
      have hcl' : L_spec_Clear none [.i v.width, .i v.limit, .l (encS v.safe), .l (encS v.loose), .i v.st.width, .i v.st.now, .i v.st.given, .i v.st.births, .l (encK v.st.things), .l (encP v.st.pins), .l (encL v.st.leases), .i v.rd.phase, .l (encS v.rd.queue), .l (encS v.rd.marked), .i v.rd.top, .i v.rd.at_, .i v.rd.rounds, .i (k : Int)] = _ := hcl
      have hst : acc ++ [(iterV k v).st] = moms v (k + 1 - 1) := by
        rw [ha]; unfold moms
        obtain ⟨j, rfl⟩ : ∃ j, k = j + 1 := ⟨k - 1, by omega⟩
        rw [show j + 1 + 1 - 1 = j + 1 by omega, show j + 1 - 1 = j by omega, List.range_succ, List.map_append]; rfl
      have := ih (k + 1) (acc ++ [(iterV k v).st]) (by omega) (by omega) hst
      have happ : encSs (acc ++ [(iterV k v).st]) = encSs acc ++ [[.i (iterV k v).st.width, .i (iterV k v).st.now, .i (iterV k v).st.given, .i (iterV k v).st.births, .l (encK (iterV k v).st.things), .l (encP (iterV k v).st.pins), .l (encL (iterV k v).st.leases)]] := by simp [encSs]
      rw [happ] at this
      have hlen : acc.length = k - 1 := by rw [ha]; simp [moms]
      rw [e_laws_wMoments_3, mostE]
      rw [show max (k + 1) n = max k n by omega] at this
      unfold encSwS at hcl'
      simp only [vI, vL, List.cons_append, List.nil_append] at hcl'
      simp (disch := omega) only [push_cast, hcl']
      exact this
  have := key (n - 1) 1 [] rfl (Nat.le_refl _) rfl
  rw [show max 1 n - 1 = n - 1 by omega] at this
  exact this
def PI (put : List Put) (w : Int) (l : List Bs) : Prop := ∀ n s, runL w (empty w) (l.take n) 0 = .inl s → ∀ k ∈ s.things, (k.sum, k.thing) ∈ put
def QI (past : List State) (w : Int) (a b : List Bs) : Prop := ∀ n s, runL w (empty w) (a ++ b.take n) 0 = .inl s → s ∈ past
theorem PI.mono {p q : List Put} {w : Int} {l : List Bs} (h : PI p w l) (hs : ∀ x ∈ p, x ∈ q) : PI q w l := fun n s hr k hk => hs _ (h n s hr k hk)
theorem QI.mono {p q : List State} {w : Int} {a b : List Bs} (h : QI p w a b) (hs : ∀ x ∈ p, x ∈ q) : QI q w a b := fun n s hr => hs _ (h n s hr)
theorem PI.snoc {p : List Put} {w : Int} {l : List Bs} {x : Bs} {s' : State} (h : PI p w l) (hr : runL w (empty w) (l ++ [x]) 0 = .inl s') (hs : ∀ k ∈ s'.things, (k.sum, k.thing) ∈ p) : PI p w (l ++ [x]) := by
  intro n s hn k hk
  rcases Nat.lt_or_ge l.length n with h1 | h1
  · rw [List.take_of_length_le (by rw [List.length_append]; simp; omega), hr] at hn
    cases hn; exact hs k hk
  · rw [List.take_append_of_le_length h1] at hn
    exact h n s hn k hk
theorem QI.snoc {p : List State} {w : Int} {a b : List Bs} {x : Bs} {s' : State} (h : QI p w a b) (hr : runL w (empty w) (a ++ (b ++ [x])) 0 = .inl s') (hs : s' ∈ p) : QI p w a (b ++ [x]) := by
  intro n s hn
  rcases Nat.lt_or_ge b.length n with h1 | h1
  · rw [List.take_of_length_le (by rw [List.length_append]; simp; omega), hr] at hn
    cases hn; exact hs
  · rw [List.take_append_of_le_length h1] at hn
    exact h n s hn
theorem VV.full {v : Vault} (V : VV v) {put : List Put} (h : PI put v.width (v.safe ++ v.loose)) : ∀ k ∈ v.st.things, (k.sum, k.thing) ∈ put := by
  have := h (v.safe ++ v.loose).length v.st
  rw [List.take_length] at this
  exact this V.run
theorem step_PQ {N : Int} {v : Vault} (h : RI N v) (hN : N ≤ 2999) {put : List Put} {past : List State} (hp : PI put v.width (v.safe ++ v.loose)) (hq : QI past v.width v.safe v.loose) (hs : (stepV v).st ∈ past) : PI put v.width ((stepV v).safe ++ (stepV v).loose) ∧ QI past v.width (stepV v).safe (stepV v).loose := by
  obtain ⟨h1, h2, h3, h4⟩ := h.step_log
  have hn := (RI_unit h (by omega)).1.vv
  have hr := hn.run
  rw [h1, h2] at hr
  rw [h2]
  rcases h3 with ⟨h5, _⟩ | ⟨x, h5⟩
  · rw [h5]; exact ⟨hp, hq⟩
  · rw [h5] at hr ⊢
    refine ⟨?_, hq.snoc hr hs⟩
    rw [← List.append_assoc] at hr ⊢
    exact hp.snoc hr fun k hk => h.vv.full hp k (h4 k hk)
theorem iter_PQ : ∀ (n : Nat) (N : Int) (v : Vault) (put : List Put) (past : List State), RI N v → N + n ≤ 2999 → PI put v.width (v.safe ++ v.loose) → QI past v.width v.safe v.loose → (∀ j, j < n → (iterV (j + 1) v).st ∈ past) →
    (iterV n v).width = v.width ∧ PI put v.width ((iterV n v).safe ++ (iterV n v).loose) ∧ QI past v.width (iterV n v).safe (iterV n v).loose
  | 0, N, v, put, past, h, hN, hp, hq, hs => ⟨rfl, hp, hq⟩
  | n + 1, N, v, put, past, h, hN, hp, hq, hs => by
    obtain ⟨a, b⟩ := step_PQ h (by omega) hp hq (hs 0 (by omega))
    have := iter_PQ n (N + 1) (stepV v) put past (RI_unit h (by omega)).1 (by omega) a b fun j hj => hs (j + 1) (by omega)
    exact this
theorem chg_new {s : State} {e : Entry} (hk : 1 ≤ e.kind ∧ e.kind ≤ 6) (h : (chg s e).code = 0) {k : Kept} (hk2 : k ∈ (chg s e).st.things) : k ∈ s.things ∨ (e.kind = 1 ∧ k.thing = e.thing ∧ k.sum = sumM (formM e.thing) s.width) := by
  by_cases c1 : e.kind = 1
  · have hc : chg s e = putS s e := by unfold chg; rw [if_pos c1]
    rw [hc] at h hk2
    unfold putS at h hk2
    split at h
    · cases h
    · rename_i a1
      rw [if_neg a1] at hk2
      split at h
      · rename_i a2
        rw [if_pos a2] at hk2
        split at h
        · rename_i a3
          rw [if_pos a3] at hk2
          split at h
          · rename_i a4
            rw [if_pos a4] at hk2
            exact .inl hk2
          · cases h
        · cases h
      · rename_i a2
        rw [if_neg a2] at hk2
        split at h
        · rename_i a3
          rw [if_pos a3] at hk2
          rcases mem_insK.1 hk2 with h1 | h1
          · subst h1; exact .inr ⟨c1, rfl, rfl⟩
          · exact .inl h1
        · cases h
  · rcases (chg_eff hk h).2.1 k hk2 with h1 | h1
    · exact .inl h1
    · exact absurd h1.1 c1
theorem top_31 (acts : List Act) (i : Nat) (hi : i ≤ 1000) {w : Vault} (W : VV w) (put : List Put) (past : List State) (hput : put.length ≤ 1000) (hq : ∀ q ∈ put, q.2.refs.length ≤ 1000000) (hin : ∀ k ∈ w.st.things, (k.sum, k.thing) ∈ put) (live : List Bs) (hll : live.length ≤ 600) (hl : ∀ x ∈ live, hasT w.st.things x) :
    L_laws_FnTop (some 31) [.i (i : Int), .i (0), .i w.width, .i w.limit, .l (encS w.loose), .i w.st.width, .i w.st.now, .i w.st.given, .i w.st.births, .l (encK w.st.things), .l (encP w.st.pins), .l (encL w.st.leases), .i w.rd.phase, .l (encS w.rd.queue), .l (encS w.rd.marked), .i w.rd.top, .i w.rd.at_, .i w.rd.rounds, .l (encAs acts), .l (encQ (put)), .l (encSs (past)), .l (encS live), .l (encS w.safe)] = L_laws_FnTop (some 10) [.i ((i + 1 : Nat) : Int), .i w.width, .i w.limit, .l (encS w.loose), .i w.st.width, .i w.st.now, .i w.st.given, .i w.st.births, .l (encK w.st.things), .l (encP w.st.pins), .l (encL w.st.leases), .i w.rd.phase, .l (encS w.rd.queue), .l (encS w.rd.marked), .i w.rd.top, .i w.rd.at_, .i w.rd.rounds, .l (encAs acts), .l (encQ put), .l (encSs (past)), .l (encS w.safe)] := by
  refine inv_loop (f := fun (k : Nat) (_ : Unit) => L_laws_FnTop (some 31) [.i (i : Int), .i (k : Int), .i w.width, .i w.limit, .l (encS w.loose), .i w.st.width, .i w.st.now, .i w.st.given, .i w.st.births, .l (encK w.st.things), .l (encP w.st.pins), .l (encL w.st.leases), .i w.rd.phase, .l (encS w.rd.queue), .l (encS w.rd.marked), .i w.rd.top, .i w.rd.at_, .i w.rd.rounds, .l (encAs acts), .l (encQ (put)), .l (encSs (past)), .l (encS live), .l (encS w.safe)]) (n := live.length) (I := fun _ _ => True) (fun k s hk _ => ⟨(), ?_, trivial⟩) (fun s _ => ?_) 0 () (Nat.zero_le _) trivial
  · show L_laws_FnTop _ _ = L_laws_FnTop _ _
    have hT := hl _ (nth_mem (d := .empty) hk)
    have V := W.vs.1
    obtain ⟨h1, h2⟩ := (hasT_iff V.srtT _).1 hT
    have hm := nth_mem (d := K0) h1
    have hf := impl_Fetch_eq W.small W.cut (nth .empty live k)
    have hfm : fetchM w (nth .empty live k) = some (nth K0 w.st.things (lb (qK (nth .empty live k)) w.st.things)).thing := if_pos ⟨W, hT⟩
    rw [hfm] at hf
    have hf' : L_impl_Fetch none [.i w.width, .i w.limit, .l (encS w.safe), .l (encS w.loose), .i w.st.width, .i w.st.now, .i w.st.given, .i w.st.births, .l (encK w.st.things), .l (encP w.st.pins), .l (encL w.st.leases), .i w.rd.phase, .l (encS w.rd.queue), .l (encS w.rd.marked), .i w.rd.top, .i w.rd.at_, .i w.rd.rounds, .s (nth .empty live k)] = _ := hf
    have hrl := (V.okT _ hm).1.refs
    have hp := wPut_eq put (nth .empty live k) (nth K0 w.st.things (lb (qK (nth .empty live k)) w.st.things)).thing (by omega) (by omega) hq
    have hmem := hin _ hm
    rw [h2] at hmem
    rw [decide_eq_true hmem] at hp
    unfold encOT at hf'
    rw [e_laws_FnTop_31]
    simp (disch := omega) only [push_cast, hf', hp] <;> rfl
  · show L_laws_FnTop _ _ = _
    rw [e_laws_FnTop_31]
    simp (disch := omega) only [push_cast] <;> rfl
theorem top_27 (acts : List Act) (i : Nat) (hi : i ≤ 1000) (v : Vault) {w : Vault} (W : VV w) (put : List Put) (past : List State) (hput : put.length ≤ 1000) (hpast : past.length ≤ 1000000) (hq : ∀ q ∈ put, q.2.refs.length ≤ 1000000) (hin : ∀ k ∈ w.st.things, (k.sum, k.thing) ∈ put) :
    L_laws_FnTop (some 27) [.i (i : Int), .i v.width, .i v.limit, .l (encS v.safe), .l (encS v.loose), .i v.st.width, .i v.st.now, .i v.st.given, .i v.st.births, .l (encK v.st.things), .l (encP v.st.pins), .l (encL v.st.leases), .i v.rd.phase, .l (encS v.rd.queue), .l (encS v.rd.marked), .i v.rd.top, .i v.rd.at_, .i v.rd.rounds, .l (encAs acts), .l (encQ (put)), .l (encSs (past)), .i w.width, .i w.limit, .l (encS w.loose), .i w.st.width, .i w.st.now, .i w.st.given, .i w.st.births, .i w.rd.phase, .l (encS w.rd.queue), .l (encS w.rd.marked), .i w.rd.top, .i w.rd.at_, .i w.rd.rounds, .l (encS w.safe), .l (encK w.st.things), .l (encP w.st.pins), .l (encL w.st.leases)] = L_laws_FnTop (some 10) [.i ((i + 1 : Nat) : Int), .i w.width, .i w.limit, .l (encS w.loose), .i w.st.width, .i w.st.now, .i w.st.given, .i w.st.births, .l (encK w.st.things), .l (encP w.st.pins), .l (encL w.st.leases), .i w.rd.phase, .l (encS w.rd.queue), .l (encS w.rd.marked), .i w.rd.top, .i w.rd.at_, .i w.rd.rounds, .l (encAs acts), .l (encQ put), .l (encSs (past ++ [w.st])), .l (encS w.safe)] := by
  obtain ⟨live, e, _, _, h1, h2⟩ := spec_Live_ok W.vs.1
  have h31 := top_31 acts i hi W put (past ++ [w.st]) hput hq hin live h1 h2
  have happ : encSs (past ++ [w.st]) = encSs past ++ [[.i w.st.width, .i w.st.now, .i w.st.given, .i w.st.births, .l (encK w.st.things), .l (encP w.st.pins), .l (encL w.st.leases)]] := by simp [encSs]
  rw [happ] at h31 ⊢
  unfold encSt at e
  rw [e_laws_FnTop_27, mostE]
  simp (disch := omega) only [push_cast, e]
  exact h31
theorem top_25 (acts : List Act) (i : Nat) (hi : i ≤ 1000) (v : Vault) {w : Vault} (W : VV w) (a : Act) (ha : a.kind ≠ 10) (put : List Put) (past : List State) (hput : put.length ≤ 1000) (hpast : past.length ≤ 1000000) (hq : ∀ q ∈ put, q.2.refs.length ≤ 1000000) (hin : ∀ k ∈ w.st.things, (k.sum, k.thing) ∈ put) :
    L_laws_FnTop (some 25) [.i (i : Int), .i v.width, .i v.limit, .l (encS v.safe), .l (encS v.loose), .i v.st.width, .i v.st.now, .i v.st.given, .i v.st.births, .l (encK v.st.things), .l (encP v.st.pins), .l (encL v.st.leases), .i v.rd.phase, .l (encS v.rd.queue), .l (encS v.rd.marked), .i v.rd.top, .i v.rd.at_, .i v.rd.rounds, .l (encAs acts), .l (encQ (put)), .l (encSs (past)), .i a.kind, .s a.text, .i a.refs, .s a.name, .i a.pick, .i a.ticks, .i w.width, .i w.limit, .l (encS w.loose), .i w.st.width, .i w.st.now, .i w.st.given, .i w.st.births, .i w.rd.phase, .l (encS w.rd.queue), .l (encS w.rd.marked), .i w.rd.top, .i w.rd.at_, .i w.rd.rounds, .l (encS w.safe), .l (encK w.st.things), .l (encP w.st.pins), .l (encL w.st.leases)] = L_laws_FnTop (some 10) [.i ((i + 1 : Nat) : Int), .i w.width, .i w.limit, .l (encS w.loose), .i w.st.width, .i w.st.now, .i w.st.given, .i w.st.births, .l (encK w.st.things), .l (encP w.st.pins), .l (encL w.st.leases), .i w.rd.phase, .l (encS w.rd.queue), .l (encS w.rd.marked), .i w.rd.top, .i w.rd.at_, .i w.rd.rounds, .l (encAs acts), .l (encQ put), .l (encSs (past ++ [w.st])), .l (encS w.safe)] := by
  have h27 := top_27 acts i hi v W put past hput hpast hq hin
  rw [e_laws_FnTop_25]
  simp (disch := omega) only [push_cast]
  exact h27
theorem top_19 (acts : List Act) (i : Nat) (hi : i ≤ 1000) {N : Int} {v : Vault} (hv : RI N v) (hN : N ≤ 2900) {w : Vault} (W : VV w) {a : Act} (ha : ActOk a) (put : List Put) (past : List State) (hput : put.length ≤ 1000) (hpast : past.length ≤ 900000) (hps : ∀ s ∈ past, VS s) (hq : ∀ q ∈ put, q.2.refs.length ≤ 1000000) (hin : ∀ k ∈ w.st.things, (k.sum, k.thing) ∈ put) (h9 : a.kind = 9 → w.st ∈ past) :
    L_laws_FnTop (some 19) [.i (i : Int), .i v.width, .i v.limit, .l (encS v.safe), .l (encS v.loose), .i v.st.width, .i v.st.now, .i v.st.given, .i v.st.births, .l (encK v.st.things), .l (encP v.st.pins), .l (encL v.st.leases), .i v.rd.phase, .l (encS v.rd.queue), .l (encS v.rd.marked), .i v.rd.top, .i v.rd.at_, .i v.rd.rounds, .l (encAs acts), .l (encQ (put)), .l (encSs (past)), .i a.kind, .s a.text, .i a.refs, .s a.name, .i a.pick, .i a.ticks, .i w.width, .i w.limit, .l (encS w.loose), .i w.st.width, .i w.st.now, .i w.st.given, .i w.st.births, .i w.rd.phase, .l (encS w.rd.queue), .l (encS w.rd.marked), .i w.rd.top, .i w.rd.at_, .i w.rd.rounds, .l (encS w.safe), .l (encK w.st.things), .l (encP w.st.pins), .l (encL w.st.leases)] = L_laws_FnTop (some 10) [.i ((i + 1 : Nat) : Int), .i w.width, .i w.limit, .l (encS w.loose), .i w.st.width, .i w.st.now, .i w.st.given, .i w.st.births, .l (encK w.st.things), .l (encP w.st.pins), .l (encL w.st.leases), .i w.rd.phase, .l (encS w.rd.queue), .l (encS w.rd.marked), .i w.rd.top, .i w.rd.at_, .i w.rd.rounds, .l (encAs acts), .l (encQ put), .l (encSs ((if a.kind = 8 ∨ a.kind = 9 then [] else if a.kind = 10 then past ++ moms v (a.pick.toNat - 1) else past) ++ [w.st])), .l (encS w.safe)] := by
  have hp := ha.pick
  rw [e_laws_FnTop_19]
  by_cases c8 : a.kind = 8
  · have h25 := top_25 acts i hi v W a (by omega) put [] hput (Nat.zero_le _) hq hin
    rw [if_pos (Or.inl c8)]
    simp (disch := omega) only [push_cast]
    rw [e_laws_FnTop_21]
    simp (disch := omega) only [push_cast]
    exact h25
  by_cases c9 : a.kind = 9
  · have h25 := top_25 acts i hi v W a (by omega) put [] hput (Nat.zero_le _) hq hin
    have hwa := wAmong_eq past w.st (by omega) W.vs.1.small (fun t ht => (hps t ht).small)
    rw [decide_eq_true (h9 c9)] at hwa
    unfold encSt at hwa
    rw [if_pos (Or.inr c9)]
    simp (disch := omega) only [push_cast]
    rw [e_laws_FnTop_21]
    simp (disch := omega) only [push_cast, hwa]
    exact h25
  rw [if_neg (fun h => h.elim c8 c9)]
  simp (disch := omega) only [push_cast]
  rw [e_laws_FnTop_21]
  simp (disch := omega) only [push_cast]
  by_cases c10 : a.kind = 10
  · obtain ⟨n, hn⟩ : ∃ n : Nat, a.pick = n := ⟨a.pick.toNat, by omega⟩
    have hmo := wMoments_eq hv n (by omega) hN
    have hmo' : L_laws_wMoments none [.i v.width, .i v.limit, .l (encS v.safe), .l (encS v.loose), .i v.st.width, .i v.st.now, .i v.st.given, .i v.st.births, .l (encK v.st.things), .l (encP v.st.pins), .l (encL v.st.leases), .i v.rd.phase, .l (encS v.rd.queue), .l (encS v.rd.marked), .i v.rd.top, .i v.rd.at_, .i v.rd.rounds, .i (n : Int)] = _ := hmo
    have hml : (moms v (n - 1)).length = n - 1 := by simp [moms]
    rw [if_pos c10, hn, toNat_cast]
    have h27 := top_27 acts i hi v W put (past ++ moms v (n - 1)) hput (by rw [List.length_append]; omega) hq hin
    have happ : encSs (past ++ moms v (n - 1)) = encSs past ++ encSs (moms v (n - 1)) := by simp [encSs]
    rw [e_laws_FnTop_25, mostE]
    rw [happ] at h27
    simp (disch := omega) only [push_cast, hmo']
    exact h27
  · rw [if_neg c10]
    exact top_25 acts i hi v W a c10 put past hput (by omega) hq hin
structure TI (acts : List Act) (i : Nat) (v : Vault) (put : List Put) (past : List State) : Prop where
  ri : RI (40 * (i : Int)) v
  np : put.length ≤ i
  ns : past.length ≤ 1 + 41 * i
  vs : ∀ s ∈ past, VS s
  rf : ∀ q ∈ put, q.2.refs.length ≤ 1000000
  pi : PI put v.width (v.safe ++ v.loose)
  qi : QI past v.width v.safe v.loose
theorem iter_VS {N : Int} {v : Vault} (h : RI N v) (n : Nat) (hN : N + n ≤ 3000) : VS (iterV n v).st := by
  obtain ⟨_, _, _, h3⟩ := clr_it n N v [] 0 h hN
  exact h3.vv.vs.1
theorem top_10 (acts : List Act) (hl : acts.length ≤ 39) (hA : ∀ a ∈ acts, ActOk a) : ∀ (m i : Nat) (v : Vault) (put : List Put) (past : List State), acts.length - i = m → i ≤ acts.length → TI acts i v put past →
    L_laws_FnTop (some 10) [.i (i : Int), .i v.width, .i v.limit, .l (encS v.loose), .i v.st.width, .i v.st.now, .i v.st.given, .i v.st.births, .l (encK v.st.things), .l (encP v.st.pins), .l (encL v.st.leases), .i v.rd.phase, .l (encS v.rd.queue), .l (encS v.rd.marked), .i v.rd.top, .i v.rd.at_, .i v.rd.rounds, .l (encAs acts), .l (encQ put), .l (encSs (past)), .l (encS v.safe)] = some [.b true] := by
  intro m
  induction m with
  | zero =>
    intro i v put past hm hi h
    rw [e_laws_FnTop_10]
    simp (disch := omega) only [push_cast]
  | succ m ih =>
    intro i v put past hm hi h
    have hlt : i < acts.length := by omega
    have hok := hA _ (nth_mem (d := A0) hlt)
    obtain ⟨w, c, e1, e2, hR, hTr⟩ := wDo_ok h.ri (by omega) hok
    have V := h.ri.vv
    have W := hR.vv
    have n1 := V.vs.1.nT
    obtain ⟨tl, e3, ht4, _⟩ := actThing_ok (nth A0 acts i) v.st hok (by omega)
    have e1' : L_laws_wDo none [.i v.width, .i v.limit, .l (encS v.safe), .l (encS v.loose), .i v.st.width, .i v.st.now, .i v.st.given, .i v.st.births, .l (encK v.st.things), .l (encP v.st.pins), .l (encL v.st.leases), .i v.rd.phase, .l (encS v.rd.queue), .l (encS v.rd.marked), .i v.rd.top, .i v.rd.at_, .i v.rd.rounds, .i (nth A0 acts i).kind, .s (nth A0 acts i).text, .i (nth A0 acts i).refs, .s (nth A0 acts i).name, .i (nth A0 acts i).pick, .i (nth A0 acts i).ticks] = _ := e1
    have e2' : L_laws_wCode none [.i v.width, .i v.limit, .l (encS v.safe), .l (encS v.loose), .i v.st.width, .i v.st.now, .i v.st.given, .i v.st.births, .l (encK v.st.things), .l (encP v.st.pins), .l (encL v.st.leases), .i v.rd.phase, .l (encS v.rd.queue), .l (encS v.rd.marked), .i v.rd.top, .i v.rd.at_, .i v.rd.rounds, .i (nth A0 acts i).kind, .s (nth A0 acts i).text, .i (nth A0 acts i).refs, .s (nth A0 acts i).name, .i (nth A0 acts i).pick, .i (nth A0 acts i).ticks] = _ := e2
    have e3' : L_spec_Act_Thing none [.i (nth A0 acts i).kind, .s (nth A0 acts i).text, .i (nth A0 acts i).refs, .s (nth A0 acts i).name, .i (nth A0 acts i).pick, .i (nth A0 acts i).ticks, .i v.st.width, .i v.st.now, .i v.st.given, .i v.st.births, .l (encK v.st.things), .l (encP v.st.pins), .l (encL v.st.leases)] = _ := e3
    have e4 := spec_ValidVault_eq W.small
    rw [decide_eq_true W] at e4
    have hnp := h.np; have hns := h.ns
    obtain ⟨a, hak⟩ : ∃ a, (nth A0 acts i) = a := ⟨_, rfl⟩
    rw [hak] at hok e1' e2' e3' hTr e3
    have hp := hok.pick
    have main : ∃ put', (put' = if a.kind = 1 ∧ c = 0 then put ++ [(sumM (formM ⟨a.text, tl⟩) v.width, ⟨a.text, tl⟩)] else put) ∧ (a.kind = 1 → c = 0 → ThingOk ⟨a.text, tl⟩ v.width) ∧ (c ≠ 0 → w = v) ∧ (∀ k ∈ w.st.things, (k.sum, k.thing) ∈ put') ∧ (a.kind = 9 → w.st ∈ past) ∧
        TI acts (i + 1) w put' ((if a.kind = 8 ∨ a.kind = 9 then [] else if a.kind = 10 then past ++ moms v (a.pick.toNat - 1) else past) ++ [w.st]) := by
      have ri' : RI (40 * ((i + 1 : Nat) : Int)) w := hR.mono (by omega)
      rcases hTr with ⟨e, sh, hke, hk, hcE, hw, hth⟩ | ⟨hk, hw, hc0⟩ | ⟨hk, hw, hc0⟩ | ⟨hk, hc0, d, hcl, _⟩
      · rw [if_neg (show ¬ (a.kind = 8 ∨ a.kind = 9) by omega), if_neg (show ¬ a.kind = 10 by omega)]
        by_cases hc : c = 0
        · have hdc : (doE v e sh).code = 0 := by omega
          obtain ⟨_, heB, hcc, _⟩ := doE_VV hdc
          have hv := doE_v hdc
          rw [← hw] at hv
          have hww : w.width = v.width := by rw [hv]
          have hws : w.safe = v.safe := by rw [hv]
          have hwl : w.loose = v.loose ++ [formE e] := by rw [hv]
          have hwst : w.st = (chg v.st e).st := by rw [hv]
          have hrun := W.run
          rw [hww, hws, hwl] at hrun
          have thE : a.kind = 1 → e.thing = ⟨a.text, tl⟩ := by
            intro h1
            have := hth h1
            rw [e3] at this
            have h2 : ([.s a.text, .l (encS tl)] : Lv) = [.s e.thing.text, .l (encS e.thing.refs)] := Option.some.inj this
            injection h2 with h3 h4
            injection h4 with h4 _
            injection h3 with h3
            injection h4 with h4
            have h5 : tl = e.thing.refs := by
              have : ∀ l m : List Bs, encS l = encS m → l = m := by
                intro l
                induction l with
                | nil => intro m h; cases m with
                  | nil => rfl
                  | cons _ _ => cases h
                | cons x l ih => intro m h; cases m with
                  | nil => cases h
                  | cons y m =>
                    have h6 : ([C.s x] :: encS l : Rw) = [C.s y] :: encS m := h
                    injection h6 with h7 h8
                    injection h7 with h7 _
                    injection h7 with h7
                    rw [h7, ih m h8]
              exact this _ _ h4
            rw [h3, h5]
          obtain ⟨put', hput'⟩ : ∃ put', put' = (if a.kind = 1 ∧ c = 0 then put ++ [(sumM (formM ⟨a.text, tl⟩) v.width, ⟨a.text, tl⟩)] else put : List Put) := ⟨_, rfl⟩
          have hsub : ∀ x ∈ put, x ∈ put' := by
            intro x hx; rw [hput']; split
            · exact List.mem_append.2 (.inl hx)
            · exact hx
          have hfull : ∀ k ∈ w.st.things, (k.sum, k.thing) ∈ put' := by
            intro k hk2
            rw [hwst] at hk2
            rcases chg_new hke hcc hk2 with h1 | ⟨h1, h2, h3⟩
            · exact hsub _ (V.full h.pi k h1)
            · have h1a : a.kind = 1 := by omega
              rw [hput', if_pos ⟨h1a, hc⟩, h3, h2, thE h1a, V.vs.2]
              exact List.mem_append.2 (.inr (by simp))
          refine ⟨put', hput', fun h1 _ => ?_, fun h1 => absurd hc h1, hfull, fun h1 => by omega, ri', ?_, ?_, ?_, ?_, ?_, ?_⟩
          · have := heB
            unfold entryB at this
            simp only [Bool.and_eq_true] at this
            have h2 := this.2.2.2.2.2
            unfold thgB at h2
            rw [if_pos (by omega), thE h1] at h2
            exact thingB_iff.1 h2
          · rw [hput']; split
            · simp; omega
            · omega
          · simp; omega
          · intro s hs
            rcases List.mem_append.1 hs with h1 | h1
            · exact h.vs s h1
            · rw [List.mem_singleton] at h1; rw [h1]; exact W.vs.1
          · intro q hq
            rw [hput'] at hq
            split at hq
            · rcases List.mem_append.1 hq with h1 | h1
              · exact h.rf q h1
              · rw [List.mem_singleton] at h1; rw [h1]; show tl.length ≤ 1000000; omega
            · exact h.rf q hq
          · rw [hww, hws, hwl, ← List.append_assoc]
            rw [← List.append_assoc] at hrun
            exact (h.pi.mono hsub).snoc hrun hfull
          · rw [hww, hws, hwl]
            exact (h.qi.mono fun x hx => List.mem_append.2 (.inl hx)).snoc hrun (List.mem_append.2 (.inr (by simp)))
        · have hwv : w = v := by rw [hw]; exact doE_same V (by omega)
          refine ⟨put, by rw [if_neg fun h => hc h.2], fun _ h1 => absurd h1 hc, fun _ => hwv, ?_, fun h1 => by omega, ri', by omega, by simp; omega, ?_, h.rf, ?_, ?_⟩
          · rw [hwv]; exact V.full h.pi
          · intro s hs
            rcases List.mem_append.1 hs with h1 | h1
            · exact h.vs s h1
            · rw [List.mem_singleton] at h1; rw [h1]; exact W.vs.1
          · rw [hwv]; exact h.pi
          · rw [hwv]; exact h.qi.mono fun x hx => List.mem_append.2 (.inl hx)
      · rw [if_pos (show a.kind = 8 ∨ a.kind = 9 from Or.inl hk)]
        have hv : w = { v with safe := v.safe ++ v.loose, loose := [] } := by rw [hw]; unfold flushM; rw [if_pos V]
        have hpi : PI put w.width (w.safe ++ w.loose) := by rw [hv]; simp only [List.append_nil]; exact h.pi
        refine ⟨put, by rw [if_neg (by omega)], fun h1 => by omega, fun h1 => absurd hc0 h1, W.full hpi, fun h1 => by omega, ri', by omega, (by show (1 : Nat) ≤ 1 + 41 * (i + 1); omega), ?_, h.rf, hpi, ?_⟩
        · intro s hs
          rw [List.nil_append, List.mem_singleton] at hs; rw [hs]; exact W.vs.1
        · intro n s hn
          have hwr := W.run
          have hwl : w.loose = [] := by rw [hv]
          rw [hwl] at hn hwr
          rw [List.take_nil] at hn
          rw [hwr] at hn
          cases hn
          simp
      · rw [if_pos (show a.kind = 8 ∨ a.kind = 9 from Or.inr hk)]
        obtain ⟨s', hs1, hs2⟩ := loseM_eq V (a.pick.tmod 6)
        rw [← hw] at hs2
        have hpre : ∃ n, v.safe ++ v.loose.take (a.pick.tmod 6).toNat = (v.safe ++ v.loose).take n := by
          refine ⟨v.safe.length + (a.pick.tmod 6).toNat, ?_⟩
          rw [List.take_append, List.take_of_length_le (show v.safe.length ≤ v.safe.length + (a.pick.tmod 6).toNat by omega), Nat.add_sub_cancel_left]
        obtain ⟨n0, hn0⟩ := hpre
        have hpi : PI put w.width (w.safe ++ w.loose) := by
          rw [hs2]; simp only [List.append_nil]
          rw [hn0]
          intro n s hn
          rw [List.take_take] at hn
          exact h.pi _ s hn
        refine ⟨put, by rw [if_neg (by omega)], fun h1 => by omega, fun h1 => absurd hc0 h1, W.full hpi, fun _ => ?_, ri', by omega, (by show (1 : Nat) ≤ 1 + 41 * (i + 1); omega), ?_, h.rf, hpi, ?_⟩
        · rw [hs2]; exact h.qi _ _ hs1
        · intro s hs
          rw [List.nil_append, List.mem_singleton] at hs; rw [hs]; exact W.vs.1
        · intro n s hn
          have hwr := W.run
          have hwl : w.loose = [] := by rw [hs2]
          rw [hwl] at hn hwr
          rw [List.take_nil] at hn
          rw [hwr] at hn
          cases hn
          simp
      · rw [if_neg (show ¬ (a.kind = 8 ∨ a.kind = 9) by omega), if_pos (show a.kind = 10 from hk)]
        obtain ⟨d', f1, _, _⟩ := clr_it a.pick.toNat (40 * (i : Int)) v [] 0 h.ri (by omega)
        rw [f1] at hcl
        have hwi : iterV a.pick.toNat v = w := by
          have := Option.some.inj hcl
          exact congrArg Prod.fst this
        have seen : ∀ j, j < a.pick.toNat → (iterV (j + 1) v).st ∈ (past ++ moms v (a.pick.toNat - 1)) ++ [w.st] := by
          intro j hj
          rcases Nat.lt_or_ge j (a.pick.toNat - 1) with h1 | h1
          · exact List.mem_append.2 (.inl (List.mem_append.2 (.inr (List.mem_map.2 ⟨j, List.mem_range.2 h1, rfl⟩))))
          · rw [show j + 1 = a.pick.toNat by omega, hwi]
            exact List.mem_append.2 (.inr (by simp))
        obtain ⟨g1, g2, g3⟩ := iter_PQ a.pick.toNat (40 * (i : Int)) v put _ h.ri (by omega) h.pi (h.qi.mono fun x hx => List.mem_append.2 (.inl (List.mem_append.2 (.inl hx)))) seen
        rw [hwi] at g1 g2 g3
        rw [← g1] at g2 g3
        have hml : (moms v (a.pick.toNat - 1)).length = a.pick.toNat - 1 := by simp [moms]
        refine ⟨put, by rw [if_neg (by omega)], fun h1 => by omega, fun h1 => absurd hc0 h1, W.full g2, fun h1 => by omega, ri', by omega, ?_, ?_, h.rf, g2, g3⟩
        · rw [List.length_append, List.length_append, hml]; simp; omega
        · intro s hs
          rcases List.mem_append.1 hs with h1 | h1
          · rcases List.mem_append.1 h1 with h2 | h2
            · exact h.vs s h2
            · obtain ⟨j, hj, rfl⟩ := List.mem_map.1 h2
              rw [List.mem_range] at hj
              exact iter_VS h.ri (j + 1) (by omega)
          · rw [List.mem_singleton] at h1; rw [h1]; exact W.vs.1
    obtain ⟨put', hput', hTO, hcv, hin, h9, hTI⟩ := main
    have h19 := top_19 acts i (by omega) h.ri (by omega) W hok put' past (by have := hTI.np; omega) (by omega) h.vs hTI.rf hin h9
    have hnext := ih (i + 1) w put' _ (by omega) (by omega) hTI
    unfold encWd at e1'
    unfold encV at e4
    rw [e_laws_FnTop_10, mostE]
    simp (disch := omega) only [push_cast, hak, e3', e1', e2', e4, decide_eq_true (show c = c from rfl)]
    by_cases hc : c = 0
    · by_cases h1 : a.kind = 1
      · have hto := hTO h1 hc
        have hft : formT ⟨a.text, tl⟩ v.width = formM ⟨a.text, tl⟩ := if_pos (thingB_iff.2 hto)
        have hzz : (formM ⟨a.text, tl⟩).size ≤ 1099511627776 := by rw [formM_size]; have := okForm hto; omega
        have hft' := spec_FormThing_eq ⟨a.text, tl⟩ v.width
        rw [hft] at hft'
        have hsm := spec_Sum_eq (formM ⟨a.text, tl⟩) v.width hzz
        rw [if_pos ⟨h1, hc⟩] at hput'
        have happ : encQ put' = encQ put ++ [[.s (sumM (formM ⟨a.text, tl⟩) v.width), .s a.text, .l (encS tl)]] := by rw [hput']; simp [encQ]
        rw [happ] at h19 hnext
        simp (disch := omega) only [push_cast, hft', hsm]
        exact h19.trans hnext
      · rw [if_neg fun h => h1 h.1] at hput'
        rw [hput'] at h19 hnext
        simp (disch := omega) only [push_cast]
        exact h19.trans hnext
    · have hwv := hcv hc
      have hvv := wVault_eq W.small V.small
      rw [decide_eq_true hwv] at hvv
      have hvv' : L_laws_wVault none [.i w.width, .i w.limit, .l (encS w.safe), .l (encS w.loose), .i w.st.width, .i w.st.now, .i w.st.given, .i w.st.births, .l (encK w.st.things), .l (encP w.st.pins), .l (encL w.st.leases), .i w.rd.phase, .l (encS w.rd.queue), .l (encS w.rd.marked), .i w.rd.top, .i w.rd.at_, .i w.rd.rounds, .i v.width, .i v.limit, .l (encS v.safe), .l (encS v.loose), .i v.st.width, .i v.st.now, .i v.st.given, .i v.st.births, .l (encK v.st.things), .l (encP v.st.pins), .l (encL v.st.leases), .i v.rd.phase, .l (encS v.rd.queue), .l (encS v.rd.marked), .i v.rd.top, .i v.rd.at_, .i v.rd.rounds] = _ := hvv
      rw [if_neg fun h => hc h.2] at hput'
      rw [hput'] at h19 hnext
      by_cases h1 : a.kind = 1
      · simp (disch := omega) only [push_cast, hvv']
        exact h19.trans hnext
      · simp (disch := omega) only [push_cast, hvv']
        exact h19.trans hnext
theorem top_all {c : Rw} (hc : ∀ i, 0 ≤ (rd c i 0).int ∧ (rd c i 0).int ≤ 255) : L_laws_FnTop none [.l c] = some [.b true] := by
  rw [e_laws_FnTop_i]
  by_cases hbig : 1048576 < c.length
  · simp (disch := omega) only [push_cast]
  obtain ⟨v, e1, hR, h1, h2, h3⟩ := start_ok hc
  obtain ⟨acts, e2, hl, hA⟩ := drawActs_ok hc
  have hrun := hR.vv.run
  rw [h1, h2] at hrun
  have ti : TI acts 0 v [] [v.st] := by
    refine ⟨hR, Nat.le_refl _, (by show (1 : Nat) ≤ 1 + 41 * 0; omega), fun s hs => ?_, (fun q hq => nomatch hq), fun n s hn k hk => ?_, fun n s hn => ?_⟩
    · rw [List.mem_singleton] at hs; rw [hs]; exact hR.vv.vs.1
    · rw [h1, h2, List.nil_append, List.take_nil] at hn
      simp only [runL] at hn
      cases hn; cases hk
    · rw [h1, h2, List.take_nil, hrun] at hn
      cases hn; simp
  have := top_10 acts hl hA acts.length 0 v [] [v.st] (by omega) (Nat.zero_le _) ti
  simp (disch := omega) only [push_cast, e1, e2]
  exact this
end KV
end
